/- Walks: valid; the law HoldChecks. -/
import Derived.Test.YtgjhjabnnhhkbaaHoY
import Derived.Test.YtgjhjabnnhhkbaaHoA3
namespace Go.Proofs.Ytgjhjabnnhhkbaa
open Go.RowKit

/-- At most 60 holds, and valid. -/
def validH (xs : List Ho) : Bool := decide (xs.length ≤ 60) && (rightH xs == 0)
theorem validH_of {xs : List Ho} (h : validH xs = true) : VldH xs ∧ xs.length ≤ 60 := by
  unfold validH at h
  rw [Bool.and_eq_true] at h
  exact ⟨VldH.of (by simpa using h.2), by simpa using h.1⟩
theorem hvalid_any (A : Option Addr) (n c : Nat) (xs : List Ho) (w : World) (hs : Hos w w.heap.size A n c xs) :
    Calls Try.prog 14 #[.slice A n c] w fun e w' => e = .returned (.bool (validH xs)) ∧ Below w.heap.size w w' := by
  obtain rfl := hs.len
  have hbig := hs.big
  have HR := hide (r32right_any A _ c xs w hs)
  by_cases h60 : xs.length ≤ 60
  · have h6 : (xs.length : Int) ≤ 60 := by omega
    have hr : validH xs = (rightH xs == 0) := by unfold validH; simp [h60]
    rw [hr]
    generalize rightH xs = r at HR
    clear hr hs
    go_enter Try.func14, Try.ntmps14
    go_wp2_with (go_at_call 13; refine HR.out.mono ?_; rintro e w' ⟨rfl, hb⟩)
    go_ret
    exact ⟨rfl, hb⟩
  · have h6 : ¬ (xs.length : Int) ≤ 60 := by omega
    have hr : validH xs = false := by unfold validH; simp [h60]
    rw [hr]
    clear hr hs HR
    go_enter Try.func14, Try.ntmps14
    go_wp2
    go_ret
    exact ⟨rfl, Below.refl _ _⟩

set_option maxRecDepth 100000 in
set_option maxHeartbeats 2000000 in
theorem holdChecks_any (A : Option Addr) (n c : Nat) (xs : List Ho) (w : World) (hs : Hos w w.heap.size A n c xs) :
    LawH 3 #[.slice A n c] w := by
  unfold LawH
  obtain rfl := hs.len
  have hbig := hs.big
  have hsl : ∀ W, Below w.heap.size w W → Hos W W.heap.size A xs.length c xs := fun W hW => (hs.below hW).more hW.size
  have h1 := fun W (hW : Below w.heap.size w W) => hright_any A _ c xs W (hsl W hW)
  have h2 := fun W (hW : Below w.heap.size w W) => r32right_any A _ c xs W (hsl W hW)
  generalize rightH xs = r at h1 h2
  have H1 := hide h1
  have H2 := hide h2
  clear h1 h2 hs hsl
  by_cases h70 : (70 : Int) < (xs.length : Int)
  · go_enter Try.func3, Try.ntmps3
    go_wp2_with fail
    refine (halive_any _).mono ?_
    rintro e w1 ⟨rfl, hb⟩
    go_wp2
    go_ret
    exact ⟨rfl, hb⟩
  · go_enter Try.func3, Try.ntmps3
    go_wp2_with fail
    refine (halive_any _).mono ?_
    rintro e w1 ⟨rfl, hb⟩
    have B1 := hide hb
    clear hb
    go_wp2_with fail
    refine (H1.out _ B1.out).mono ?_
    rintro e w2 ⟨rfl, hb⟩
    have B2 := hide (B1.out.trans (hb.mono B1.out.size))
    clear hb
    go_wp2_with fail
    refine (H2.out _ B2.out).mono ?_
    rintro e w3 ⟨rfl, hb⟩
    have B3 := hide (B2.out.trans (hb.mono B2.out.size))
    clear hb
    go_wp2
    go_ret
    exact ⟨rfl, B3.out⟩
end Go.Proofs.Ytgjhjabnnhhkbaa
