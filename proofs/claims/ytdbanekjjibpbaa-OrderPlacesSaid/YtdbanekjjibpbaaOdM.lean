/- Walks: SameOrder and Same, where both are the same. -/
import Derived.Test.YtdbanekjjibpbaaOdB
import Derived.Deep.QuietTactic
import Derived.BigQuiet
namespace Go.Proofs.Ytdbanekjjibpbaa
open Go.RowKit

set_option maxRecDepth 100000 in
set_option maxHeartbeats 2000000 in
theorem sameOrder_any (x : Od) (w : World) (hs : OdS w w.heap.size x) :
    Calls Try.prog 21 #[odV x, odV x] w fun e w' => e = .returned (.bool true) ∧ Below w.heap.size w w' := by
  have hle := hs.le
  have hbig := hs.big
  have B1 := hide (((Below.refl w.heap.size w).alloc (Nat.le_refl _) (.cells (odC x) 37)).alloc (by simp) (.cells (odC x) 37))
  have X1 := hide ((Box.new w 37 (odC x)).alloc (.cells (odC x) 37))
  have X2 := hide (Box.new (w.alloc (.cells (odC x) 37)) 37 (odC x))
  have HS := hide hs
  have hgd := sh_guard
  clear hs
  unfold odV
  go_enter Try.func21, Try.ntmps21
  go_wp2
  go_loopw [5] (fun i wr => ∃ k : Nat, k ≤ x.shn ∧ i = .int .i64 k ∧ Below (w.heap.size + 2) ((w.alloc (.cells (odC x) 37)).alloc (.cells (odC x) 37)) wr) (fun i _ => x.shn - (intOf i).toNat)
  case atStart => exact ⟨0, Nat.zero_le _, rfl, Below.refl _ _⟩
  case round =>
    obtain ⟨k, hk, rfl, hb⟩ := hrel
    have HB := hide hb
    have BW := hide (B1.out.trans (hb.mono (by omega)))
    obtain ⟨_, d0, d1, d2, d3, d4, d5, d6, d7, d8, d9⟩ := od_box X1.out (hb.mono (by omega))
    obtain ⟨_, e0, e1, e2, e3, e4, e5, e6, e7, e8, e9⟩ := od_box X2.out (by rw [World.size_alloc]; exact hb)
    rw [World.size_alloc] at e0 e1 e2 e3 e4 e5 e6 e7 e8 e9
    clear hb
    by_cases hlt : k < x.shn
    · obtain ⟨b, off, y, hA, hbB, hy, c0, c1⟩ := Shs_at (HS.out.below BW.out) hlt
      rw [hA] at d9 e9
      have HA := hide hA
      have hkz : (k : Int) < (x.shn : Int) := by omega
      have hq := fun w => sh_neq y y w
      simp only [decide_true, Bool.not_true] at hq
      unfold shV at hq
      clear hy hA d0 d1 d2 d3 d4 d5 d6 d7 d8 e0 e1 e2 e3 e4 e5 e6 e7 e8
      go_wp2_with fail
      go_quiet (fail)
      go_wp2
      go_roundw
      case rel => exact ⟨k + 1, by omega, by go_num, below_drewN HB.out _⟩
      case measure => simp [intOf]; omega
    · go_wp2
      go_ret
      exact ⟨rfl, BW.out⟩

set_option maxRecDepth 100000 in
set_option maxHeartbeats 2000000 in
theorem same_any (A A' : Option Addr) (n c n' c' : Nat) (xs : List Od) (w : World) (hs : Ods w w.heap.size A n c xs) (ht : Ods w w.heap.size A' n' c' xs) (hss : ∀ x ∈ xs, OdS w w.heap.size x) :
    Calls Try.prog 14 #[.slice A n c, .slice A' n' c'] w fun e w' => e = .returned (.bool true) ∧ Below w.heap.size w w' := by
  obtain rfl := hs.len
  obtain rfl := ht.len
  have hle := hs.le
  have hbig := hs.big
  have HS := hide hs
  have HT := hide ht
  have HSS := hide hss
  clear hs ht hss
  go_enter Try.func14, Try.ntmps14
  go_wp2
  go_loopw [5] (fun i wr => ∃ k : Nat, k ≤ xs.length ∧ i = .int .i64 k ∧ Below w.heap.size w wr) (fun i _ => xs.length - (intOf i).toNat)
  case atStart => exact ⟨0, Nat.zero_le _, rfl, Below.refl _ _⟩
  case round =>
    obtain ⟨k, hk, rfl, hb⟩ := hrel
    have HB := hide hb
    clear hb
    by_cases hlt : k < xs.length
    · obtain ⟨b, off, x, rfl, hbB, hx, c0, c1, c2, c3, c4, c5, c6, c7, c8, c9⟩ := Ods_at (HS.out.below HB.out) hlt
      obtain ⟨b', off', y, rfl, hbB', hy, e0, e1, e2, e3, e4, e5, e6, e7, e8, e9⟩ := Ods_at (HT.out.below HB.out) hlt
      obtain rfl : x = y := by rw [hx] at hy; exact Option.some.inj hy
      have hcall := fun W (hW : Below w.heap.size w W) => sameOrder_any x W (((HSS.out x (List.mem_of_getElem? hx)).below hW).more hW.size)
      unfold odV at hcall
      have HC := hide hcall
      have hkz : (k : Int) < (xs.length : Int) := by omega
      have hkz2 : k < xs.length := by omega
      clear hx hy hcall
      go_wp2_with fail
      go_region_with (go_at_call 21; refine (HC.out _ (by first | exact HB.out.drew | exact below_drewN HB.out _)).mono ?_; rintro e w2 ⟨rfl, hb2⟩; have HB2 := hide (HB.out.drew.trans (hb2.mono HB.out.size)); clear hb2)
      all_goals
        go_wp2
        go_roundw
        case rel => exact ⟨k + 1, by omega, by go_num, HB2.out⟩
        case measure => simp [intOf]; omega
    · go_wp2
      go_ret
      exact ⟨rfl, HB.out⟩
end Go.Proofs.Ytdbanekjjibpbaa
