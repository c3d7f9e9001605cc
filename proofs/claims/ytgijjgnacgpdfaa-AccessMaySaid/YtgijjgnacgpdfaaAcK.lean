/- Walks: the law AccessMay. -/
import Derived.Test.YtgijjgnacgpdfaaAcG
namespace Go.Proofs.Ytgijjgnacgpdfaa
open Go.RowKit

set_option maxRecDepth 100000 in
set_option maxHeartbeats 1000000 in
theorem accessMay_any (r : Rg) (day : Int) (staff : Bool) (A : Option Addr) (n c : Nat) (xs : List Int) (w : World) (hs : Is w w.heap.size A n c xs) :
    Law 5 #[rgV r, .agg #[.int .i64 day, .bool staff], .slice A n c] w := by
  unfold Law
  have hbig := hs.big
  have hb0 := ((Below.refl w.heap.size w).alloc (Nat.le_refl _) (.cells (rgC r) 23)).alloc (by simp) (.cells #[.int .i64 day, .bool staff] 33)
  by_cases h60 : 60 < n
  · unfold rgV
    have HB := hide hb0
    clear hb0 hs
    go_enter Try.func5, Try.ntmps5
    go_wp2_with fail
    refine (alive_any _).mono ?_
    rintro e w1 ⟨rfl, hb⟩
    have B1 := hide (HB.out.trans (hb.mono (by simp; omega)))
    clear hb
    go_wp2
    go_ret
    exact ⟨rfl, B1.out⟩
  · have hx := (Box.new w 23 (rgC r)).alloc (.cells #[.int .i64 day, .bool staff] 33)
    have hy := Box.new (w.alloc (.cells (rgC r) 23)) 33 #[.int .i64 day, .bool staff]
    obtain ⟨_, c0, c1, c2, c3⟩ := rbox hx (Below.refl _ _)
    rw [World.size_alloc] at hy
    have d0 : World.cell? _ ⟨w.heap.size + 1, 0, none⟩ = some (.int .i64 day) := hy.cell 0
    have d1 : World.cell? _ ⟨w.heap.size + 1, 1, none⟩ = some (.bool staff) := hy.cell 1
    have f0 := Grn.cell c0
    have f1 := Grn.cell c1
    have f2 := Grn.cell c2
    have f3 := Grn.cell c3
    have g0 := Grn.cell d0
    have g1 := Grn.cell d1
    have h1 := fun W (hW : Below w.heap.size w W) => amay_any r day staff A n c xs W ((hs.below hW).more hW.size)
    have h2 := fun W (hW : Below w.heap.size w W) => rmay_any r day staff A n c xs W ((hs.below hW).more hW.size)
    generalize mayF r day staff (hasF xs r.gr) = q at h1 h2
    unfold rgV at h1 h2 ⊢
    have H1 := hide h1
    have H2 := hide h2
    have HB := hide hb0
    clear h1 h2 hb0 hx hy hs
    go_enter Try.func5, Try.ntmps5
    go_wp2_with fail
    refine wp_region_grn (by kernel_rfl) (by kernel_rfl) ?_
    repeat (go_big_quiet_step (first | (go_at_call 17; exact Calls_grn (H1.out _ (HB.out.trans ((Grn.h _).mono (by simp; omega))))) | (go_at_call 18; exact Calls_grn (H2.out _ (HB.out.trans ((Grn.h _).mono (by simp; omega))))) | (go_at_call 12; exact Calls_grn (alive_any _))))
    refine wpQuiet_nil ?_
    rintro _ ⟨p, rfl⟩
    go_wp2
    go_ret
    exact ⟨rfl, HB.out.trans (p.h.mono (by simp; omega))⟩
end Go.Proofs.Ytgijjgnacgpdfaa
