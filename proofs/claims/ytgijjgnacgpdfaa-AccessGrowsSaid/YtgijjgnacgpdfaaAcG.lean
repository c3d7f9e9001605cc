/- Walks: the laws AccessRights, AccessLevels. -/
import Derived.Test.YtgijjgnacgpdfaaAcF
namespace Go.Proofs.Ytgijjgnacgpdfaa
open Go.RowKit

abbrev Law (f : Nat) (args : Array Value) (w : World) : Prop := Calls Try.prog f args w fun e w' => e = .returned (.bool true) ∧ Below w.heap.size w w'

set_option maxRecDepth 100000 in
set_option maxHeartbeats 1000000 in
theorem accessRights_any (r : Rg) (w : World) : Law 3 #[rgV r] w := by
  unfold Law
  have hb0 := (Below.refl w.heap.size w).alloc (Nat.le_refl _) (.cells (rgC r) 23)
  have hx := Box.new w 23 (rgC r)
  obtain ⟨_, c0, c1, c2, c3⟩ := rbox hx (Below.refl _ _)
  have f0 := Grn.cell c0
  have f1 := Grn.cell c1
  have f2 := Grn.cell c2
  have f3 := Grn.cell c3
  have h1 := fun W => aright_any r W
  have h2 := fun W => rright_any r W
  generalize rgE r = q at h1 h2
  unfold rgV at h1 h2 ⊢
  have H1 := hide h1
  have H2 := hide h2
  have HB := hide hb0
  clear h1 h2 hb0 hx
  go_enter Try.func3, Try.ntmps3
  go_wp2_with fail
  refine wp_region_grn (by kernel_rfl) (by kernel_rfl) ?_
  repeat (go_big_quiet_step (first | (go_at_call 10; exact Calls_grn (H1.out _)) | (go_at_call 11; exact Calls_grn (H2.out _)) | (go_at_call 12; exact Calls_grn (alive_any _))))
  refine wpQuiet_nil ?_
  rintro _ ⟨p, rfl⟩
  go_wp2
  go_ret
  exact ⟨rfl, HB.out.trans (p.h.mono (by simp))⟩

set_option maxRecDepth 100000 in
set_option maxHeartbeats 1000000 in
theorem accessLevels_any (r : Rg) (day : Int) (w : World) : Law 4 #[rgV r, .int .i64 day] w := by
  unfold Law
  have hb0 := (Below.refl w.heap.size w).alloc (Nat.le_refl _) (.cells (rgC r) 23)
  have hx := Box.new w 23 (rgC r)
  have h2 := fun W => rright_any r W
  have h3 := fun W => aopens_any r W
  have h4 := fun W => ropens_any r W
  have h5 := fun W => alevel_any r day W
  have h6 := fun W => rlevel_any r day W
  generalize opnF r = o at h3 h4
  obtain ⟨o1, o2⟩ := o
  generalize lvF r day = l at h5 h6
  by_cases hz : rgE r = 0
  · rw [hz] at h2
    unfold rgV at h2 h3 h4 h5 h6 ⊢
    have H2 := hide h2
    have H3 := hide h3
    have H4 := hide h4
    have H5 := hide h5
    have H6 := hide h6
    have HB := hide hb0
    have HX := hide hx
    have B0 := hide (Below.refl (w.heap.size + 1) (w.alloc (.cells (rgC r) 23)))
    clear h2 h3 h4 h5 h6 hb0 hx hz
    go_enter Try.func4, Try.ntmps4
    go_wp2_with fail
    refine (H2.out _).mono ?_
    rintro e w1 ⟨rfl, hb⟩
    have B1 := hide (B0.out.trans (hb.mono (by simp)))
    clear hb
    obtain ⟨_, c0, c1, c2, c3⟩ := rbox HX.out B1.out
    go_wp2_with fail
    refine (H3.out _).mono ?_
    rintro e w2 ⟨rfl, hb⟩
    have B2 := hide (B1.out.trans (hb.mono (by have := B1.out.size; simpa using this)))
    clear hb c0 c1 c2 c3
    obtain ⟨_, c0, c1, c2, c3⟩ := rbox HX.out B2.out
    go_wp2_with fail
    refine (H4.out _).mono ?_
    rintro e w3 ⟨rfl, hb⟩
    have B3 := hide (B2.out.trans (hb.mono (by have := B2.out.size; simpa using this)))
    clear hb c0 c1 c2 c3
    obtain ⟨_, c0, c1, c2, c3⟩ := rbox HX.out B3.out
    have f0 := Grn.cell c0
    have f1 := Grn.cell c1
    have f2 := Grn.cell c2
    have f3 := Grn.cell c3
    go_wp2_with fail
    refine wp_region_grn (by kernel_rfl) (by kernel_rfl) ?_
    repeat (go_big_quiet_step (first | (go_at_call 15; exact Calls_grn (H5.out _)) | (go_at_call 16; exact Calls_grn (H6.out _)) | (go_at_call 12; exact Calls_grn (alive_any _))))
    refine wpQuiet_nil ?_
    rintro _ ⟨p, rfl⟩
    go_wp2
    go_ret
    exact ⟨rfl, HB.out.trans ((B3.out.trans (p.h.mono (by have := B3.out.size; simpa using this))).mono (by omega))⟩
  · have hzb : (rgE r == 0) = false := by simpa using hz
    generalize rgE r = q at h2 hzb
    unfold rgV at h2 ⊢
    have H2 := hide h2
    have HB := hide hb0
    clear h2 h3 h4 h5 h6 hb0 hx hz
    go_enter Try.func4, Try.ntmps4
    go_wp2_with fail
    refine (H2.out _).mono ?_
    rintro e w1 ⟨rfl, hb⟩
    have B1 := hide (HB.out.trans (hb.mono (by simp)))
    clear hb
    go_wp2_with fail
    refine (alive_any _).mono ?_
    rintro e w2 ⟨rfl, hb⟩
    have B2 := hide (B1.out.trans (hb.mono B1.out.size))
    clear hb
    go_wp2
    go_ret
    exact ⟨rfl, B2.out⟩
end Go.Proofs.Ytgijjgnacgpdfaa
