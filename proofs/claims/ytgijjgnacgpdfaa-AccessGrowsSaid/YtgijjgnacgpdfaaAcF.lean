/- Walks: alive (the chapter's examples). -/
import Derived.Test.YtgijjgnacgpdfaaAcE
namespace Go.Proofs.Ytgijjgnacgpdfaa
open Go.RowKit

theorem ints1 (w : World) (x : Int) (t : TypeId) : Is (w.alloc (.cells #[.int .i64 x] t)) (w.heap.size + 1) (some ⟨w.heap.size, 0, none⟩) 1 1 [x] := by
  refine ⟨rfl, Nat.le_refl _, by omega, by simp, fun _ => ⟨w.heap.size, 0, rfl, by omega, ?_⟩⟩
  have hb := Box.new w t #[.int .i64 x]
  intro i z hz j u hu
  rw [Nat.zero_add, hb.cell]
  have hj : j < 1 := by have := (List.getElem?_eq_some_iff.1 hu).1; simpa [inE] using this
  obtain rfl : j = 0 := by omega
  match i, hz with
  | 0, hz => simp at hz; subst hz; simpa [inE] using hu
theorem ints2 (w : World) (x y : Int) (t : TypeId) : Is (w.alloc (.cells #[.int .i64 x, .int .i64 y] t)) (w.heap.size + 1) (some ⟨w.heap.size, 0, none⟩) 2 2 [x, y] := by
  refine ⟨rfl, Nat.le_refl _, by omega, by simp, fun _ => ⟨w.heap.size, 0, rfl, by omega, ?_⟩⟩
  have hb := Box.new w t #[.int .i64 x, .int .i64 y]
  intro i z hz j u hu
  rw [Nat.zero_add, hb.cell]
  have hj : j < 1 := by have := (List.getElem?_eq_some_iff.1 hu).1; simpa [inE] using this
  obtain rfl : j = 0 := by omega
  match i, hz with
  | 0, hz => simp at hz; subst hz; simpa [inE] using hu
  | 1, hz => simp at hz; subst hz; simpa [inE] using hu

theorem parts_ex : PartsOf 46340 2026 11 16 := ⟨by decide, by decide, by decide, by decide, by decide +kernel, by decide +kernel, by decide +kernel, by decide +kernel, by decide +kernel⟩
theorem mon_ex : ∀ y m d, PartsOf 46340 y m d → monR y m d 12 = (46705, 0) := fun y m d h => by
  obtain ⟨rfl, rfl, rfl⟩ := parts_ex.uniq h
  decide +kernel
def exR : Rg := ⟨2, 7, 100, 1⟩
def exC : Rg := ⟨1, 0, 100, 4⟩
abbrev rgC (r : Rg) : Array Value := #[.int .i64 r.lv, .int .i64 r.gr, .int .i64 r.un, .int .i64 r.th]
theorem rbox {w w' : World} {g : Nat} {r : Rg} (h : Box w g 23 (rgC r)) (hb : Below (g + 1) w w') : Box w' g 23 (rgC r) ∧
    (w'.cell? ⟨g, 0, none⟩ = some (.int .i64 r.lv) ∧ w'.cell? ⟨g, 1, none⟩ = some (.int .i64 r.gr) ∧ w'.cell? ⟨g, 2, none⟩ = some (.int .i64 r.un) ∧ w'.cell? ⟨g, 3, none⟩ = some (.int .i64 r.th)) :=
  have h' := h.below hb (by omega)
  ⟨h', h'.cell 0, h'.cell 1, h'.cell 2, h'.cell 3⟩

set_option maxRecDepth 100000 in
set_option maxHeartbeats 4000000 in
theorem alive_any (w : World) : Calls Try.prog 12 #[] w fun e w' => e = .returned (.bool true) ∧ Below w.heap.size w w' := by
  have hgd := rg_guard
  have hm1 := fun W => amay_any exR 99 false (some ⟨W.heap.size, 0, none⟩) 2 2 [3, 7] (W.alloc (.cells #[.int .i64 3, .int .i64 7] 3)) ((ints2 W 3 7 3).more (by simp))
  rw [show mayF exR 99 false (hasF [3, 7] exR.gr) = true from by decide +kernel] at hm1
  have hm2 := fun W => amay_any exR 99 false (some ⟨W.heap.size, 0, none⟩) 1 1 [3] (W.alloc (.cells #[.int .i64 3] 3)) ((ints1 W 3 3).more (by simp))
  rw [show mayF exR 99 false (hasF [3] exR.gr) = false from by decide +kernel] at hm2
  have hm3 := fun W => amay_any exR 100 false none 0 0 [] W Sl.none_
  rw [show mayF exR 100 false (hasF [] exR.gr) = true from by decide +kernel] at hm3
  have hm4 := fun W => amay_any exC 100 true none 0 0 [] W Sl.none_
  rw [show mayF exC 100 true (hasF [] exC.gr) = false from by decide +kernel] at hm4
  have ho1 := fun W => aopens_any exR W
  rw [show opnF exR = (100, true) from by decide +kernel] at ho1
  have ho2 := fun W => aopens_any exC W
  rw [show opnF exC = (0, false) from by decide +kernel] at ho2
  have hl := fun W => alevel_any exC 100 W
  rw [show lvF exC 100 = 4 from by decide +kernel] at hl
  have he1 := fun W => pemb_any (46705, 0) 3 46340 12 W mon_ex
  rw [show embF (46705, 0) 3 46340 12 = (⟨3, 0, 46705, 1⟩, 0) from by decide +kernel] at he1
  obtain ⟨q, hq⟩ := mon_exists 0 1
  have he2 := fun W => pemb_any q 2 0 1 W hq
  rw [show embF q 2 0 1 = (rg0, 1) from rfl] at he2
  have hr := fun W => aright_any ⟨2, 100, 0, 0⟩ W
  rw [show rgE ⟨2, 100, 0, 0⟩ = 2 from by decide +kernel] at hr
  have heq := rg_eql ⟨3, 0, 46705, 1⟩ ⟨3, 0, 46705, 1⟩
  rw [decide_eq_true rfl] at heq
  unfold rgV at heq hm1 hm2 hm3 hm4 ho1 ho2 hl he1 he2 hr
  simp only [exR, exC, rg0] at heq hm1 hm2 hm3 hm4 ho1 ho2 hl he1 he2 hr
  have M1 := hide hm1
  have M2 := hide hm2
  have M3 := hide hm3
  have M4 := hide hm4
  have O1 := hide ho1
  have O2 := hide ho2
  have LV := hide hl
  have E1 := hide he1
  have E2 := hide he2
  have RI := hide hr
  clear hm1 hm2 hm3 hm4 ho1 ho2 hl he1 he2 hr hq
  have B0 := hide (Below.refl (w.heap.size + 1) (w.alloc (.cells (rgC exR) 23)))
  have X0 := hide (Box.new w 23 (rgC exR))
  have HW := hide ((Below.refl w.heap.size w).alloc (Nat.le_refl _) (.cells (rgC exR) 23))
  go_enter Try.func12, Try.ntmps12
  go_wp2_with fail
  have hm := M1.out (w.alloc (.cells #[.int .i64 2, .int .i64 7, .int .i64 100, .int .i64 1] 23))
  rw [World.size_alloc] at hm
  refine hm.mono ?_
  clear hm
  rintro e w1 ⟨rfl, hb⟩
  have B1 := hide (B0.out.trans ((below_call hb).mono (by simp)))
  have hz1 := B1.out.size
  simp at hz1
  obtain ⟨c0, c1, c2, c3⟩ := (rbox X0.out B1.out).2
  simp only [exR] at c0 c1 c2 c3
  clear hb M1
  go_wp2_with fail
  refine (M2.out w1).mono ?_
  rintro e w2 ⟨rfl, hb⟩
  have B2 := hide (B1.out.trans ((below_call hb).mono (by simpa using hz1)))
  have hz2 := B2.out.size
  simp at hz2
  clear c0 c1 c2 c3 hb M2 hz1
  obtain ⟨c0, c1, c2, c3⟩ := (rbox X0.out B2.out).2
  simp only [exR] at c0 c1 c2 c3
  go_wp2_with fail
  refine (M3.out _).mono ?_
  rintro e w3 ⟨rfl, hb⟩
  have B3 := hide (B2.out.trans (hb.mono (by simpa using hz2)))
  have hz3 := B3.out.size
  simp at hz3
  clear c0 c1 c2 c3 hb M3 hz2
  obtain ⟨c0, c1, c2, c3⟩ := (rbox X0.out B3.out).2
  simp only [exR] at c0 c1 c2 c3
  go_wp2_with fail
  refine (O1.out _).mono ?_
  rintro e w4 ⟨rfl, hb⟩
  have B4 := hide (B3.out.trans (hb.mono (by simpa using hz3)))
  have hz4 := B4.out.size
  simp at hz4
  clear c0 c1 c2 c3 hb O1 hz3
  have X4 := hide (Box.new w4 23 (rgC exC))
  have B4a := hide (B4.out.alloc (by simpa using hz4) (.cells (rgC exC) 23))
  have Z4 := hide (Below.refl (w4.heap.size + 1) (w4.alloc (.cells (rgC exC) 23)))
  go_wp2_with fail
  refine (O2.out _).mono ?_
  rintro e w5 ⟨rfl, hb⟩
  have B5 := hide (B4a.out.trans (hb.mono (by have := B4a.out.size; simpa using this)))
  have Z5 := hide (Z4.out.trans (hb.mono (by simp)))
  clear hb O2
  go_wp2_with fail
  refine (E1.out _).mono ?_
  rintro e w6 ⟨rfl, hb⟩
  have B6 := hide (B5.out.trans (hb.mono (by have := B5.out.size; simpa using this)))
  have Z6 := hide (Z5.out.trans (hb.mono (by have := Z5.out.size; simpa using this)))
  clear hb E1
  have B6a := hide (B6.out.alloc (by have := B6.out.size; simpa using this) (.cells (rgC ⟨3, 0, 46705, 1⟩) 23))
  have Z6a := hide (Z6.out.alloc (by have := Z6.out.size; simpa using this) (.cells (rgC ⟨3, 0, 46705, 1⟩) 23))
  have X6 := hide (Box.new w6 23 (rgC ⟨3, 0, 46705, 1⟩))
  have Y6 := hide (Below.refl (w6.heap.size + 1) (w6.alloc (.cells (rgC ⟨3, 0, 46705, 1⟩) 23)))
  go_wp2_with fail
  refine (E2.out _).mono ?_
  rintro e w7 ⟨rfl, hb⟩
  have B7 := hide (B6a.out.trans (hb.mono (by have := B6a.out.size; simpa using this)))
  have Z7 := hide (Z6a.out.trans (hb.mono (by have := Z6a.out.size; simpa using this)))
  have Y7 := hide (Y6.out.trans (hb.mono (by simp)))
  clear hb E2
  have B7a := hide (B7.out.alloc (by have := B7.out.size; simpa using this) (.cells (rgC rg0) 23))
  have Z7a := hide (Z7.out.alloc (by have := Z7.out.size; simpa using this) (.cells (rgC rg0) 23))
  have Y7a := hide (Y7.out.alloc (by have := Y7.out.size; simpa using this) (.cells (rgC rg0) 23))
  obtain ⟨c0, c1, c2, c3⟩ := (rbox X4.out Z7.out).2
  simp only [exC] at c0 c1 c2 c3
  have hz7 : w4.heap.size < w7.heap.size := by have := Z7.out.size; simp at this; omega
  go_wp2_with fail
  refine (M4.out _).mono ?_
  rintro e w8 ⟨rfl, hb⟩
  have B8 := hide (B7a.out.trans (hb.mono (by have := B7a.out.size; simpa using this)))
  have Z8 := hide (Z7a.out.trans (hb.mono (by have := Z7a.out.size; simpa using this)))
  have Y8 := hide (Y7a.out.trans (hb.mono (by have := Y7a.out.size; simpa using this)))
  clear hb M4 c0 c1 c2 c3
  obtain ⟨c0, c1, c2, c3⟩ := (rbox X4.out Z8.out).2
  simp only [exC] at c0 c1 c2 c3
  go_wp2_with fail
  refine (LV.out _).mono ?_
  rintro e w9 ⟨rfl, hb⟩
  have B9 := hide (B8.out.trans (hb.mono (by have := B8.out.size; simpa using this)))
  have Y9 := hide (Y8.out.trans (hb.mono (by have := Y8.out.size; simpa using this)))
  clear hb LV c0 c1 c2 c3
  obtain ⟨c0, c1, c2, c3⟩ := (rbox X6.out Y9.out).2
  simp only [] at c0 c1 c2 c3
  go_wp2_with fail
  refine (RI.out _).mono ?_
  rintro e w10 ⟨rfl, hb⟩
  have B10 := hide (B9.out.trans (hb.mono (by have := B9.out.size; simpa using this)))
  clear hb RI c0 c1 c2 c3
  go_wp2
  go_ret
  exact ⟨rfl, HW.out.trans (B10.out.mono (by omega))⟩
end Go.Proofs.Ytgijjgnacgpdfaa
