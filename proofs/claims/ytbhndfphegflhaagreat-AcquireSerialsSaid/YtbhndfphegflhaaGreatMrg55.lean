/- Texts laid together: AqSg, AqSo, AqSh. -/
import Derived.Test.YtbhndfphegflhaaGreatMrg54
import Derived.Deep.RegionHeld3
import Derived.Test.YtbhndfphegflhaaGreatMrg13
import Derived.Test.YtbhndfphegflhaaGreatMrg42
import Derived.Test.YtbhndfphegflhaaGreatMrg44
import Derived.Test.YtbhndfphegflhaaGreatMrg45
import Derived.Test.YtbhndfphegflhaaGreatMrg49
import Derived.Test.YtbhndfphegflhaaGreatMrg56
set_option linter.unusedSimpArgs false
set_option linter.unusedVariables false
/- Subscribe of the program, at a state. Printed by gen_aq_sg.py. -/
namespace Go.Proofs.YtbhndfphegflhaaGreat
open Go.RowKit

set_option maxRecDepth 100000 in
theorem ssub1_any (x : Se) (r : Int) (g : Nat) (w : World) (ht : Box w g 3 #[.int .i64 r]) :
    Calls Tryz.prog 95 #[seV x, .pointer (some ⟨g, 0, none⟩)] w fun e w' => e = .returned (.bool (x.rcd == r)) ∧ Below w.heap.size w w' := by
  have B0 := hide ((Below.refl w.heap.size w).alloc (Nat.le_refl _) (.cells (seC x) 76))
  have k1 := (ht.alloc (.cells (seC x) 76)).cell 0
  simp at k1
  clear ht
  unfold seV
  go_enter Tryz.func95, Tryz.ntmps95
  go_wp2
  go_ret
  exact ⟨rfl, B0.out⟩
theorem e_ssub1 : ∀ args w, (callFunc 95 args).run Tryz.prog w = .ok (.enter 95 args) w := enters_of Tryz.func95 (by kernel_rfl) rfl
set_option maxRecDepth 100000 in
theorem ssub2_any (x : Se) (r : Int) (g : Nat) (w : World) (ht : Box w g 3 #[.int .i64 r]) :
    Calls Tryz.prog 97 #[seV x, .pointer (some ⟨g, 0, none⟩)] w fun e w' => e = .returned (.bool (decide (r < x.rcd))) ∧ Below w.heap.size w w' := by
  have B0 := hide ((Below.refl w.heap.size w).alloc (Nat.le_refl _) (.cells (seC x) 76))
  have k1 := (ht.alloc (.cells (seC x) 76)).cell 0
  simp at k1
  clear ht
  unfold seV
  go_enter Tryz.func97, Tryz.ntmps97
  go_wp2
  go_ret
  exact ⟨rfl, B0.out⟩
theorem e_ssub2 : ∀ args w, (callFunc 97 args).run Tryz.prog w = .ok (.enter 97 args) w := enters_of Tryz.func97 (by kernel_rfl) rfl

set_option maxRecDepth 100000 in
set_option maxHeartbeats 8000000 in
theorem psub_any (a : Aq) (r : Int) (p : Pt) (w : World) (hs : AqS w w.heap.size a) (hp : PtS w w.heap.size p) (hn : a.sn ≤ 100) :
    Calls Tryz.prog 43 #[aqV a, .int .i64 r, ptV p] w (ResQ w a (subE a.s r p) (insP a.s (newS r p))) := by
  have B0 := hide (((((Below.refl w.heap.size w).alloc (Nat.le_refl _) (.cells (aqC a) 27)).alloc (by simp) (.cells #[.int .i64 r] 3)).alloc (by simp; omega) (.cells (ptC p) 67)).alloc (by simp; omega) (.cells (aqC aq0) 27))
  have X0 := hide ((((Box.new w 27 (aqC a)).alloc (.cells #[.int .i64 r] 3)).alloc (.cells (ptC p) 67)).alloc (.cells (aqC aq0) 27))
  have V0 := hide (((Box.new (w.alloc (.cells (aqC a) 27)) 3 #[.int .i64 r]).alloc (.cells (ptC p) 67)).alloc (.cells (aqC aq0) 27))
  have R0 := hide (Box.new (((w.alloc (.cells (aqC a) 27)).alloc (.cells #[.int .i64 r] 3)).alloc (.cells (ptC p) 67)) 27 (aqC aq0))
  simp only [World.size_alloc] at V0 R0
  have HS := hide hs
  have HPT := hide hp
  have HN := hide (pnew37_any r p _ ((hp.below B0.out).more B0.out.size))
  have HSN := hide (subE_new (xs := a.s) (r := r) (p := p))
  have HSO := hide (subE_ok (xs := a.s) (r := r) (p := p))
  have HRC := hide (newS_rcd (r := r) (p := p))
  obtain ⟨ne, hne⟩ : ∃ ne, newE r p = ne := ⟨_, rfl⟩
  obtain ⟨S, hS⟩ : ∃ S, newS r p = S := ⟨_, rfl⟩
  have HNS := hide hS
  rw [hne] at HN HSN HSO HRC
  rw [hS] at HN HRC ⊢
  have hlen := hs.s.len
  have hbig := hs.s.big
  have HLEN := hide hlen
  clear hs hp hne hS hlen
  unfold aqC aq0 ptV seV at HN
  unfold aqV ptV
  go_enter Tryz.func43, Tryz.ntmps43
  go_wp2_with fail
  refine HN.out.mono ?_
  rintro e w1 ⟨rfl, hb⟩
  have B1 := hide (B0.out.trans (hb.mono B0.out.size))
  have X1 := hide (X0.out.below hb X0.out.lt)
  have V1 := hide (V0.out.below hb V0.out.lt)
  have R1 := hide (R0.out.below hb R0.out.lt)
  clear hb HN B0 X0 R0 V0
  obtain ⟨W2, hW2⟩ : ∃ W2, W2 = w1.alloc (.cells (seC S) 76) := ⟨_, rfl⟩
  have Y2 := hide (show Box W2 w1.heap.size 76 (seC S) by rw [hW2]; exact Box.new w1 76 (seC S))
  have B2 := hide (show Below w.heap.size w W2 by rw [hW2]; exact B1.out.alloc B1.out.size _)
  have X2 := hide (show Box W2 w.heap.size 27 (aqC a) by rw [hW2]; exact X1.out.alloc _)
  have V2 := hide (show Box W2 (w.heap.size + 1) 3 #[.int .i64 r] by rw [hW2]; exact V1.out.alloc _)
  have R2 := hide (show Box W2 (w.heap.size + 1 + 1 + 1) 27 (aqC aq0) by rw [hW2]; exact R1.out.alloc _)
  go_upto_region 2 with fail
  have hfold : w1.alloc (.cells #[.int .i64 S.rcd, .int .i64 S.start, .int .i64 S.every, .int .i64 S.pv, .int .i64 S.fv, .slice S.skA S.skn S.skc, .slice S.dbA S.dbn S.dbc, .int .i64 S.nx, .slice S.iuA S.iun S.iuc] 76) = W2 := hW2.symm
  rw [hfold]
  clear hfold hW2 B1 X1 R1 V1
  by_cases hne : (ne != 0) = true
  · have HRES := hide (HSN.out hne)
    have r0 := R2.out.cell 0
    have r1 := R2.out.cell 1
    have r2 := R2.out.cell 2
    have r3 := R2.out.cell 3
    have r4 := R2.out.cell 4
    have r5 := R2.out.cell 5
    simp [aq0] at r0 r1 r2 r3 r4 r5
    have fr := fun j => R2.out.frz j
    go_wp2
    refine bodyPost_ret (v := .tuple #[aqV aq0, .int .i64 ne]) (by simp [results, Tryz.results43, go_sem, r0, r1, r2, r3, r4, r5, aqV, aq0]) rfl ?_
    rw [HRES.out]
    exact resQ_err (by simpa using hne) (below_aq B2.out (show w.heap.size ≤ w.heap.size + 1 + 1 + 1 by omega) _ _ _ _ _ _)
  have hne' : (ne != 0) = false := by simpa using hne
  have hn0 : ne = 0 := by simpa using hne
  have HSE := hide (HSO.out hn0)
  have HRCD := hide (HRC.out hn0)
  clear hne hn0 HSN HSO HRC
  have HCF := se_containsFunc 95 #[.pointer (some ⟨w.heap.size + 1, 0, none⟩)] (fun s => s.rcd == r) e_ssub1 a.sA a.sn a.sc a.s W2 ((HS.out.s.below B2.out).more B2.out.size) (fun W c _ hW => ssub1_any c r (w.heap.size + 1) W (V2.out.below hW V2.out.lt))
  rw [any_ix] at HCF
  have HCF := hide HCF
  obtain ⟨q, hq⟩ : ∃ q, a.s.any (fun s => s.rcd == r) = q := ⟨_, rfl⟩
  have HQ := hide hq
  rw [hq] at HCF
  clear hq
  have x0 := X2.out.cell 0
  have x1 := X2.out.cell 1
  have x2 := X2.out.cell 2
  have x3 := X2.out.cell 3
  have x4 := X2.out.cell 4
  have x5 := X2.out.cell 5
  simp at x0 x1 x2 x3 x4 x5
  go_wp2_with fail
  refine HCF.out.mono ?_
  rintro e w3 ⟨rfl, hb⟩
  have B3 := hide (B2.out.trans (hb.mono B2.out.size))
  have X3 := hide (X2.out.below hb X2.out.lt)
  have V3 := hide (V2.out.below hb V2.out.lt)
  have R3 := hide (R2.out.below hb R2.out.lt)
  have Y3 := hide (Y2.out.below hb Y2.out.lt)
  have h12 : w.heap.size + 1 + 1 + 1 < w1.heap.size ∨ True := .inr trivial
  clear hb HCF x0 x1 x2 x3 x4 x5 B2 X2 V2 R2 Y2 h12
  cases q with
  | true =>
    have HRES := hide (show subE a.s r p = 7 by rw [HSE.out, if_pos HQ.out])
    have r0 := R3.out.cell 0
    have r1 := R3.out.cell 1
    have r2 := R3.out.cell 2
    have r3 := R3.out.cell 3
    have r4 := R3.out.cell 4
    have r5 := R3.out.cell 5
    simp [aq0] at r0 r1 r2 r3 r4 r5
    have fr := fun j => R3.out.frz j
    go_wp2
    refine bodyPost_ret (v := .tuple #[aqV aq0, .int .i64 7]) (by simp [results, Tryz.results43, go_sem, r0, r1, r2, r3, r4, r5, aqV, aq0]) rfl ?_
    rw [HRES.out]
    exact resQ_err (by decide) (below_aq B3.out (show w.heap.size ≤ w.heap.size + 1 + 1 + 1 by omega) _ _ _ _ _ _)
  | false =>
  have x0 := X3.out.cell 0
  have x1 := X3.out.cell 1
  have x2 := X3.out.cell 2
  have x3 := X3.out.cell 3
  have x4 := X3.out.cell 4
  have x5 := X3.out.cell 5
  simp at x0 x1 x2 x3 x4 x5
  by_cases h16 : 16 ≤ a.sn
  · have h16z : (16 : Int) ≤ (a.sn : Int) := by omega
    have HRES := hide (show subE a.s r p = 13 by rw [HSE.out, if_neg (by rw [HQ.out]; decide), if_pos (by rw [HLEN.out]; exact h16)])
    have r0 := R3.out.cell 0
    have r1 := R3.out.cell 1
    have r2 := R3.out.cell 2
    have r3 := R3.out.cell 3
    have r4 := R3.out.cell 4
    have r5 := R3.out.cell 5
    simp [aq0] at r0 r1 r2 r3 r4 r5
    have fr := fun j => R3.out.frz j
    go_wp2
    refine bodyPost_ret (v := .tuple #[aqV aq0, .int .i64 13]) (by simp [results, Tryz.results43, go_sem, r0, r1, r2, r3, r4, r5, aqV, aq0]) rfl ?_
    rw [HRES.out]
    exact resQ_err (by decide) (below_aq B3.out (show w.heap.size ≤ w.heap.size + 1 + 1 + 1 by omega) _ _ _ _ _ _)
  have h16z : ¬ (16 : Int) ≤ (a.sn : Int) := by omega
  have HRES := hide (show subE a.s r p = 0 by rw [HSE.out, if_neg (by rw [HQ.out]; decide), if_neg (by rw [HLEN.out]; exact h16)])
  have HIXC := se_indexFunc 97 #[.pointer (some ⟨w.heap.size + 1, 0, none⟩)] (fun x : Se => decide (r < x.rcd)) e_ssub2 a.sA a.sn a.sc a.s w3 ((HS.out.s.below B3.out).more B3.out.size) (fun W c _ hW => ssub2_any c r (w.heap.size + 1) W (V3.out.below hW V3.out.lt))
  have HIXC := hide HIXC
  rcases ix_cases (fun x : Se => decide (r < x.rcd)) a.s with ⟨h1, _⟩ | ⟨i, x, h1, h2, _, _⟩
  · obtain ⟨J, hJe⟩ : ∃ J, J = a.sn := ⟨_, rfl⟩
    have HINS := hide (show insP a.s S = a.s.take J ++ S :: a.s.drop J by rw [insP_n HRCD.out h1, hJe, List.take_of_length_le (by rw [HLEN.out]; exact Nat.le_refl _), List.drop_of_length_le (by rw [HLEN.out]; exact Nat.le_refl _)])
    have hJ : J ≤ a.sn := by omega
    have hJz : (J : Int) = (a.sn : Int) := by omega
    have HSZ := hide (show (a.s.take J ++ S :: a.s.drop J).length = a.sn + 1 by simp [HLEN.out]; omega)
    have HJZ := hide hJz
    rw [h1] at HIXC
    clear h1 hJe hJz
    go_wp2_with fail
    refine HIXC.out.mono ?_
    rintro e w4 ⟨rfl, hb⟩
    have B4 := hide (B3.out.trans (hb.mono B3.out.size))
    have X4 := hide (X3.out.below hb X3.out.lt)
    have R4 := hide (R3.out.below hb R3.out.lt)
    have Y4 := hide (Y3.out.below hb Y3.out.lt)
    clear hb HIXC x0 x1 x2 x3 x4 x5 B3 X3 R3 Y3 V3
    have x0 := X4.out.cell 0
    have x1 := X4.out.cell 1
    have x2 := X4.out.cell 2
    have x3 := X4.out.cell 3
    have x4 := X4.out.cell 4
    have x5 := X4.out.cell 5
    simp at x0 x1 x2 x3 x4 x5
    obtain ⟨W5, hW5⟩ : ∃ W5, W5 = w4.alloc (.cells (aqC a) 27) := ⟨_, rfl⟩
    have O5 := hide (show Box W5 w4.heap.size 27 (aqC a) by rw [hW5]; exact Box.new w4 27 (aqC a))
    have X5 := hide (show Box W5 w.heap.size 27 (aqC a) by rw [hW5]; exact X4.out.alloc _)
    have R5 := hide (show Box W5 (w.heap.size + 1 + 1 + 1) 27 (aqC aq0) by rw [hW5]; exact R4.out.alloc _)
    have Y5 := hide (show Box W5 w1.heap.size 76 (seC S) by rw [hW5]; exact Y4.out.alloc _)
    have B5 := hide (show Below w.heap.size w W5 by rw [hW5]; exact B4.out.alloc B4.out.size _)
    have hneX : w.heap.size ≠ w4.heap.size := by have := X4.out.lt; omega
    have hneY : w1.heap.size ≠ w4.heap.size := by have := Y4.out.lt; omega
    have hneR : w.heap.size + 1 + 1 + 1 ≠ w4.heap.size := by have := R4.out.lt; omega
    have hw4 := O5.out.lt
    have hwR := R5.out.lt
    have hww4 : w.heap.size ≤ w4.heap.size := B4.out.size
    go_upto_region 12 with fail
    rw [← HJZ.out]
    have hfold5 : w4.alloc (.cells #[.int .i64 a.yr, .slice a.fA a.fn a.fc, .slice a.oA a.on a.oc, .slice a.bA a.bn a.bc, .slice a.sA a.sn a.sc, .int .i64 a.nx] 27) = W5 := hW5.symm
    rw [hfold5]
    clear hfold5 hW5 x0 x1 x2 x3 x4 x5 X4 R4 Y4 B4
    have x4 := X5.out.cell 4
    simp at x4
    have y0 := Y5.out.cell 0
    have y1 := Y5.out.cell 1
    have y2 := Y5.out.cell 2
    have y3 := Y5.out.cell 3
    have y4 := Y5.out.cell 4
    have y5 := Y5.out.cell 5
    have y6 := Y5.out.cell 6
    have y7 := Y5.out.cell 7
    have y8 := Y5.out.cell 8
    simp at y0 y1 y2 y3 y4 y5 y6 y7 y8
    have HCL := hide (fun W (h : Below w.heap.size w W) => se_clone a.sA a.sn a.sc a.s W ((HS.out.s.below h).more h.size) (by omega))
    have H0 := hide (Below.refl W5.heap.size W5).drew
    have H0a := hide (((Below.refl W5.heap.size W5).alloc (Nat.le_refl _) (.cells (seC S) 76)).drew)
    have HVB := hide ((Box.new W5 76 (seC S)).drew)
    have HKS := hide (fun W (h : Hid (Below W5.heap.size W5 W)) => show W.cell? ⟨w.heap.size, 4, none⟩ = some (.slice a.sA a.sn a.sc) ∧ W.cell? ⟨w1.heap.size, 0, none⟩ = some (.int .i64 S.rcd) ∧ W.cell? ⟨w1.heap.size, 1, none⟩ = some (.int .i64 S.start) ∧ W.cell? ⟨w1.heap.size, 2, none⟩ = some (.int .i64 S.every) ∧ W.cell? ⟨w1.heap.size, 3, none⟩ = some (.int .i64 S.pv) ∧ W.cell? ⟨w1.heap.size, 4, none⟩ = some (.int .i64 S.fv) ∧ W.cell? ⟨w1.heap.size, 5, none⟩ = some (.slice S.skA S.skn S.skc) ∧ W.cell? ⟨w1.heap.size, 6, none⟩ = some (.slice S.dbA S.dbn S.dbc) ∧ W.cell? ⟨w1.heap.size, 7, none⟩ = some (.int .i64 S.nx) ∧ W.cell? ⟨w1.heap.size, 8, none⟩ = some (.slice S.iuA S.iun S.iuc) from ⟨((h.out.cell (p := ⟨w.heap.size, 4, none⟩) X5.out.lt).trans x4), ((h.out.cell (p := ⟨w1.heap.size, 0, none⟩) Y5.out.lt).trans y0), ((h.out.cell (p := ⟨w1.heap.size, 1, none⟩) Y5.out.lt).trans y1), ((h.out.cell (p := ⟨w1.heap.size, 2, none⟩) Y5.out.lt).trans y2), ((h.out.cell (p := ⟨w1.heap.size, 3, none⟩) Y5.out.lt).trans y3), ((h.out.cell (p := ⟨w1.heap.size, 4, none⟩) Y5.out.lt).trans y4), ((h.out.cell (p := ⟨w1.heap.size, 5, none⟩) Y5.out.lt).trans y5), ((h.out.cell (p := ⟨w1.heap.size, 6, none⟩) Y5.out.lt).trans y6), ((h.out.cell (p := ⟨w1.heap.size, 7, none⟩) Y5.out.lt).trans y7), ((h.out.cell (p := ⟨w1.heap.size, 8, none⟩) Y5.out.lt).trans y8)⟩)
    have HKS9 := hide (fun W (h : Hid (Below W5.heap.size W5 W)) (u8 : Value) => show (W.setCell ⟨w4.heap.size, 4, none⟩ u8).cell? ⟨w.heap.size, 4, none⟩ = some (.slice a.sA a.sn a.sc) ∧ (W.setCell ⟨w4.heap.size, 4, none⟩ u8).cell? ⟨w1.heap.size, 0, none⟩ = some (.int .i64 S.rcd) ∧ (W.setCell ⟨w4.heap.size, 4, none⟩ u8).cell? ⟨w1.heap.size, 1, none⟩ = some (.int .i64 S.start) ∧ (W.setCell ⟨w4.heap.size, 4, none⟩ u8).cell? ⟨w1.heap.size, 2, none⟩ = some (.int .i64 S.every) ∧ (W.setCell ⟨w4.heap.size, 4, none⟩ u8).cell? ⟨w1.heap.size, 3, none⟩ = some (.int .i64 S.pv) ∧ (W.setCell ⟨w4.heap.size, 4, none⟩ u8).cell? ⟨w1.heap.size, 4, none⟩ = some (.int .i64 S.fv) ∧ (W.setCell ⟨w4.heap.size, 4, none⟩ u8).cell? ⟨w1.heap.size, 5, none⟩ = some (.slice S.skA S.skn S.skc) ∧ (W.setCell ⟨w4.heap.size, 4, none⟩ u8).cell? ⟨w1.heap.size, 6, none⟩ = some (.slice S.dbA S.dbn S.dbc) ∧ (W.setCell ⟨w4.heap.size, 4, none⟩ u8).cell? ⟨w1.heap.size, 7, none⟩ = some (.int .i64 S.nx) ∧ (W.setCell ⟨w4.heap.size, 4, none⟩ u8).cell? ⟨w1.heap.size, 8, none⟩ = some (.slice S.iuA S.iun S.iuc) from ⟨(by have h9 := ((X5.out.below h.out X5.out.lt).far (p := ⟨w4.heap.size, 4, none⟩) hneX u8).cell 4; simpa using h9), (by have h9 := ((Y5.out.below h.out Y5.out.lt).far (p := ⟨w4.heap.size, 4, none⟩) hneY u8).cell 0; simpa using h9), (by have h9 := ((Y5.out.below h.out Y5.out.lt).far (p := ⟨w4.heap.size, 4, none⟩) hneY u8).cell 1; simpa using h9), (by have h9 := ((Y5.out.below h.out Y5.out.lt).far (p := ⟨w4.heap.size, 4, none⟩) hneY u8).cell 2; simpa using h9), (by have h9 := ((Y5.out.below h.out Y5.out.lt).far (p := ⟨w4.heap.size, 4, none⟩) hneY u8).cell 3; simpa using h9), (by have h9 := ((Y5.out.below h.out Y5.out.lt).far (p := ⟨w4.heap.size, 4, none⟩) hneY u8).cell 4; simpa using h9), (by have h9 := ((Y5.out.below h.out Y5.out.lt).far (p := ⟨w4.heap.size, 4, none⟩) hneY u8).cell 5; simpa using h9), (by have h9 := ((Y5.out.below h.out Y5.out.lt).far (p := ⟨w4.heap.size, 4, none⟩) hneY u8).cell 6; simpa using h9), (by have h9 := ((Y5.out.below h.out Y5.out.lt).far (p := ⟨w4.heap.size, 4, none⟩) hneY u8).cell 7; simpa using h9), (by have h9 := ((Y5.out.below h.out Y5.out.lt).far (p := ⟨w4.heap.size, 4, none⟩) hneY u8).cell 8; simpa using h9)⟩)
    go_region_held3 (fun w' => w'.cell? ⟨w.heap.size, 4, none⟩ = some (.slice a.sA a.sn a.sc) ∧ w'.cell? ⟨w1.heap.size, 0, none⟩ = some (.int .i64 S.rcd) ∧ w'.cell? ⟨w1.heap.size, 1, none⟩ = some (.int .i64 S.start) ∧ w'.cell? ⟨w1.heap.size, 2, none⟩ = some (.int .i64 S.every) ∧ w'.cell? ⟨w1.heap.size, 3, none⟩ = some (.int .i64 S.pv) ∧ w'.cell? ⟨w1.heap.size, 4, none⟩ = some (.int .i64 S.fv) ∧ w'.cell? ⟨w1.heap.size, 5, none⟩ = some (.slice S.skA S.skn S.skc) ∧ w'.cell? ⟨w1.heap.size, 6, none⟩ = some (.slice S.dbA S.dbn S.dbc) ∧ w'.cell? ⟨w1.heap.size, 7, none⟩ = some (.int .i64 S.nx) ∧ w'.cell? ⟨w1.heap.size, 8, none⟩ = some (.slice S.iuA S.iun S.iuc))
      (first | with_reducible exact HKS.out _ H0 | with_reducible exact HKS.out _ H0a | with_reducible exact HKS.out _ hS1 | with_reducible exact HKS.out _ (hbel_alloc hS1 _) | with_reducible exact HKS.out _ hS2 | with_reducible exact HKS.out _ hS7 | with_reducible exact HKS9.out _ hS7 _)
      (first
        | (go_at_call 99; with_reducible refine (HCL.out _ (B5.out.trans (H0.out.mono B5.out.size))).mono ?_; rintro e w6 ⟨vc, rfl, hoc, hbc⟩; have hbc := (show Below _ _ w6 by first | exact hbc | exact hbc.1); have hS1 := hbel_call H0 hbc; have HOC1 := hide (own_base hoc (show W5.heap.size ≤ _ from H0.out.size) : Seo w6 W5.heap.size vc a.s))
        | (go_at_call 99; with_reducible refine (HCL.out _ (B5.out.trans (H0a.out.mono B5.out.size))).mono ?_; rintro e w6 ⟨vc, rfl, hoc, hbc⟩; have hbc := (show Below _ _ w6 by first | exact hbc | exact hbc.1); have hS2 := hbel_call H0a hbc; have HV2 := hide (HVB.out.below hbc (by simp)); have HNE2 := hide (show vc.ownBlock ≠ some W5.heap.size from fun e => by have h := (World.ownsRow.lt hoc _ e).1; simp at h; omega); have HOC2 := hide (own_base hoc (show W5.heap.size ≤ _ from H0a.out.size) : Seo w6 W5.heap.size vc a.s))
        | (go_at_call 98; with_reducible refine (se_insert W5.heap.size vc a.sn J a.s S w6.heap.size (w6.alloc (.cells (seC S) 76)) (by have h := HOC1.out; unfold Seo at h; rw [HLEN.out] at h; exact h.alloc _) HLEN.out hJ (by omega) (by have := hS1.out.size; simp; omega) (Box.new w6 76 (seC S)) (fun e => by have h := (World.ownsRow.lt HOC1.out _ e).2; omega)).mono ?_; rintro e w7 ⟨v7, rfl, ho7, hb7⟩; have hS7 := hide ((hbel_alloc hS1 (.cells (seC S) 76)).out.trans hb7); have O7 := O5.out.below hS7.out O5.out.lt; have o4 := O7.cell 4; have of4 := O7.frz 4; simp at o4; have hsz7 : (a.s.take J ++ S :: a.s.drop J).length = a.sn + 1 := HSZ.out; obtain ⟨A7, c7, hv7, _⟩ := Seo_sl (show Seo w7 W5.heap.size v7 (a.s.take J ++ S :: a.s.drop J) by unfold Seo; rw [hsz7]; exact ho7) (by rw [hsz7]; omega); rw [hsz7] at hv7; subst hv7; have HO7 := hide ho7; clear ho7 hb7 O7 hsz7)
        | (go_at_call 98; with_reducible refine (se_insert W5.heap.size vc a.sn J a.s S W5.heap.size w6 (by have h := HOC2.out; unfold Seo at h; rw [HLEN.out] at h; exact h) HLEN.out hJ (by omega) hS2.out.size HV2.out HNE2.out).mono ?_; rintro e w7 ⟨v7, rfl, ho7, hb7⟩; have hS7 := hide (hS2.out.trans hb7); have O7 := O5.out.below hS7.out O5.out.lt; have o4 := O7.cell 4; have of4 := O7.frz 4; simp at o4; have hsz7 : (a.s.take J ++ S :: a.s.drop J).length = a.sn + 1 := HSZ.out; obtain ⟨A7, c7, hv7, _⟩ := Seo_sl (show Seo w7 W5.heap.size v7 (a.s.take J ++ S :: a.s.drop J) by unfold Seo; rw [hsz7]; exact ho7) (by rw [hsz7]; omega); rw [hsz7] at hv7; subst hv7; have HO7 := hide ho7; clear ho7 hb7 O7 hsz7))
    all_goals
      clear o4 of4 x4 y0 y1 y2 y3 y4 y5 y6 y7 y8
      have O7 := hide (O5.out.below hS7.out O5.out.lt)
      have R7 := hide (R5.out.below hS7.out R5.out.lt)
      have B7 := hide (B5.out.trans (hS7.out.mono B5.out.size))
      have HB9 := hide (below_aq (B7.out.setCell (p := ⟨w4.heap.size, 4, none⟩) hww4 (.slice A7 (a.sn + 1) c7)) (show w.heap.size ≤ w.heap.size + 1 + 1 + 1 by omega) (.int .i64 a.yr) (.slice a.fA a.fn a.fc) (.slice a.oA a.on a.oc) (.slice a.bA a.bn a.bc) (.slice A7 (a.sn + 1) c7) (.int .i64 a.nx))
      have t0 := O7.out.cell 0
      have t1 := O7.out.cell 1
      have t2 := O7.out.cell 2
      have t3 := O7.out.cell 3
      have t4 := O7.out.cell 4
      have t5 := O7.out.cell 5
      simp at t0 t1 t2 t3 t4 t5
      have r0 := R7.out.cell 0
      have r1 := R7.out.cell 1
      have r2 := R7.out.cell 2
      have r3 := R7.out.cell 3
      have r4 := R7.out.cell 4
      have r5 := R7.out.cell 5
      simp [aq0] at r0 r1 r2 r3 r4 r5
      have ft := fun j => O7.out.frz j
      have fr := fun j => R7.out.frz j
      go_wp2
      refine bodyPost_ret (v := .tuple #[aqV { a with sA := A7, sn := a.sn + 1, sc := c7, s := a.s.take J ++ S :: a.s.drop J }, .int .i64 0]) (by simp [results, Tryz.results43, go_sem, r0, r1, r2, r3, r4, r5, t0, t1, t2, t3, t4, t5, aqV]) rfl ?_
      rw [HRES.out]
      refine ⟨_, rfl, ?_, AqQ.subs (by rw [HINS.out]; exact SesQ.refl _) A7 (a.sn + 1) c7, HB9.out⟩
      have h9 := HB9.out
      refine ⟨(HS.out.f.below h9).more h9.size, (HS.out.o.below h9).more h9.size, fun y hy => ((HS.out.os y hy).below h9).more h9.size, (HS.out.b.below h9).more h9.size, ?_, fun y hy => ?_⟩
      · refine Sl.of_own seE_len (base := W5.heap.size) (e := 76) ?_ HSZ.out (show a.sn + 1 ≤ 140737488355328 by omega)
        (iterate 6 (refine own_setp ?_ (by show w.heap.size + 1 + 1 + 1 < _; omega) _))
        refine own_setp ?_ (by show w4.heap.size < _; omega) _
        exact HO7.out
      · rcases mem_ins hy with rfl | hy
        · have h0 := newS_S (r := r) HPT.out
          rw [HNS.out] at h0
          exact (h0.below h9).more h9.size
        · exact ((HS.out.ss y hy).below h9).more h9.size
  · obtain ⟨J, hJe⟩ : ∃ J, J = i := ⟨_, rfl⟩
    have HINS := hide (show insP a.s S = a.s.take J ++ S :: a.s.drop J by rw [hJe]; exact insP_i HRCD.out h1)
    have hJ : J ≤ a.sn := by have := (List.getElem?_eq_some_iff.1 h2).1; have := HLEN.out; omega
    have hJ0 : ¬ (J : Int) < 0 := by omega
    have HSZ := hide (show (a.s.take J ++ S :: a.s.drop J).length = a.sn + 1 by simp [HLEN.out]; omega)
    rw [h1, ← hJe] at HIXC
    clear h1 h2 hJe
    go_wp2_with fail
    refine HIXC.out.mono ?_
    rintro e w4 ⟨rfl, hb⟩
    have B4 := hide (B3.out.trans (hb.mono B3.out.size))
    have X4 := hide (X3.out.below hb X3.out.lt)
    have R4 := hide (R3.out.below hb R3.out.lt)
    have Y4 := hide (Y3.out.below hb Y3.out.lt)
    clear hb HIXC x0 x1 x2 x3 x4 x5 B3 X3 R3 Y3 V3
    have x0 := X4.out.cell 0
    have x1 := X4.out.cell 1
    have x2 := X4.out.cell 2
    have x3 := X4.out.cell 3
    have x4 := X4.out.cell 4
    have x5 := X4.out.cell 5
    simp at x0 x1 x2 x3 x4 x5
    obtain ⟨W5, hW5⟩ : ∃ W5, W5 = w4.alloc (.cells (aqC a) 27) := ⟨_, rfl⟩
    have O5 := hide (show Box W5 w4.heap.size 27 (aqC a) by rw [hW5]; exact Box.new w4 27 (aqC a))
    have X5 := hide (show Box W5 w.heap.size 27 (aqC a) by rw [hW5]; exact X4.out.alloc _)
    have R5 := hide (show Box W5 (w.heap.size + 1 + 1 + 1) 27 (aqC aq0) by rw [hW5]; exact R4.out.alloc _)
    have Y5 := hide (show Box W5 w1.heap.size 76 (seC S) by rw [hW5]; exact Y4.out.alloc _)
    have B5 := hide (show Below w.heap.size w W5 by rw [hW5]; exact B4.out.alloc B4.out.size _)
    have hneX : w.heap.size ≠ w4.heap.size := by have := X4.out.lt; omega
    have hneY : w1.heap.size ≠ w4.heap.size := by have := Y4.out.lt; omega
    have hneR : w.heap.size + 1 + 1 + 1 ≠ w4.heap.size := by have := R4.out.lt; omega
    have hw4 := O5.out.lt
    have hwR := R5.out.lt
    have hww4 : w.heap.size ≤ w4.heap.size := B4.out.size
    go_upto_region 12 with fail
    have hfold5 : w4.alloc (.cells #[.int .i64 a.yr, .slice a.fA a.fn a.fc, .slice a.oA a.on a.oc, .slice a.bA a.bn a.bc, .slice a.sA a.sn a.sc, .int .i64 a.nx] 27) = W5 := hW5.symm
    rw [hfold5]
    clear hfold5 hW5 x0 x1 x2 x3 x4 x5 X4 R4 Y4 B4
    have x4 := X5.out.cell 4
    simp at x4
    have y0 := Y5.out.cell 0
    have y1 := Y5.out.cell 1
    have y2 := Y5.out.cell 2
    have y3 := Y5.out.cell 3
    have y4 := Y5.out.cell 4
    have y5 := Y5.out.cell 5
    have y6 := Y5.out.cell 6
    have y7 := Y5.out.cell 7
    have y8 := Y5.out.cell 8
    simp at y0 y1 y2 y3 y4 y5 y6 y7 y8
    have HCL := hide (fun W (h : Below w.heap.size w W) => se_clone a.sA a.sn a.sc a.s W ((HS.out.s.below h).more h.size) (by omega))
    have H0 := hide (Below.refl W5.heap.size W5).drew
    have H0a := hide (((Below.refl W5.heap.size W5).alloc (Nat.le_refl _) (.cells (seC S) 76)).drew)
    have HVB := hide ((Box.new W5 76 (seC S)).drew)
    have HKS := hide (fun W (h : Hid (Below W5.heap.size W5 W)) => show W.cell? ⟨w.heap.size, 4, none⟩ = some (.slice a.sA a.sn a.sc) ∧ W.cell? ⟨w1.heap.size, 0, none⟩ = some (.int .i64 S.rcd) ∧ W.cell? ⟨w1.heap.size, 1, none⟩ = some (.int .i64 S.start) ∧ W.cell? ⟨w1.heap.size, 2, none⟩ = some (.int .i64 S.every) ∧ W.cell? ⟨w1.heap.size, 3, none⟩ = some (.int .i64 S.pv) ∧ W.cell? ⟨w1.heap.size, 4, none⟩ = some (.int .i64 S.fv) ∧ W.cell? ⟨w1.heap.size, 5, none⟩ = some (.slice S.skA S.skn S.skc) ∧ W.cell? ⟨w1.heap.size, 6, none⟩ = some (.slice S.dbA S.dbn S.dbc) ∧ W.cell? ⟨w1.heap.size, 7, none⟩ = some (.int .i64 S.nx) ∧ W.cell? ⟨w1.heap.size, 8, none⟩ = some (.slice S.iuA S.iun S.iuc) from ⟨((h.out.cell (p := ⟨w.heap.size, 4, none⟩) X5.out.lt).trans x4), ((h.out.cell (p := ⟨w1.heap.size, 0, none⟩) Y5.out.lt).trans y0), ((h.out.cell (p := ⟨w1.heap.size, 1, none⟩) Y5.out.lt).trans y1), ((h.out.cell (p := ⟨w1.heap.size, 2, none⟩) Y5.out.lt).trans y2), ((h.out.cell (p := ⟨w1.heap.size, 3, none⟩) Y5.out.lt).trans y3), ((h.out.cell (p := ⟨w1.heap.size, 4, none⟩) Y5.out.lt).trans y4), ((h.out.cell (p := ⟨w1.heap.size, 5, none⟩) Y5.out.lt).trans y5), ((h.out.cell (p := ⟨w1.heap.size, 6, none⟩) Y5.out.lt).trans y6), ((h.out.cell (p := ⟨w1.heap.size, 7, none⟩) Y5.out.lt).trans y7), ((h.out.cell (p := ⟨w1.heap.size, 8, none⟩) Y5.out.lt).trans y8)⟩)
    have HKS9 := hide (fun W (h : Hid (Below W5.heap.size W5 W)) (u8 : Value) => show (W.setCell ⟨w4.heap.size, 4, none⟩ u8).cell? ⟨w.heap.size, 4, none⟩ = some (.slice a.sA a.sn a.sc) ∧ (W.setCell ⟨w4.heap.size, 4, none⟩ u8).cell? ⟨w1.heap.size, 0, none⟩ = some (.int .i64 S.rcd) ∧ (W.setCell ⟨w4.heap.size, 4, none⟩ u8).cell? ⟨w1.heap.size, 1, none⟩ = some (.int .i64 S.start) ∧ (W.setCell ⟨w4.heap.size, 4, none⟩ u8).cell? ⟨w1.heap.size, 2, none⟩ = some (.int .i64 S.every) ∧ (W.setCell ⟨w4.heap.size, 4, none⟩ u8).cell? ⟨w1.heap.size, 3, none⟩ = some (.int .i64 S.pv) ∧ (W.setCell ⟨w4.heap.size, 4, none⟩ u8).cell? ⟨w1.heap.size, 4, none⟩ = some (.int .i64 S.fv) ∧ (W.setCell ⟨w4.heap.size, 4, none⟩ u8).cell? ⟨w1.heap.size, 5, none⟩ = some (.slice S.skA S.skn S.skc) ∧ (W.setCell ⟨w4.heap.size, 4, none⟩ u8).cell? ⟨w1.heap.size, 6, none⟩ = some (.slice S.dbA S.dbn S.dbc) ∧ (W.setCell ⟨w4.heap.size, 4, none⟩ u8).cell? ⟨w1.heap.size, 7, none⟩ = some (.int .i64 S.nx) ∧ (W.setCell ⟨w4.heap.size, 4, none⟩ u8).cell? ⟨w1.heap.size, 8, none⟩ = some (.slice S.iuA S.iun S.iuc) from ⟨(by have h9 := ((X5.out.below h.out X5.out.lt).far (p := ⟨w4.heap.size, 4, none⟩) hneX u8).cell 4; simpa using h9), (by have h9 := ((Y5.out.below h.out Y5.out.lt).far (p := ⟨w4.heap.size, 4, none⟩) hneY u8).cell 0; simpa using h9), (by have h9 := ((Y5.out.below h.out Y5.out.lt).far (p := ⟨w4.heap.size, 4, none⟩) hneY u8).cell 1; simpa using h9), (by have h9 := ((Y5.out.below h.out Y5.out.lt).far (p := ⟨w4.heap.size, 4, none⟩) hneY u8).cell 2; simpa using h9), (by have h9 := ((Y5.out.below h.out Y5.out.lt).far (p := ⟨w4.heap.size, 4, none⟩) hneY u8).cell 3; simpa using h9), (by have h9 := ((Y5.out.below h.out Y5.out.lt).far (p := ⟨w4.heap.size, 4, none⟩) hneY u8).cell 4; simpa using h9), (by have h9 := ((Y5.out.below h.out Y5.out.lt).far (p := ⟨w4.heap.size, 4, none⟩) hneY u8).cell 5; simpa using h9), (by have h9 := ((Y5.out.below h.out Y5.out.lt).far (p := ⟨w4.heap.size, 4, none⟩) hneY u8).cell 6; simpa using h9), (by have h9 := ((Y5.out.below h.out Y5.out.lt).far (p := ⟨w4.heap.size, 4, none⟩) hneY u8).cell 7; simpa using h9), (by have h9 := ((Y5.out.below h.out Y5.out.lt).far (p := ⟨w4.heap.size, 4, none⟩) hneY u8).cell 8; simpa using h9)⟩)
    go_region_held3 (fun w' => w'.cell? ⟨w.heap.size, 4, none⟩ = some (.slice a.sA a.sn a.sc) ∧ w'.cell? ⟨w1.heap.size, 0, none⟩ = some (.int .i64 S.rcd) ∧ w'.cell? ⟨w1.heap.size, 1, none⟩ = some (.int .i64 S.start) ∧ w'.cell? ⟨w1.heap.size, 2, none⟩ = some (.int .i64 S.every) ∧ w'.cell? ⟨w1.heap.size, 3, none⟩ = some (.int .i64 S.pv) ∧ w'.cell? ⟨w1.heap.size, 4, none⟩ = some (.int .i64 S.fv) ∧ w'.cell? ⟨w1.heap.size, 5, none⟩ = some (.slice S.skA S.skn S.skc) ∧ w'.cell? ⟨w1.heap.size, 6, none⟩ = some (.slice S.dbA S.dbn S.dbc) ∧ w'.cell? ⟨w1.heap.size, 7, none⟩ = some (.int .i64 S.nx) ∧ w'.cell? ⟨w1.heap.size, 8, none⟩ = some (.slice S.iuA S.iun S.iuc))
      (first | with_reducible exact HKS.out _ H0 | with_reducible exact HKS.out _ H0a | with_reducible exact HKS.out _ hS1 | with_reducible exact HKS.out _ (hbel_alloc hS1 _) | with_reducible exact HKS.out _ hS2 | with_reducible exact HKS.out _ hS7 | with_reducible exact HKS9.out _ hS7 _)
      (first
        | (go_at_call 99; with_reducible refine (HCL.out _ (B5.out.trans (H0.out.mono B5.out.size))).mono ?_; rintro e w6 ⟨vc, rfl, hoc, hbc⟩; have hbc := (show Below _ _ w6 by first | exact hbc | exact hbc.1); have hS1 := hbel_call H0 hbc; have HOC1 := hide (own_base hoc (show W5.heap.size ≤ _ from H0.out.size) : Seo w6 W5.heap.size vc a.s))
        | (go_at_call 99; with_reducible refine (HCL.out _ (B5.out.trans (H0a.out.mono B5.out.size))).mono ?_; rintro e w6 ⟨vc, rfl, hoc, hbc⟩; have hbc := (show Below _ _ w6 by first | exact hbc | exact hbc.1); have hS2 := hbel_call H0a hbc; have HV2 := hide (HVB.out.below hbc (by simp)); have HNE2 := hide (show vc.ownBlock ≠ some W5.heap.size from fun e => by have h := (World.ownsRow.lt hoc _ e).1; simp at h; omega); have HOC2 := hide (own_base hoc (show W5.heap.size ≤ _ from H0a.out.size) : Seo w6 W5.heap.size vc a.s))
        | (go_at_call 98; with_reducible refine (se_insert W5.heap.size vc a.sn J a.s S w6.heap.size (w6.alloc (.cells (seC S) 76)) (by have h := HOC1.out; unfold Seo at h; rw [HLEN.out] at h; exact h.alloc _) HLEN.out hJ (by omega) (by have := hS1.out.size; simp; omega) (Box.new w6 76 (seC S)) (fun e => by have h := (World.ownsRow.lt HOC1.out _ e).2; omega)).mono ?_; rintro e w7 ⟨v7, rfl, ho7, hb7⟩; have hS7 := hide ((hbel_alloc hS1 (.cells (seC S) 76)).out.trans hb7); have O7 := O5.out.below hS7.out O5.out.lt; have o4 := O7.cell 4; have of4 := O7.frz 4; simp at o4; have hsz7 : (a.s.take J ++ S :: a.s.drop J).length = a.sn + 1 := HSZ.out; obtain ⟨A7, c7, hv7, _⟩ := Seo_sl (show Seo w7 W5.heap.size v7 (a.s.take J ++ S :: a.s.drop J) by unfold Seo; rw [hsz7]; exact ho7) (by rw [hsz7]; omega); rw [hsz7] at hv7; subst hv7; have HO7 := hide ho7; clear ho7 hb7 O7 hsz7)
        | (go_at_call 98; with_reducible refine (se_insert W5.heap.size vc a.sn J a.s S W5.heap.size w6 (by have h := HOC2.out; unfold Seo at h; rw [HLEN.out] at h; exact h) HLEN.out hJ (by omega) hS2.out.size HV2.out HNE2.out).mono ?_; rintro e w7 ⟨v7, rfl, ho7, hb7⟩; have hS7 := hide (hS2.out.trans hb7); have O7 := O5.out.below hS7.out O5.out.lt; have o4 := O7.cell 4; have of4 := O7.frz 4; simp at o4; have hsz7 : (a.s.take J ++ S :: a.s.drop J).length = a.sn + 1 := HSZ.out; obtain ⟨A7, c7, hv7, _⟩ := Seo_sl (show Seo w7 W5.heap.size v7 (a.s.take J ++ S :: a.s.drop J) by unfold Seo; rw [hsz7]; exact ho7) (by rw [hsz7]; omega); rw [hsz7] at hv7; subst hv7; have HO7 := hide ho7; clear ho7 hb7 O7 hsz7))
    all_goals
      clear o4 of4 x4 y0 y1 y2 y3 y4 y5 y6 y7 y8
      have O7 := hide (O5.out.below hS7.out O5.out.lt)
      have R7 := hide (R5.out.below hS7.out R5.out.lt)
      have B7 := hide (B5.out.trans (hS7.out.mono B5.out.size))
      have HB9 := hide (below_aq (B7.out.setCell (p := ⟨w4.heap.size, 4, none⟩) hww4 (.slice A7 (a.sn + 1) c7)) (show w.heap.size ≤ w.heap.size + 1 + 1 + 1 by omega) (.int .i64 a.yr) (.slice a.fA a.fn a.fc) (.slice a.oA a.on a.oc) (.slice a.bA a.bn a.bc) (.slice A7 (a.sn + 1) c7) (.int .i64 a.nx))
      have t0 := O7.out.cell 0
      have t1 := O7.out.cell 1
      have t2 := O7.out.cell 2
      have t3 := O7.out.cell 3
      have t4 := O7.out.cell 4
      have t5 := O7.out.cell 5
      simp at t0 t1 t2 t3 t4 t5
      have r0 := R7.out.cell 0
      have r1 := R7.out.cell 1
      have r2 := R7.out.cell 2
      have r3 := R7.out.cell 3
      have r4 := R7.out.cell 4
      have r5 := R7.out.cell 5
      simp [aq0] at r0 r1 r2 r3 r4 r5
      have ft := fun j => O7.out.frz j
      have fr := fun j => R7.out.frz j
      go_wp2
      refine bodyPost_ret (v := .tuple #[aqV { a with sA := A7, sn := a.sn + 1, sc := c7, s := a.s.take J ++ S :: a.s.drop J }, .int .i64 0]) (by simp [results, Tryz.results43, go_sem, r0, r1, r2, r3, r4, r5, t0, t1, t2, t3, t4, t5, aqV]) rfl ?_
      rw [HRES.out]
      refine ⟨_, rfl, ?_, AqQ.subs (by rw [HINS.out]; exact SesQ.refl _) A7 (a.sn + 1) c7, HB9.out⟩
      have h9 := HB9.out
      refine ⟨(HS.out.f.below h9).more h9.size, (HS.out.o.below h9).more h9.size, fun y hy => ((HS.out.os y hy).below h9).more h9.size, (HS.out.b.below h9).more h9.size, ?_, fun y hy => ?_⟩
      · refine Sl.of_own seE_len (base := W5.heap.size) (e := 76) ?_ HSZ.out (show a.sn + 1 ≤ 140737488355328 by omega)
        (iterate 6 (refine own_setp ?_ (by show w.heap.size + 1 + 1 + 1 < _; omega) _))
        refine own_setp ?_ (by show w4.heap.size < _; omega) _
        exact HO7.out
      · rcases mem_ins hy with rfl | hy
        · have h0 := newS_S (r := r) HPT.out
          rw [HNS.out] at h0
          exact (h0.below h9).more h9.size
        · exact ((HS.out.ss y hy).below h9).more h9.size
end Go.Proofs.YtbhndfphegflhaaGreat

/- A paper (AcquireSerials), opened. Printed by gen_aq_sh.py. -/
namespace Go.Proofs.YtbhndfphegflhaaGreat
open Go.RowKit Go.ChangeShapes Go.WideShapes Go.Deep

structure Pp where
  rcd : Int
  day : Int
  vol : Int
  num : Int
  itm : Int
  pt : Pt
def ppV (x : Pp) : Value := .agg #[.int .i64 x.rcd, .int .i64 x.day, .int .i64 x.vol, .int .i64 x.num, .int .i64 x.itm, .int .i64 x.pt.start, .int .i64 x.pt.every, .int .i64 x.pt.pv, .int .i64 x.pt.fv, .slice x.pt.skA x.pt.skn x.pt.skc, .slice x.pt.dbA x.pt.dbn x.pt.dbc]
abbrev ppC (x : Pp) : Array Value := #[.int .i64 x.rcd, .int .i64 x.day, .int .i64 x.vol, .int .i64 x.num, .int .i64 x.itm, .int .i64 x.pt.start, .int .i64 x.pt.every, .int .i64 x.pt.pv, .int .i64 x.pt.fv, .slice x.pt.skA x.pt.skn x.pt.skc, .slice x.pt.dbA x.pt.dbn x.pt.dbc]
structure PpO (w : World) (x : Pp) : Prop where
  sk : x.pt.skn ≤ 20 → Is w w.heap.size x.pt.skA x.pt.skn x.pt.skc x.pt.sk
  db : x.pt.dbn ≤ 20 → Is w w.heap.size x.pt.dbA x.pt.dbn x.pt.dbc x.pt.db
section
variable {H : Type} {enc : TypeId × Value → H} {w : World} {base : Nat} {spare : Nat → Bool} {held : Bool}
theorem pp_struct : Tryz.prog.underlying 69 = some (.struct (Tryz.prog.fieldsOf 69)) := by kernel_rfl
theorem pp_cells : Tryz.prog.cellsOf 69 = 11 := by kernel_rfl
set_option maxRecDepth 100000 in
theorem open_pp {r : Reach} {b0 : Nat} {v : Value} {d : DataW H} {p : List MemPlace}
    (hv : Value.okWide Tryz.prog w r b0 69 v) (hT : DataW.Trod enc Tryz.prog w base spare held 69 v d p) : ∃ x : Pp, v = ppV x ∧ PpO w x := by
  obtain ⟨cs, rfl, hsz⟩ := okWide_struct pp_struct hv
  obtain ⟨l⟩ := cs
  obtain ⟨fuel, h⟩ := hT
  have hl : l.length = 11 := by have h1 := hsz; rw [pp_cells] at h1; simpa using h1
  match l, hl, h with
  | [c0, c1, c2, c3, c4, c5, c6, c7, c8, c9, c10], _, h =>
    have h : DataW.trod enc Tryz.prog w base spare held fuel 69 [c0, c1, c2, c3, c4, c5, c6, c7, c8, c9, c10] = some (d, p) := h
    obtain ⟨n0, y0, g0⟩ := field_of pp_struct h (j := 0) (o := 0) (ty := 3) (by kernel_rfl) one_int
    obtain ⟨a0, h0, w0⟩ := I64v_of Tryz.underlying3 (v := c0) g0
    obtain ⟨n1, y1, g1⟩ := field_of pp_struct h (j := 1) (o := 1) (ty := 3) (by kernel_rfl) one_int
    obtain ⟨a1, h1, w1⟩ := I64v_of Tryz.underlying3 (v := c1) g1
    obtain ⟨n2, y2, g2⟩ := field_of pp_struct h (j := 2) (o := 2) (ty := 3) (by kernel_rfl) one_int
    obtain ⟨a2, h2, w2⟩ := I64v_of Tryz.underlying3 (v := c2) g2
    obtain ⟨n3, y3, g3⟩ := field_of pp_struct h (j := 3) (o := 3) (ty := 3) (by kernel_rfl) one_int
    obtain ⟨a3, h3, w3⟩ := I64v_of Tryz.underlying3 (v := c3) g3
    obtain ⟨n4, y4, g4⟩ := field_of pp_struct h (j := 4) (o := 4) (ty := 3) (by kernel_rfl) one_int
    obtain ⟨a4, h4, w4⟩ := I64v_of Tryz.underlying3 (v := c4) g4
    obtain ⟨n5, y5, g5⟩ := field_of pp_struct h (j := 5) (o := 5) (ty := 67) (by kernel_rfl) (c := 6) (by kernel_rfl)
    obtain ⟨q, hq, hsk, hdb⟩ := pt_trod n5 [c5, c6, c7, c8, c9, c10] y5 rfl g5
    simp only [List.cons.injEq, and_true] at hq
    obtain ⟨e5, e6, e7, e8, e9, e10⟩ := hq
    subst h0 h1 h2 h3 h4 e5 e6 e7 e8 e9 e10
    exact ⟨⟨a0, a1, a2, a3, a4, q⟩, rfl, hsk, hdb⟩
end
end Go.Proofs.YtbhndfphegflhaaGreat

/- The law AcquireSerials. Printed by gen_aq_sh.py. -/
namespace Go.Proofs.YtbhndfphegflhaaGreat
open Go.RowKit

theorem AqS.put2 {w : World} {z y : Aq} {g : Nat} (h : AqS w w.heap.size z) (hR : Box w g 27 (aqC y)) (hn : ∀ x ∈ z.s, SeN x g) (u0 u1 u2 u3 u4 u5 : Value) :
    AqS ((((((w.setCell ⟨g, 0, none⟩ u0).setCell ⟨g, 1, none⟩ u1).setCell ⟨g, 2, none⟩ u2).setCell ⟨g, 3, none⟩ u3).setCell ⟨g, 4, none⟩ u4).setCell ⟨g, 5, none⟩ u5) ((((((w.setCell ⟨g, 0, none⟩ u0).setCell ⟨g, 1, none⟩ u1).setCell ⟨g, 2, none⟩ u2).setCell ⟨g, 3, none⟩ u3).setCell ⟨g, 4, none⟩ u4).setCell ⟨g, 5, none⟩ u5).heap.size z :=
  ⟨(h.f.far6 (h.f.notAt hR (aq_noFu y)) u0 u1 u2 u3 u4 u5).more (by simp), (h.o.far6 (h.o.notAt hR (aq_noOd y)) u0 u1 u2 u3 u4 u5).more (by simp),
   fun x hx => Sl.more ((h.os x hx).far6 (Sl.notAt (h.os x hx) hR (aq_noSh y)) u0 u1 u2 u3 u4 u5) (by simp), (h.b.far6 (h.b.notAt hR (aq_noBl y)) u0 u1 u2 u3 u4 u5).more (by simp),
   (h.s.far6 (h.s.notAt hR (aq_noSe y)) u0 u1 u2 u3 u4 u5).more (by simp), fun x hx => ((h.ss x hx).far6 (hn x hx) u0 u1 u2 u3 u4 u5).more (by simp)⟩
theorem box_set6s {w : World} {g : Nat} {t : TypeId} {c0 c1 c2 c3 c4 c5 : Value} (h : Box w g t #[c0, c1, c2, c3, c4, c5]) (u0 u1 u2 u3 u4 u5 : Value) :
    Box ((((((w.setCell ⟨g, 0, none⟩ u0).setCell ⟨g, 1, none⟩ u1).setCell ⟨g, 2, none⟩ u2).setCell ⟨g, 3, none⟩ u3).setCell ⟨g, 4, none⟩ u4).setCell ⟨g, 5, none⟩ u5) g t #[u0, u1, u2, u3, u4, u5] := by
  have := (((((h.set_ 0 u0).set_ 1 u1).set_ 2 u2).set_ 3 u3).set_ 4 u4).set_ 5 u5
  simpa using this
theorem box_far6 {w : World} {b g : Nat} {t : TypeId} {cs : Array Value} (h : Box w b t cs) (hne : b ≠ g) (u0 u1 u2 u3 u4 u5 : Value) :
    Box ((((((w.setCell ⟨g, 0, none⟩ u0).setCell ⟨g, 1, none⟩ u1).setCell ⟨g, 2, none⟩ u2).setCell ⟨g, 3, none⟩ u3).setCell ⟨g, 4, none⟩ u4).setCell ⟨g, 5, none⟩ u5) b t cs :=
  (((((h.far (p := ⟨g, 0, none⟩) hne u0).far (p := ⟨g, 1, none⟩) hne u1).far (p := ⟨g, 2, none⟩) hne u2).far (p := ⟨g, 3, none⟩) hne u3).far (p := ⟨g, 4, none⟩) hne u4).far (p := ⟨g, 5, none⟩) hne u5
set_option maxRecDepth 100000 in
set_option maxHeartbeats 8000000 in
theorem acquireSerials_any (a : Aq) (x : Pp) (w : World) (ho : AqO w a) (hx : PpO w x) :
    Calls Tryz.prog 10 #[aqV a, ppV x] w fun e w' => e = .returned (.bool true) ∧ Below w.heap.size w w' := by
  have B0 := hide (((Below.refl w.heap.size w).alloc (Nat.le_refl _) (.cells (aqC a) 27)).alloc (by simp) (.cells (ppC x) 69))
  have X0 := hide ((Box.new w 27 (aqC a)).alloc (.cells (ppC x) 69))
  have P0 := hide (Box.new (w.alloc (.cells (aqC a) 27)) 69 (ppC x))
  rw [World.size_alloc] at P0
  have HFIT := hide (fit_any a _ (ho.below B0.out))
  have HPLN := hide (fun W => plain_any x.pt W)
  have HO := hide ho
  have HXO := hide hx
  obtain ⟨pq, hpq⟩ : ∃ pq, (decide (x.pt.skn ≤ 20) && decide (x.pt.dbn ≤ 20)) = pq := ⟨_, rfl⟩
  have HPQ := hide hpq
  rw [hpq] at HPLN
  clear ho hx hpq
  unfold aqV at HFIT
  unfold ptV at HPLN
  unfold aqV ppV
  go_enter Tryz.func10, Tryz.ntmps10
  go_wp2_with fail
  refine HFIT.out.mono ?_
  rintro e w1 ⟨q, rfl, hq, hb⟩
  have HQ := hide hq
  have B1 := hide (B0.out.trans (hb.mono B0.out.size))
  have X1 := hide (X0.out.below hb X0.out.lt)
  have P1 := hide (P0.out.below hb P0.out.lt)
  clear hq hb HFIT B0 X0 P0
  cases q with
  | false =>
    have HAL := hide (aalive_any w1)
    go_wp2_with fail
    refine HAL.out.mono ?_
    rintro e wz ⟨rfl, hb⟩
    have BZ := hide (B1.out.trans (hb.mono B1.out.size))
    clear hb HAL
    go_wp2
    go_ret
    exact ⟨rfl, BZ.out⟩
  | true =>
  have p0 := P1.out.cell 0
  have p1 := P1.out.cell 1
  have p2 := P1.out.cell 2
  have p3 := P1.out.cell 3
  have p4 := P1.out.cell 4
  have p5 := P1.out.cell 5
  have p6 := P1.out.cell 6
  have p7 := P1.out.cell 7
  have p8 := P1.out.cell 8
  have p9 := P1.out.cell 9
  have p10 := P1.out.cell 10
  simp at p0 p1 p2 p3 p4 p5 p6 p7 p8 p9 p10
  go_wp2_with fail
  refine (HPLN.out _).mono ?_
  rintro e w2 ⟨rfl, hb⟩
  have B2 := hide (B1.out.trans (hb.mono B1.out.size))
  have X2 := hide (X1.out.below hb X1.out.lt)
  have P2 := hide (P1.out.below hb P1.out.lt)
  clear hb HPLN B1 X1 P1
  clear p0 p1 p2 p3 p4 p5 p6 p7 p8 p9 p10
  cases pq with
  | false =>
    have HAL := hide (aalive_any w2)
    go_wp2_with fail
    refine HAL.out.mono ?_
    rintro e wz ⟨rfl, hb⟩
    have BZ := hide (B2.out.trans (hb.mono B2.out.size))
    clear hb HAL
    go_wp2
    go_ret
    exact ⟨rfl, BZ.out⟩
  | true =>
  have hpq := HPQ.out
  simp only [Bool.and_eq_true, decide_eq_true_eq] at hpq
  have HPT := hide (show PtS w w.heap.size x.pt from ⟨HXO.out.sk hpq.1, HXO.out.db hpq.2⟩)
  obtain ⟨hsm, hok⟩ := HQ.out (by first | rfl | trivial)
  have HOKP := okP_iff.1 hok
  have HS := hide (HO.out.st hsm)
  have hsn : a.sn ≤ 100 := by have := hsm.sn; omega
  obtain ⟨hV, hPW, _⟩ := okSes_V (show okSes none a.s = true from HOKP.ss)
  have HV := hide hV
  have HLEN := hide HS.out.s.len
  have hsb := HS.out.s.big
  have H0 := hide (fun W (h : Below w.heap.size w W) => psub_any a x.rcd x.pt W ((HS.out.below h).more h.size) ((HPT.out.below h).more h.size) hsn)
  have H1 := hide (fun W (h : Below w.heap.size w W) => rsub_any a x.rcd x.pt W ((HS.out.below h).more h.size) ((HPT.out.below h).more h.size) hsn)
  have H2 := hide (fun W (h : Below w.heap.size w W) => parr_any a x.rcd x.vol x.num x.itm W ((HS.out.below h).more h.size) hV hsn)
  have H3 := hide (fun W (h : Below w.heap.size w W) => rarr_any a x.rcd x.vol x.num x.itm W ((HS.out.below h).more h.size) hV hPW hsn)
  obtain ⟨E1, hE1⟩ : ∃ E, subE a.s x.rcd x.pt = E := ⟨_, rfl⟩
  obtain ⟨E2, hE2⟩ : ∃ E, (arrL a.s x.rcd x.vol x.num x.itm).1 = E := ⟨_, rfl⟩
  rw [hE1] at H0 H1
  rw [hE2] at H2 H3
  unfold ResQ aqV ptV at H0 H1
  unfold ResQ aqV at H2 H3
  clear hV hPW HOKP hok hE1 hE2 hpq HO HQ HXO HPQ
  obtain ⟨W0, hW0⟩ : ∃ W0, W0 = w2 := ⟨_, rfl⟩
  rw [← hW0] at B2 X2 P2 ⊢
  have BW0 := B2
  have XB0 := X2
  have PB0 := P2
  clear B2 X2 P2 hW0
  have x0 := XB0.out.cell 0
  have x1 := XB0.out.cell 1
  have x2 := XB0.out.cell 2
  have x3 := XB0.out.cell 3
  have x4 := XB0.out.cell 4
  have x5 := XB0.out.cell 5
  simp at x0 x1 x2 x3 x4 x5
  have p0 := PB0.out.cell 0
  have p1 := PB0.out.cell 1
  have p2 := PB0.out.cell 2
  have p3 := PB0.out.cell 3
  have p4 := PB0.out.cell 4
  have p5 := PB0.out.cell 5
  have p6 := PB0.out.cell 6
  have p7 := PB0.out.cell 7
  have p8 := PB0.out.cell 8
  have p9 := PB0.out.cell 9
  have p10 := PB0.out.cell 10
  simp at p0 p1 p2 p3 p4 p5 p6 p7 p8 p9 p10
  go_wp2_with fail
  refine (H0.out W0 BW0.out).mono ?_
  rintro e w0c ⟨z0, rfl, hz, hq, hb⟩
  have HQ0 := hide hq
  clear x0 x1 x2 x3 x4 x5 p0 p1 p2 p3 p4 p5 p6 p7 p8 p9 p10
  obtain ⟨W1, hW⟩ : ∃ W, W = w0c.alloc (.cells (aqC z0) 27) := ⟨_, rfl⟩
  have HST := hide (show Below W0.heap.size W0 W1 by rw [hW]; exact hb.alloc hb.size _)
  have ZB0_1 := hide (show Box W1 w0c.heap.size 27 (aqC z0) by rw [hW]; exact Box.new w0c 27 (aqC z0))
  have HA0_1 := hide (show AqS W1 W1.heap.size z0 by rw [hW]; exact (hz.below ((Below.refl w0c.heap.size w0c).alloc (Nat.le_refl _) _)).more (by simp))
  have BW1 := hide (BW0.out.trans (HST.out.mono BW0.out.size))
  have XB1 := hide (XB0.out.below HST.out XB0.out.lt)
  have PB1 := hide (PB0.out.below HST.out PB0.out.lt)
  have hlw0 : w.heap.size ≤ w0c.heap.size := Nat.le_trans BW0.out.size hb.size
  have hl00 : w.heap.size + 1 < w0c.heap.size := Nat.lt_of_lt_of_le PB0.out.lt hb.size
  go_upto_region 4 with fail
  have hfold : w0c.alloc (.cells #[.int .i64 z0.yr, .slice z0.fA z0.fn z0.fc, .slice z0.oA z0.on z0.oc, .slice z0.bA z0.bn z0.bc, .slice z0.sA z0.sn z0.sc, .int .i64 z0.nx] 27) = W1 := hW.symm
  rw [hfold]
  clear hfold hW hz hq hb HST BW0 XB0 PB0 
  have x0 := XB1.out.cell 0
  have x1 := XB1.out.cell 1
  have x2 := XB1.out.cell 2
  have x3 := XB1.out.cell 3
  have x4 := XB1.out.cell 4
  have x5 := XB1.out.cell 5
  simp at x0 x1 x2 x3 x4 x5
  have p0 := PB1.out.cell 0
  have p1 := PB1.out.cell 1
  have p2 := PB1.out.cell 2
  have p3 := PB1.out.cell 3
  have p4 := PB1.out.cell 4
  have p5 := PB1.out.cell 5
  have p6 := PB1.out.cell 6
  have p7 := PB1.out.cell 7
  have p8 := PB1.out.cell 8
  have p9 := PB1.out.cell 9
  have p10 := PB1.out.cell 10
  simp at p0 p1 p2 p3 p4 p5 p6 p7 p8 p9 p10
  go_wp2_with fail
  refine (H1.out W1 BW1.out).mono ?_
  rintro e w1c ⟨z1, rfl, hz, hq, hb⟩
  have HQ1 := hide hq
  clear x0 x1 x2 x3 x4 x5 p0 p1 p2 p3 p4 p5 p6 p7 p8 p9 p10
  obtain ⟨W2, hW⟩ : ∃ W, W = w1c.alloc (.cells (aqC z1) 27) := ⟨_, rfl⟩
  have HST := hide (show Below W1.heap.size W1 W2 by rw [hW]; exact hb.alloc hb.size _)
  have ZB1_2 := hide (show Box W2 w1c.heap.size 27 (aqC z1) by rw [hW]; exact Box.new w1c 27 (aqC z1))
  have HA1_2 := hide (show AqS W2 W2.heap.size z1 by rw [hW]; exact (hz.below ((Below.refl w1c.heap.size w1c).alloc (Nat.le_refl _) _)).more (by simp))
  have BW2 := hide (BW1.out.trans (HST.out.mono BW1.out.size))
  have XB2 := hide (XB1.out.below HST.out XB1.out.lt)
  have PB2 := hide (PB1.out.below HST.out PB1.out.lt)
  have hlw1 : w.heap.size ≤ w1c.heap.size := Nat.le_trans BW1.out.size hb.size
  have hl01 : w0c.heap.size < w1c.heap.size := Nat.lt_of_lt_of_le ZB0_1.out.lt hb.size
  have ZB0_2 := hide (ZB0_1.out.below HST.out ZB0_1.out.lt)
  have HA0_2 := hide ((HA0_1.out.below HST.out).more HST.out.size)
  go_upto_region 5 with fail
  have hfold : w1c.alloc (.cells #[.int .i64 z1.yr, .slice z1.fA z1.fn z1.fc, .slice z1.oA z1.on z1.oc, .slice z1.bA z1.bn z1.bc, .slice z1.sA z1.sn z1.sc, .int .i64 z1.nx] 27) = W2 := hW.symm
  rw [hfold]
  clear hfold hW hz hq hb HST BW1 XB1 PB1 ZB0_1 HA0_1
  have x0 := XB2.out.cell 0
  have x1 := XB2.out.cell 1
  have x2 := XB2.out.cell 2
  have x3 := XB2.out.cell 3
  have x4 := XB2.out.cell 4
  have x5 := XB2.out.cell 5
  simp at x0 x1 x2 x3 x4 x5
  have p0 := PB2.out.cell 0
  have p1 := PB2.out.cell 1
  have p2 := PB2.out.cell 2
  have p3 := PB2.out.cell 3
  have p4 := PB2.out.cell 4
  have p5 := PB2.out.cell 5
  have p6 := PB2.out.cell 6
  have p7 := PB2.out.cell 7
  have p8 := PB2.out.cell 8
  have p9 := PB2.out.cell 9
  have p10 := PB2.out.cell 10
  simp at p0 p1 p2 p3 p4 p5 p6 p7 p8 p9 p10
  go_wp2_with fail
  refine (H2.out W2 BW2.out).mono ?_
  rintro e w2c ⟨z2, rfl, hz, hq, hb⟩
  have HQ2 := hide hq
  clear x0 x1 x2 x3 x4 x5 p0 p1 p2 p3 p4 p5 p6 p7 p8 p9 p10
  obtain ⟨W3, hW⟩ : ∃ W, W = w2c.alloc (.cells (aqC z2) 27) := ⟨_, rfl⟩
  have HST := hide (show Below W2.heap.size W2 W3 by rw [hW]; exact hb.alloc hb.size _)
  have ZB2_3 := hide (show Box W3 w2c.heap.size 27 (aqC z2) by rw [hW]; exact Box.new w2c 27 (aqC z2))
  have HA2_3 := hide (show AqS W3 W3.heap.size z2 by rw [hW]; exact (hz.below ((Below.refl w2c.heap.size w2c).alloc (Nat.le_refl _) _)).more (by simp))
  have BW3 := hide (BW2.out.trans (HST.out.mono BW2.out.size))
  have XB3 := hide (XB2.out.below HST.out XB2.out.lt)
  have PB3 := hide (PB2.out.below HST.out PB2.out.lt)
  have hlw2 : w.heap.size ≤ w2c.heap.size := Nat.le_trans BW2.out.size hb.size
  have ZB0_3 := hide (ZB0_2.out.below HST.out ZB0_2.out.lt)
  have HA0_3 := hide ((HA0_2.out.below HST.out).more HST.out.size)
  have ZB1_3 := hide (ZB1_2.out.below HST.out ZB1_2.out.lt)
  have HA1_3 := hide ((HA1_2.out.below HST.out).more HST.out.size)
  go_upto_region 6 with fail
  have hfold : w2c.alloc (.cells #[.int .i64 z2.yr, .slice z2.fA z2.fn z2.fc, .slice z2.oA z2.on z2.oc, .slice z2.bA z2.bn z2.bc, .slice z2.sA z2.sn z2.sc, .int .i64 z2.nx] 27) = W3 := hW.symm
  rw [hfold]
  clear hfold hW hz hq hb HST BW2 XB2 PB2 ZB0_2 HA0_2 ZB1_2 HA1_2
  have x0 := XB3.out.cell 0
  have x1 := XB3.out.cell 1
  have x2 := XB3.out.cell 2
  have x3 := XB3.out.cell 3
  have x4 := XB3.out.cell 4
  have x5 := XB3.out.cell 5
  simp at x0 x1 x2 x3 x4 x5
  have p0 := PB3.out.cell 0
  have p1 := PB3.out.cell 1
  have p2 := PB3.out.cell 2
  have p3 := PB3.out.cell 3
  have p4 := PB3.out.cell 4
  have p5 := PB3.out.cell 5
  have p6 := PB3.out.cell 6
  have p7 := PB3.out.cell 7
  have p8 := PB3.out.cell 8
  have p9 := PB3.out.cell 9
  have p10 := PB3.out.cell 10
  simp at p0 p1 p2 p3 p4 p5 p6 p7 p8 p9 p10
  go_wp2_with fail
  refine (H3.out W3 BW3.out).mono ?_
  rintro e w3c ⟨z3, rfl, hz, hq, hb⟩
  have HQ3 := hide hq
  clear x0 x1 x2 x3 x4 x5 p0 p1 p2 p3 p4 p5 p6 p7 p8 p9 p10
  obtain ⟨W4, hW⟩ : ∃ W, W = w3c.alloc (.cells (aqC z3) 27) := ⟨_, rfl⟩
  have HST := hide (show Below W3.heap.size W3 W4 by rw [hW]; exact hb.alloc hb.size _)
  have ZB3_4 := hide (show Box W4 w3c.heap.size 27 (aqC z3) by rw [hW]; exact Box.new w3c 27 (aqC z3))
  have HA3_4 := hide (show AqS W4 W4.heap.size z3 by rw [hW]; exact (hz.below ((Below.refl w3c.heap.size w3c).alloc (Nat.le_refl _) _)).more (by simp))
  have BW4 := hide (BW3.out.trans (HST.out.mono BW3.out.size))
  have XB4 := hide (XB3.out.below HST.out XB3.out.lt)
  have PB4 := hide (PB3.out.below HST.out PB3.out.lt)
  have hlw3 : w.heap.size ≤ w3c.heap.size := Nat.le_trans BW3.out.size hb.size
  have ZB0_4 := hide (ZB0_3.out.below HST.out ZB0_3.out.lt)
  have HA0_4 := hide ((HA0_3.out.below HST.out).more HST.out.size)
  have ZB1_4 := hide (ZB1_3.out.below HST.out ZB1_3.out.lt)
  have HA1_4 := hide ((HA1_3.out.below HST.out).more HST.out.size)
  have ZB2_4 := hide (ZB2_3.out.below HST.out ZB2_3.out.lt)
  have HA2_4 := hide ((HA2_3.out.below HST.out).more HST.out.size)
  go_upto_region 7 with fail
  have hfold : w3c.alloc (.cells #[.int .i64 z3.yr, .slice z3.fA z3.fn z3.fc, .slice z3.oA z3.on z3.oc, .slice z3.bA z3.bn z3.bc, .slice z3.sA z3.sn z3.sc, .int .i64 z3.nx] 27) = W4 := hW.symm
  rw [hfold]
  clear hfold hW hz hq hb HST BW3 XB3 PB3 ZB0_3 HA0_3 ZB1_3 HA1_3 ZB2_3 HA2_3
  clear H0 H1 H2 H3
  have HSM1 := hide (fun W (h : Below W4.heap.size W4 W) => same40_any z0 z1 W (HQ0.out.of3 HQ1.out) ((HA0_4.out.below h).more h.size) ((HA1_4.out.below h).more h.size))
  have HSM2 := hide (fun W (h : Below W4.heap.size W4 W) => same40_any z2 z3 W (HQ2.out.of3 HQ3.out) ((HA2_4.out.below h).more h.size) ((HA3_4.out.below h).more h.size))
  unfold aqV at HSM1 HSM2
  have c0 := ZB0_4.out.cell 0
  have c1 := ZB0_4.out.cell 1
  have c2 := ZB0_4.out.cell 2
  have c3 := ZB0_4.out.cell 3
  have c4 := ZB0_4.out.cell 4
  have c5 := ZB0_4.out.cell 5
  simp at c0 c1 c2 c3 c4 c5
  have d0 := ZB1_4.out.cell 0
  have d1 := ZB1_4.out.cell 1
  have d2 := ZB1_4.out.cell 2
  have d3 := ZB1_4.out.cell 3
  have d4 := ZB1_4.out.cell 4
  have d5 := ZB1_4.out.cell 5
  simp at d0 d1 d2 d3 d4 d5
  go_wp2_with fail
  refine (HSM1.out _ (Below.refl _ _)).mono ?_
  rintro e w5 ⟨rfl, hb5⟩
  have S5 := hide hb5
  have Z25 := hide (ZB2_4.out.below hb5 ZB2_4.out.lt)
  have Z35 := hide (ZB3_4.out.below hb5 ZB3_4.out.lt)
  clear c0 c1 c2 c3 c4 c5 d0 d1 d2 d3 d4 d5
  have c0 := Z25.out.cell 0
  have c1 := Z25.out.cell 1
  have c2 := Z25.out.cell 2
  have c3 := Z25.out.cell 3
  have c4 := Z25.out.cell 4
  have c5 := Z25.out.cell 5
  simp at c0 c1 c2 c3 c4 c5
  have d0 := Z35.out.cell 0
  have d1 := Z35.out.cell 1
  have d2 := Z35.out.cell 2
  have d3 := Z35.out.cell 3
  have d4 := Z35.out.cell 4
  have d5 := Z35.out.cell 5
  simp at d0 d1 d2 d3 d4 d5
  clear hb5
  go_wp2_with fail
  refine (HSM2.out _ S5.out).mono ?_
  rintro e w6 ⟨rfl, hb6⟩
  have S6 := hide (S5.out.trans (hb6.mono S5.out.size))
  clear c0 c1 c2 c3 c4 c5 d0 d1 d2 d3 d4 d5
  clear hb6 Z25 Z35 S5 HSM1 HSM2 HQ0 HQ1 HQ2 HQ3 HA0_4 HA1_4 HA2_4 HA3_4 ZB2_4 ZB3_4
  have ZL01 := hide (show w0c.heap.size < w1c.heap.size ∧ w.heap.size + 1 < w0c.heap.size from ⟨hl01, hl00⟩)
  have X6 := hide (XB4.out.below S6.out XB4.out.lt)
  have P6 := hide (PB4.out.below S6.out PB4.out.lt)
  have Y6 := hide (ZB0_4.out.below S6.out ZB0_4.out.lt)
  have V6 := hide (ZB1_4.out.below S6.out ZB1_4.out.lt)
  have B6 := hide (BW4.out.trans (S6.out.mono BW4.out.size))
  clear XB4 PB4 ZB0_4 ZB1_4 BW4 S6
  go_wp2
  go_loopw [13] (fun s13 wr => ∃ k : Nat, k ≤ a.sn ∧ s13 = .int .i64 k ∧ (∀ u ∈ a.s.take k, (issU (sePt u) x.day).length ≤ 60) ∧ Below w6.heap.size w6 wr) (fun s13 _ => a.sn - (intOf s13).toNat)
  case atStart => exact ⟨0, Nat.zero_le _, rfl, by simp, Below.refl _ _⟩
  case round =>
    obtain ⟨k, hk, rfl, ha, hb⟩ := hrel
    have HA := hide ha
    have HB := hide hb
    have BW := hide (B6.out.trans (hb.mono B6.out.size))
    have XW := hide (X6.out.below hb X6.out.lt)
    have PW := hide (P6.out.below hb P6.out.lt)
    clear ha hb
    by_cases hlt : k < a.sn
    · have hkz : (k : Int) < (a.sn : Int) := by omega
      obtain ⟨b, off, s, hA, hbB, hs, c0, c1, c2, c3, c4, c5, c6, c7, c8⟩ := Ses_at (HS.out.s.below BW.out) hlt
      have HSX := hide hs
      have hsm := List.mem_of_getElem? hs
      have HU := hide (fun W (h : Below w.heap.size w W) => runtil_any (sePt s) x.day W (HV.out s hsm).pt (((HS.out.ss s hsm).pt.below h).more h.size))
      obtain ⟨L, hL⟩ : ∃ L, (issU (sePt s) x.day).length = L := ⟨_, rfl⟩
      rw [hL] at HU
      have HL := hide hL
      unfold ptV sePt at HU
      have x4 := XW.out.cell 4
      have p1 := PW.out.cell 1
      simp at x4 p1
      rw [hA] at x4
      clear hs hsm hL hA c0 c7 c8
      go_upto_region 12 with fail
      have gx := Grn.cell x4
      have gp := Grn.cell p1
      have gc1 := Grn.cell c1
      have gc2 := Grn.cell c2
      have gc3 := Grn.cell c3
      have gc4 := Grn.cell c4
      have gc5 := Grn.cell c5
      have gc6 := Grn.cell c6
      clear x4 p1 c1 c2 c3 c4 c5 c6
      refine wp_region_grn (by kernel_rfl) (by kernel_rfl) ?_
      repeat (go_big_quiet_step (first | (go_at_call 47; exact Calls_grn (HU.out _ (BW.out.trans ((Grn.h _).mono BW.out.size))))))
      refine wpQuiet_nil ?_
      rintro _ ⟨q, rfl⟩
      have HB2 := hide (HB.out.trans (q.h.mono HB.out.size))
      have BW2 := hide (BW.out.trans (q.h.mono BW.out.size))
      obtain ⟨wq, hwq⟩ : ∃ wq, wq = q.W := ⟨_, rfl⟩
      rw [← hwq] at HB2 BW2 ⊢
      clear hwq gx gp gc1 gc2 gc3 gc4 gc5 gc6
      by_cases h60 : 60 < L
      · have h60z : (60 : Int) < (L : Int) := by omega
        have HAL := hide (aalive_any wq)
        go_wp2_with fail
        refine HAL.out.mono ?_
        rintro e wz ⟨rfl, hb⟩
        have BZ := hide (BW2.out.trans (hb.mono BW2.out.size))
        clear hb HAL
        go_wp2
        go_ret
        exact ⟨rfl, BZ.out⟩
      · have h60z : ¬ (60 : Int) < (L : Int) := by omega
        have HN := hide (show ∀ u ∈ a.s.take (k + 1), (issU (sePt u) x.day).length ≤ 60 by
          intro u hu
          rw [take_step HSX.out] at hu
          rcases List.mem_append.1 hu with hu | hu
          · exact HA.out u hu
          · rw [List.mem_singleton.1 hu, HL.out]; omega)
        go_wp2
        go_roundw
        case rel => exact ⟨k + 1, by omega, by go_num, HN.out, HB2.out⟩
        case measure => simp [intOf]; omega
    · have hkz : ¬ (k : Int) < (a.sn : Int) := by omega
      have HUA := hide (show ∀ s ∈ a.s, (issU (sePt s) x.day).length ≤ 60 from fun s hs => HA.out s (by rwa [List.take_of_length_le (by rw [HLEN.out]; omega)]))
      have HE1 := hide (fun W (h : Below w.heap.size w W) => pexpA_any a x.day W ((HS.out.below h).more h.size) HV.out HUA.out hsn)
      have HE2 := hide (fun W (h : Below w.heap.size w W) => rexpA_any a x.day W ((HS.out.below h).more h.size) HV.out HUA.out hsn)
      unfold ResX aqV at HE1 HE2
      have YW := hide (Y6.out.below HB.out Y6.out.lt)
      have VW := hide (V6.out.below HB.out V6.out.lt)
      have e0 := XW.out.cell 0
      have e1 := XW.out.cell 1
      have e2 := XW.out.cell 2
      have e3 := XW.out.cell 3
      have e4 := XW.out.cell 4
      have e5 := XW.out.cell 5
      simp at e0 e1 e2 e3 e4 e5
      have p1 := PW.out.cell 1
      simp at p1
      go_wp2_with fail
      refine (HE1.out _ BW.out).mono ?_
      rintro e wa ⟨ya, rfl, hya, hqa, hb, hna⟩
      have NA0 := hide (show ∀ s ∈ ya.s, SeN s w0c.heap.size from hna _ (by have := YW.out.lt; omega) (fun s hs => (HS.out.ss s hs).old (by omega)))
      have NA1 := hide (show ∀ s ∈ ya.s, SeN s w1c.heap.size from hna _ (by have := VW.out.lt; omega) (fun s hs => (HS.out.ss s hs).old (by have h1 := ZL01.out; omega)))
      have HYA := hide hya
      have HQA := hide hqa
      have BA := hide (BW.out.trans (hb.mono BW.out.size))
      have XA := hide (XW.out.below hb XW.out.lt)
      have PA := hide (PW.out.below hb PW.out.lt)
      have YA := hide (YW.out.below hb YW.out.lt)
      have VA := hide (VW.out.below hb VW.out.lt)
      clear hya hqa hb hna e0 e1 e2 e3 e4 e5 p1
      have t0 := YA.out.cell 0
      have t1 := YA.out.cell 1
      have t2 := YA.out.cell 2
      have t3 := YA.out.cell 3
      have t4 := YA.out.cell 4
      have t5 := YA.out.cell 5
      simp at t0 t1 t2 t3 t4 t5
      have ft := fun j => YA.out.frz j
      go_upto_region 15 with fail
      obtain ⟨WB, hWB⟩ : ∃ WB, WB = ((((((wa.setCell ⟨w0c.heap.size, 0, none⟩ (.int .i64 ya.yr)).setCell ⟨w0c.heap.size, 1, none⟩ (.slice ya.fA ya.fn ya.fc)).setCell ⟨w0c.heap.size, 2, none⟩ (.slice ya.oA ya.on ya.oc)).setCell ⟨w0c.heap.size, 3, none⟩ (.slice ya.bA ya.bn ya.bc)).setCell ⟨w0c.heap.size, 4, none⟩ (.slice ya.sA ya.sn ya.sc)).setCell ⟨w0c.heap.size, 5, none⟩ (.int .i64 ya.nx)) := ⟨_, rfl⟩
      rw [← hWB]
      have hg01 : w1c.heap.size ≠ w0c.heap.size := by have h1 := ZL01.out; omega
      have hwg0 : w.heap.size ≠ w0c.heap.size := by have h1 := ZL01.out; omega
      have hwp0 : w.heap.size + 1 ≠ w0c.heap.size := by have h1 := ZL01.out; omega
      have YB := hide (show Box WB w0c.heap.size 27 (aqC ya) by rw [hWB]; exact box_set6s YA.out _ _ _ _ _ _)
      have VB := hide (show Box WB w1c.heap.size 27 (aqC z1) by rw [hWB]; exact box_far6 VA.out hg01 _ _ _ _ _ _)
      have XB := hide (show Box WB w.heap.size 27 (aqC a) by rw [hWB]; exact box_far6 XA.out hwg0 _ _ _ _ _ _)
      have PB := hide (show Box WB (w.heap.size + 1) 69 (ppC x) by rw [hWB]; exact box_far6 PA.out hwp0 _ _ _ _ _ _)
      have BB := hide (show Below w.heap.size w WB by rw [hWB]; exact below_aq BA.out hlw0 _ _ _ _ _ _)
      have HYB := hide (show AqS WB WB.heap.size ya by rw [hWB]; exact AqS.put2 HYA.out YA.out NA0.out _ _ _ _ _ _)
      clear hWB YA VA XA PA BA HYA ft t0 t1 t2 t3 t4 t5 NA0
      have e0 := XB.out.cell 0
      have e1 := XB.out.cell 1
      have e2 := XB.out.cell 2
      have e3 := XB.out.cell 3
      have e4 := XB.out.cell 4
      have e5 := XB.out.cell 5
      simp at e0 e1 e2 e3 e4 e5
      have p1 := PB.out.cell 1
      simp at p1
      go_wp2_with fail
      refine (HE2.out _ BB.out).mono ?_
      rintro e wb ⟨yb, rfl, hyb, hqb, hb, hnb⟩
      have NB1 := hide (show ∀ s ∈ yb.s, SeN s w1c.heap.size from hnb _ (by have := VB.out.lt; omega) (fun s hs => (HS.out.ss s hs).old (by have h1 := ZL01.out; omega)))
      have HYBB := hide hyb
      have HQB := hide hqb
      have HYC := hide ((HYB.out.below hb).more hb.size)
      have BC := hide (BB.out.trans (hb.mono BB.out.size))
      have YC := hide (YB.out.below hb YB.out.lt)
      have VC := hide (VB.out.below hb VB.out.lt)
      clear hyb hqb hb hnb e0 e1 e2 e3 e4 e5 p1 HYB YB VB XB PB BB
      have t0 := VC.out.cell 0
      have t1 := VC.out.cell 1
      have t2 := VC.out.cell 2
      have t3 := VC.out.cell 3
      have t4 := VC.out.cell 4
      have t5 := VC.out.cell 5
      simp at t0 t1 t2 t3 t4 t5
      have ft := fun j => VC.out.frz j
      go_upto_region 16 with fail
      obtain ⟨WD, hWD⟩ : ∃ WD, WD = ((((((wb.setCell ⟨w1c.heap.size, 0, none⟩ (.int .i64 yb.yr)).setCell ⟨w1c.heap.size, 1, none⟩ (.slice yb.fA yb.fn yb.fc)).setCell ⟨w1c.heap.size, 2, none⟩ (.slice yb.oA yb.on yb.oc)).setCell ⟨w1c.heap.size, 3, none⟩ (.slice yb.bA yb.bn yb.bc)).setCell ⟨w1c.heap.size, 4, none⟩ (.slice yb.sA yb.sn yb.sc)).setCell ⟨w1c.heap.size, 5, none⟩ (.int .i64 yb.nx)) := ⟨_, rfl⟩
      rw [← hWD]
      have VD := hide (show Box WD w1c.heap.size 27 (aqC yb) by rw [hWD]; exact box_set6s VC.out _ _ _ _ _ _)
      have YD := hide (show Box WD w0c.heap.size 27 (aqC ya) by rw [hWD]; exact box_far6 YC.out (fun e => hg01 e.symm) _ _ _ _ _ _)
      have BD := hide (show Below w.heap.size w WD by rw [hWD]; exact below_aq BC.out hlw1 _ _ _ _ _ _)
      have HYD := hide (show AqS WD WD.heap.size ya by rw [hWD]; exact AqS.put2 HYC.out VC.out NA1.out _ _ _ _ _ _)
      have HZD := hide (show AqS WD WD.heap.size yb by rw [hWD]; exact AqS.put2 HYBB.out VC.out NB1.out _ _ _ _ _ _)
      clear hWD VC YC BC HYC HYBB ft t0 t1 t2 t3 t4 t5 NA1 NB1
      have HAL := hide (aalive_any WD)
      go_wp2_with fail
      refine HAL.out.mono ?_
      rintro e wz ⟨rfl, hb⟩
      have BZ := hide (BD.out.trans (hb.mono BD.out.size))
      have YZ := hide (YD.out.below hb YD.out.lt)
      have VZ := hide (VD.out.below hb VD.out.lt)
      have HSM := hide (same40_any ya yb wz (HQA.out.of3 HQB.out) ((HYD.out.below hb).more hb.size) ((HZD.out.below hb).more hb.size))
      unfold aqV at HSM
      clear hb HAL
      have c0 := YZ.out.cell 0
      have c1 := YZ.out.cell 1
      have c2 := YZ.out.cell 2
      have c3 := YZ.out.cell 3
      have c4 := YZ.out.cell 4
      have c5 := YZ.out.cell 5
      simp at c0 c1 c2 c3 c4 c5
      have d0 := VZ.out.cell 0
      have d1 := VZ.out.cell 1
      have d2 := VZ.out.cell 2
      have d3 := VZ.out.cell 3
      have d4 := VZ.out.cell 4
      have d5 := VZ.out.cell 5
      simp at d0 d1 d2 d3 d4 d5
      go_wp2_with fail
      refine HSM.out.mono ?_
      rintro e wy ⟨rfl, hb⟩
      have BY := hide (BZ.out.trans (hb.mono BZ.out.size))
      clear hb
      go_wp2
      go_ret
      exact ⟨rfl, BY.out⟩
end Go.Proofs.YtbhndfphegflhaaGreat
