/- Texts laid together: AqSe, AqSf. -/
import Derived.Test.YtbhndfphegflhaaGreatMrg53
import Derived.Test.YtbhndfphegflhaaGreatMrg49
set_option linter.unusedSimpArgs false
set_option linter.unusedVariables false
/- Arrive of the program, at a state. Printed by gen_aq_se.py. -/
namespace Go.Proofs.YtbhndfphegflhaaGreat
open Go.RowKit

set_option maxRecDepth 100000 in
theorem sarr1_any (x : Se) (r : Int) (g : Nat) (w : World) (ht : Box w g 3 #[.int .i64 r]) :
    Calls Tryz.prog 101 #[seV x, .pointer (some ⟨g, 0, none⟩)] w fun e w' => e = .returned (.bool (x.rcd == r)) ∧ Below w.heap.size w w' := by
  have B0 := hide ((Below.refl w.heap.size w).alloc (Nat.le_refl _) (.cells (seC x) 76))
  have k1 := (ht.alloc (.cells (seC x) 76)).cell 0
  simp at k1
  clear ht
  unfold seV
  go_enter Tryz.func101, Tryz.ntmps101
  go_wp2
  go_ret
  exact ⟨rfl, B0.out⟩
theorem e_sarr1 : ∀ args w, (callFunc 101 args).run Tryz.prog w = .ok (.enter 101 args) w := enters_of Tryz.func101 (by kernel_rfl) rfl

set_option maxRecDepth 100000 in
set_option maxHeartbeats 16000000 in
theorem parr_any (a : Aq) (r v n t : Int) (w : World) (hs : AqS w w.heap.size a) (hv : ∀ s ∈ a.s, SeV s) (hn : a.sn ≤ 100) :
    Calls Tryz.prog 45 #[aqV a, .int .i64 r, .int .i64 v, .int .i64 n, .int .i64 t] w (ResQ w a (arrL a.s r v n t).1 (arrL a.s r v n t).2) := by
  have B0 := hide ((((Below.refl w.heap.size w).alloc (Nat.le_refl _) (.cells (aqC a) 27)).alloc (by simp) (.cells #[.int .i64 r] 3)).alloc (by simp; omega) (.cells (aqC aq0) 27))
  have X0 := hide (((Box.new w 27 (aqC a)).alloc (.cells #[.int .i64 r] 3)).alloc (.cells (aqC aq0) 27))
  have V0 := hide ((Box.new (w.alloc (.cells (aqC a) 27)) 3 #[.int .i64 r]).alloc (.cells (aqC aq0) 27))
  have R0 := hide (Box.new ((w.alloc (.cells (aqC a) 27)).alloc (.cells #[.int .i64 r] 3)) 27 (aqC aq0))
  simp only [World.size_alloc] at V0 R0
  have HS := hide hs
  have HE := hide (fun x (hx : x ∈ a.s) W (h : Below w.heap.size w W) => srcv_any x v n t W (((hs.ss x hx).below h).more h.size) (hv x hx))
  have HIXC := se_indexFunc 101 #[.pointer (some ⟨w.heap.size + 1, 0, none⟩)] (fun s => s.rcd == r) e_sarr1 a.sA a.sn a.sc a.s _ ((hs.s.below B0.out).more B0.out.size) (fun W c _ hW => sarr1_any c r (w.heap.size + 1) W (V0.out.below hW V0.out.lt))
  have HIXC := hide HIXC
  have hlen := hs.s.len
  have hbig := hs.s.big
  have HLEN := hide hlen
  clear hs hv hlen
  unfold ResSe seV at HE
  unfold aqC aq0 at HIXC
  rcases ix_cases (fun s : Se => s.rcd == r) a.s with ⟨h1, _⟩ | ⟨i, x, h1, h2, _, _⟩
  · have HRES := hide (show arrL a.s r v n t = (9, []) from arrL_none h1)
    rw [h1] at HIXC
    clear h1
    unfold aqV
    go_enter Tryz.func45, Tryz.ntmps45
    go_wp2_with fail
    refine HIXC.out.mono ?_
    rintro e w1 ⟨rfl, hb⟩
    have B1 := hide (B0.out.trans (hb.mono B0.out.size))
    have R1 := hide (R0.out.below hb R0.out.lt)
    clear hb HIXC
    have r0 := R1.out.cell 0
    have r1 := R1.out.cell 1
    have r2 := R1.out.cell 2
    have r3 := R1.out.cell 3
    have r4 := R1.out.cell 4
    have r5 := R1.out.cell 5
    simp [aq0] at r0 r1 r2 r3 r4 r5
    have fr := fun j => R1.out.frz j
    go_wp2
    refine bodyPost_ret (v := .tuple #[aqV aq0, .int .i64 9]) (by simp [results, Tryz.results45, go_sem, r0, r1, r2, r3, r4, r5, aqV, aq0]) rfl ?_
    rw [HRES.out]
    exact resQ_err (by decide) (below_aq B1.out (show w.heap.size ≤ w.heap.size + 1 + 1 by omega) _ _ _ _ _ _)
  have HAT0 := hide (arrL_at (r := r) (v := v) (n := n) (t := t) h1 h2)
  have hil : i < a.sn := by have := (List.getElem?_eq_some_iff.1 h2).1; have := HLEN.out; omega
  have HX := hide h2
  have HXM := hide (List.mem_of_getElem? h2)
  rw [h1] at HIXC
  clear h1 h2
  have hi0 : ¬ (i : Int) < 0 := by omega
  have hi0' : (0 : Int) ≤ (i : Int) := by omega
  have hiz : (i : Int) < (a.sn : Int) := by omega
  unfold aqV
  go_enter Tryz.func45, Tryz.ntmps45
  go_wp2_with fail
  refine HIXC.out.mono ?_
  rintro e w1 ⟨rfl, hb⟩
  have B1 := hide (B0.out.trans (hb.mono B0.out.size))
  have R1 := hide (R0.out.below hb R0.out.lt)
  have X1 := hide (X0.out.below hb X0.out.lt)
  have hz1 := R1.out.lt
  clear hb HIXC B0 X0 R0 V0
  have x0 := X1.out.cell 0
  have x1 := X1.out.cell 1
  have x2 := X1.out.cell 2
  have x3 := X1.out.cell 3
  have x4 := X1.out.cell 4
  have x5 := X1.out.cell 5
  simp at x0 x1 x2 x3 x4 x5
  obtain ⟨b, off, x', hA, hbB, hx', c0, c1, c2, c3, c4, c5, c6, c7, c8⟩ := Ses_at (HS.out.s.below B1.out) hil
  have HXE := hide (show x' = x by have h := HX.out; rw [hx'] at h; exact Option.some.inj h)
  rw [HXE.out] at c0 c1 c2 c3 c4 c5 c6 c7 c8
  rw [hA] at x4
  have HA := hide hA
  have HC := hide (HE.out x HXM.out w1 B1.out)
  obtain ⟨rr, hrr⟩ : ∃ rr, rcvS x v n t = rr := ⟨_, rfl⟩
  have HRV := hide hrr
  rw [hrr] at HC HAT0
  clear hx' hA hrr
  go_wp2_with fail
  refine HC.out.mono ?_
  rintro e w2 ⟨z, rfl, hz, hqz, hb, hna⟩
  have HZ := hide hz
  have HQZ := hide hqz
  have HNR := hide (show SeN z (w.heap.size + 1 + 1) from hna _ hz1 ((HS.out.ss x HXM.out).old (by omega)))
  have B2 := hide (B1.out.trans (hb.mono B1.out.size))
  have R2 := hide (R1.out.below hb R1.out.lt)
  have X2 := hide (X1.out.below hb X1.out.lt)
  clear hz hqz hb hna HC x0 x1 x2 x3 x4 x5 c0 c1 c2 c3 c4 c5 c6 c7 c8 B1 R1 X1
  by_cases he : rr.1 = 0
  · have heb : (rr.1 != 0) = false := by simp [he]
    have HRES := hide (show arrL a.s r v n t = (0, a.s.set i rr.2) by rw [HAT0.out, if_pos he])
    clear he
    have HCL := hide (fun W (h : Below w.heap.size w W) => se_clone a.sA a.sn a.sc a.s W ((HS.out.s.below h).more h.size) (by omega))
    rw [HA.out] at HCL
    have X3 := hide ((X2.out.alloc (.cells (seC z) 76)).alloc (.cells (aqC a) 27))
    have Z3 := hide ((Box.new w2 76 (seC z)).alloc (.cells (aqC a) 27))
    have O3 := hide (Box.new (w2.alloc (.cells (seC z) 76)) 27 (aqC a))
    have R3 := hide ((R2.out.alloc (.cells (seC z) 76)).alloc (.cells (aqC a) 27))
    have B3 := hide ((B2.out.alloc B2.out.size (.cells (seC z) 76)).alloc (by have := B2.out.size; simp; omega) (.cells (aqC a) 27))
    simp only [World.size_alloc] at O3
    obtain ⟨w3, hw3⟩ : ∃ w3, w3 = (w2.alloc (.cells (seC z) 76)).alloc (.cells (aqC a) 27) := ⟨_, rfl⟩
    have HZ3 := hide (show SeS w3 w2.heap.size z by rw [hw3]; exact HZ.out.below (((Below.refl w2.heap.size w2).alloc (Nat.le_refl _) _).alloc (by simp) _))
    have hz2 := R2.out.lt
    have hz3 : w3.heap.size = w2.heap.size + 2 := by rw [hw3]; simp
    have X2a := hide (X2.out.alloc (.cells (seC z) 76))
    have x0 := X2a.out.cell 0
    have x1 := X2a.out.cell 1
    have x2 := X2a.out.cell 2
    have x3 := X2a.out.cell 3
    have x4 := X2a.out.cell 4
    have x5 := X2a.out.cell 5
    simp at x0 x1 x2 x3 x4 x5
    go_upto_region 8 with fail
    have hfold : (w2.alloc (.cells #[.int .i64 z.rcd, .int .i64 z.start, .int .i64 z.every, .int .i64 z.pv, .int .i64 z.fv, .slice z.skA z.skn z.skc, .slice z.dbA z.dbn z.dbc, .int .i64 z.nx, .slice z.iuA z.iun z.iuc] 76)).alloc (.cells #[.int .i64 a.yr, .slice a.fA a.fn a.fc, .slice a.oA a.on a.oc, .slice a.bA a.bn a.bc, .slice a.sA a.sn a.sc, .int .i64 a.nx] 27) = w3 := hw3.symm
    rw [hfold]
    rw [← hw3] at X3 Z3 O3 R3 B3
    have HC3 := hide (HCL.out w3 B3.out)
    clear hfold hw3 x0 x1 x2 x3 x4 x5 X2 X2a R2 B2 HCL
    have x0 := X3.out.cell 0
    have x1 := X3.out.cell 1
    have x2 := X3.out.cell 2
    have x3 := X3.out.cell 3
    have x4 := X3.out.cell 4
    have x5 := X3.out.cell 5
    simp at x0 x1 x2 x3 x4 x5
    rw [HA.out] at x4
    go_wp2_with fail
    refine HC3.out.mono ?_
    rintro e w4 ⟨v1, rfl, ho, hb⟩
    have hb := (show Below w3.heap.size w3 w4 by first | exact hb | exact hb.1)
    have hz4 := hb.size
    have B4 := hide (B3.out.trans (hb.mono B3.out.size))
    have R4 := hide (R3.out.below hb R3.out.lt)
    have O4 := hide (O3.out.below hb O3.out.lt)
    have Z4 := hide (Z3.out.below hb Z3.out.lt)
    have HZ4 := hide (HZ3.out.below (hb.mono (by omega)))
    obtain ⟨g, cap, hv1, hgb, hgl⟩ := World.ownsRow.form ho (by have := HLEN.out; omega)
    subst hv1
    unfold Seo at ho
    rw [HLEN.out] at ho ⊢
    have HO4 := hide ho
    clear ho hb HC3 x0 x1 x2 x3 x4 x5 X3 R3 O3 Z3 B3 HZ3
    have o4 := O4.out.cell 4
    simp at o4
    have fo := fun j => O4.out.frz j
    go_upto_region 9 with fail
    obtain ⟨w8, hw8⟩ : ∃ w8, w8 = w4.setCell ⟨w2.heap.size + 1, 4, none⟩ (.slice (some ⟨g, 0, none⟩) a.sn cap) := ⟨_, rfl⟩
    rw [← hw8]
    have O8 := hide (show Box w8 (w2.heap.size + 1) 27 #[.int .i64 a.yr, .slice a.fA a.fn a.fc, .slice a.oA a.on a.oc, .slice a.bA a.bn a.bc, .slice (some ⟨g, 0, none⟩) a.sn cap, .int .i64 a.nx] by rw [hw8]; exact box_set4 O4.out _)
    have Z8 := hide (show Box w8 w2.heap.size 76 (seC z) by rw [hw8]; exact Z4.out.far (p := ⟨w2.heap.size + 1, 4, none⟩) (by show _ ≠ w2.heap.size + 1; omega) _)
    have R8 := hide (show Box w8 (w.heap.size + 1 + 1) 27 (aqC aq0) by rw [hw8]; exact R4.out.far (p := ⟨w2.heap.size + 1, 4, none⟩) (by show _ ≠ w2.heap.size + 1; omega) _)
    have B8 := hide (show Below w.heap.size w w8 by rw [hw8]; exact B4.out.setCell (p := ⟨w2.heap.size + 1, 4, none⟩) (by show _ ≤ w2.heap.size + 1; omega) _)
    have HZ8 := hide (show SeS w8 w2.heap.size z by rw [hw8]; exact HZ4.out.far (p := ⟨w2.heap.size + 1, 4, none⟩) (HZ4.out.old (by show w2.heap.size ≤ w2.heap.size + 1; omega)) _)
    have HO8 := hide (show w8.ownsRow w3.heap.size 76 9 (.slice (some ⟨g, 0, none⟩) a.sn cap) a.sn (a.s.flatMap seE) by rw [hw8]; exact own_setp HO4.out (p := ⟨w2.heap.size + 1, 4, none⟩) (by show w2.heap.size + 1 < _; omega) _)
    have hw8s : w8.heap.size = w4.heap.size := by rw [hw8, World.size_setCell]
    clear hw8 o4 fo O4 Z4 R4 B4 HZ4 HO4
    have o4 := O8.out.cell 4
    simp at o4
    have p0 := Z8.out.cell 0
    have p1 := Z8.out.cell 1
    have p2 := Z8.out.cell 2
    have p3 := Z8.out.cell 3
    have p4 := Z8.out.cell 4
    have p5 := Z8.out.cell 5
    have p6 := Z8.out.cell 6
    have p7 := Z8.out.cell 7
    have p8 := Z8.out.cell 8
    simp at p0 p1 p2 p3 p4 p5 p6 p7 p8
    have d0 := own_cell seE_len HO8.out HLEN.out HX.out 0 _ rfl
    have d1 := own_cell seE_len HO8.out HLEN.out HX.out 1 _ rfl
    have d2 := own_cell seE_len HO8.out HLEN.out HX.out 2 _ rfl
    have d3 := own_cell seE_len HO8.out HLEN.out HX.out 3 _ rfl
    have d4 := own_cell seE_len HO8.out HLEN.out HX.out 4 _ rfl
    have d5 := own_cell seE_len HO8.out HLEN.out HX.out 5 _ rfl
    have d6 := own_cell seE_len HO8.out HLEN.out HX.out 6 _ rfl
    have d7 := own_cell seE_len HO8.out HLEN.out HX.out 7 _ rfl
    have d8 := own_cell seE_len HO8.out HLEN.out HX.out 8 _ rfl
    simp only [Nat.add_zero] at d0
    have fg : ∀ j, w8.frozen? ⟨g, j, none⟩ = false := by
      rcases HO8.out.2 with hn | ⟨g', cap', cur, hv', hbb, hB, h4⟩
      · cases hn.1
      · cases hv'
        exact fun j => Box.frz (g := g) hB j
    have hg3 : w3.heap.size ≤ g := hgb
    go_upto_region 10 with fail
    obtain ⟨w9, hw9⟩ : ∃ w9, w9 = (((((((((w8.setCell ⟨g, i * 9, none⟩ (.int .i64 z.rcd)).setCell ⟨g, i * 9 + 1, none⟩ (.int .i64 z.start)).setCell ⟨g, i * 9 + 2, none⟩ (.int .i64 z.every)).setCell ⟨g, i * 9 + 3, none⟩ (.int .i64 z.pv)).setCell ⟨g, i * 9 + 4, none⟩ (.int .i64 z.fv)).setCell ⟨g, i * 9 + 5, none⟩ (.slice z.skA z.skn z.skc)).setCell ⟨g, i * 9 + 6, none⟩ (.slice z.dbA z.dbn z.dbc)).setCell ⟨g, i * 9 + 7, none⟩ (.int .i64 z.nx)).setCell ⟨g, i * 9 + 8, none⟩ (.slice z.iuA z.iun z.iuc)) := ⟨_, rfl⟩
    rw [← hw9]
    have hw9' : w9 = w8.setCells g (i * 9) (seE z) := hw9
    have O9 := hide (show Box w9 (w2.heap.size + 1) 27 #[.int .i64 a.yr, .slice a.fA a.fn a.fc, .slice a.oA a.on a.oc, .slice a.bA a.bn a.bc, .slice (some ⟨g, 0, none⟩) a.sn cap, .int .i64 a.nx] by rw [hw9']; exact Box.far_setCells (by omega) _ _ _ O8.out)
    have R9 := hide (show Box w9 (w.heap.size + 1 + 1) 27 (aqC aq0) by rw [hw9']; exact Box.far_setCells (by omega) _ _ _ R8.out)
    have B9 := hide (show Below w.heap.size w w9 by rw [hw9']; exact below_setCells (by omega) _ _ _ B8.out)
    have BZ := hide (show Below w2.heap.size w8 w9 by rw [hw9']; exact below_setCells (by omega) _ _ _ (Below.refl _ _))
    have HO9 := hide (show w9.ownsRow w3.heap.size 76 9 (.slice (some ⟨g, 0, none⟩) a.sn cap) a.sn ((a.s.set i z).flatMap seE) by rw [hw9']; exact own_setk seE_len HO8.out HLEN.out hil z)
    have HZ9 := hide ((HZ8.out.below BZ.out).more (show w2.heap.size ≤ w9.heap.size from Nat.le_trans (by omega) BZ.out.size))
    clear hw9 hw9' o4 p0 p1 p2 p3 p4 p5 p6 p7 p8 d0 d1 d2 d3 d4 d5 d6 d7 d8 fg O8 R8 B8 BZ HO8 HZ8 Z8
    have x0 := O9.out.cell 0
    have x1 := O9.out.cell 1
    have x2 := O9.out.cell 2
    have x3 := O9.out.cell 3
    have x4 := O9.out.cell 4
    have x5 := O9.out.cell 5
    simp at x0 x1 x2 x3 x4 x5
    have r0 := R9.out.cell 0
    have r1 := R9.out.cell 1
    have r2 := R9.out.cell 2
    have r3 := R9.out.cell 3
    have r4 := R9.out.cell 4
    have r5 := R9.out.cell 5
    simp [aq0] at r0 r1 r2 r3 r4 r5
    have fr := fun j => R9.out.frz j
    have HB9 := hide (below_aq B9.out (show w.heap.size ≤ w.heap.size + 1 + 1 by omega) (.int .i64 a.yr) (.slice a.fA a.fn a.fc) (.slice a.oA a.on a.oc) (.slice a.bA a.bn a.bc) (.slice (some ⟨g, 0, none⟩) a.sn cap) (.int .i64 a.nx))
    go_wp2
    refine bodyPost_ret (v := .tuple #[aqV { a with sA := some ⟨g, 0, none⟩, sn := a.sn, sc := cap, s := a.s.set i z }, .int .i64 0]) (by simp [results, Tryz.results45, go_sem, r0, r1, r2, r3, r4, r5, x0, x1, x2, x3, x4, x5, aqV]) rfl ?_
    rw [HRES.out]
    refine ⟨_, rfl, ?_, AqQ.subs ((SesQ.refl a.s).set HQZ.out) _ _ _, HB9.out⟩
    have h9 := HB9.out
    have hls : (a.s.set i z).length = a.sn := by rw [List.length_set]; exact HLEN.out
    refine ⟨(HS.out.f.below h9).more h9.size, (HS.out.o.below h9).more h9.size, fun y hy => ((HS.out.os y hy).below h9).more h9.size, (HS.out.b.below h9).more h9.size, ?_, fun y hy => ?_⟩
    · refine Sl.of_own seE_len (base := w3.heap.size) (e := 76) ?_ hls (show a.sn ≤ 140737488355328 by omega)
      (iterate 6 (refine own_setp ?_ (by show w.heap.size + 1 + 1 < _; omega) _))
      exact HO9.out
    · rcases List.mem_or_eq_of_mem_set hy with hy | rfl
      · exact ((HS.out.ss y hy).below h9).more h9.size
      · exact (HZ9.out.far6 HNR.out _ _ _ _ _ _).more (by simp)
  · have heb : (rr.1 != 0) = true := by simpa using he
    have HER := hide he
    have HRES := hide (show arrL a.s r v n t = (rr.1, []) by rw [HAT0.out, if_neg he])
    clear he
    have R2a := hide (R2.out.alloc (.cells (seC z) 76))
    have r0 := R2a.out.cell 0
    have r1 := R2a.out.cell 1
    have r2 := R2a.out.cell 2
    have r3 := R2a.out.cell 3
    have r4 := R2a.out.cell 4
    have r5 := R2a.out.cell 5
    simp [aq0] at r0 r1 r2 r3 r4 r5
    have fr := fun j => R2a.out.frz j
    have B2a := hide (B2.out.alloc B2.out.size (.cells (seC z) 76))
    go_wp2
    refine bodyPost_ret (v := .tuple #[aqV aq0, .int .i64 rr.1]) (by simp [results, Tryz.results45, go_sem, r0, r1, r2, r3, r4, r5, aqV, aq0]) rfl ?_
    rw [HRES.out]
    exact resQ_err HER.out (below_aq B2a.out (show w.heap.size ≤ w.heap.size + 1 + 1 by omega) _ _ _ _ _ _)
end Go.Proofs.YtbhndfphegflhaaGreat

/- Subscribe of the reference, at a state. Printed by gen_aq_sf.py. -/
namespace Go.Proofs.YtbhndfphegflhaaGreat
open Go.RowKit

theorem subE_new {xs : List Se} {r : Int} {p : Pt} (h : (newE r p != 0) = true) : subE xs r p = newE r p := by unfold subE; rw [if_pos h]
theorem subE_ok {xs : List Se} {r : Int} {p : Pt} (h : newE r p = 0) : subE xs r p = if xs.any (fun x => x.rcd == r) = true then 7 else if 16 ≤ xs.length then 13 else 0 := by
  unfold subE; rw [if_neg (by rw [h]; decide)]
theorem insP_n {xs : List Se} {r : Int} {s : Se} (hr : s.rcd = r) (h : ix (fun x : Se => decide (r < x.rcd)) xs = -1) : insP xs s = xs ++ [s] := by subst hr; exact insP_none h
theorem insP_i {xs : List Se} {r : Int} {s : Se} {i : Nat} (hr : s.rcd = r) (h : ix (fun x : Se => decide (r < x.rcd)) xs = (i : Int)) : insP xs s = xs.take i ++ s :: xs.drop i := by subst hr; exact insP_at h
theorem mem_ins {xs : List Se} {s y : Se} {i : Nat} (h : y ∈ xs.take i ++ s :: xs.drop i) : y = s ∨ y ∈ xs := by
  rcases List.mem_append.1 h with h | h
  · exact .inr (List.mem_of_mem_take h)
  · rcases List.mem_cons.1 h with h | h
    · exact .inl h
    · exact .inr (List.mem_of_mem_drop h)
theorem drop_take_step {α : Type} {xs : List α} {i k : Nat} {x : α} (hi : i ≤ k) (h : xs[k]? = some x) : (xs.drop i).take (k + 1 - i) = (xs.drop i).take (k - i) ++ [x] := by
  rw [show k + 1 - i = (k - i) + 1 by omega]
  exact take_step (by rw [List.getElem?_drop, show i + (k - i) = k by omega]; exact h)

set_option maxRecDepth 100000 in
set_option maxHeartbeats 16000000 in
theorem rsub_any (a : Aq) (r : Int) (p : Pt) (w : World) (hs : AqS w w.heap.size a) (hp : PtS w w.heap.size p) (hn : a.sn ≤ 100) :
    Calls Tryz.prog 44 #[aqV a, .int .i64 r, ptV p] w (ResQ w a (subE a.s r p) (insP a.s (newS r p))) := by
  obtain ⟨i0, hi0, hz0, hz1, hz2⟩ := info_parts se_info
  have HI := hide (And.intro hi0 (And.intro hz0 (And.intro hz1 hz2)))
  have B0 := hide ((((Below.refl w.heap.size w).alloc (Nat.le_refl _) (.cells (aqC a) 27)).alloc (by simp) (.cells (ptC p) 67)).alloc (by simp; omega) (.cells (aqC aq0) 27))
  have X0 := hide (((Box.new w 27 (aqC a)).alloc (.cells (ptC p) 67)).alloc (.cells (aqC aq0) 27))
  have R0 := hide (Box.new ((w.alloc (.cells (aqC a) 27)).alloc (.cells (ptC p) 67)) 27 (aqC aq0))
  simp only [World.size_alloc] at R0
  have HS := hide hs
  have HPT := hide hp
  have HN := hide (rnew37_any r p _ ((hp.below B0.out).more B0.out.size))
  have HSN := hide (subE_new (xs := a.s) (r := r) (p := p))
  have HSO := hide (subE_ok (xs := a.s) (r := r) (p := p))
  have HRC := hide (newS_rcd (r := r) (p := p))
  obtain ⟨ne, hne⟩ : ∃ ne, newE r p = ne := ⟨_, rfl⟩
  obtain ⟨S, hS⟩ : ∃ S, newS r p = S := ⟨_, rfl⟩
  have HNS := hide hS
  rw [hne] at HN HSN HSO HRC
  rw [hS] at HN HRC ⊢
  have hlen := hs.s.len
  have hbig := hs.s.big
  have HLEN := hide hlen
  clear hs hp hne hS hi0 hz0 hz1 hz2 hlen
  unfold aqC aq0 ptV seV at HN
  unfold aqV ptV
  go_enter Tryz.func44, Tryz.ntmps44
  go_wp2_with fail
  refine HN.out.mono ?_
  rintro e w1 ⟨rfl, hb⟩
  have B1 := hide (B0.out.trans (hb.mono B0.out.size))
  have X1 := hide (X0.out.below hb X0.out.lt)
  have R1 := hide (R0.out.below hb R0.out.lt)
  clear hb HN B0 X0 R0
  obtain ⟨W2, hW2⟩ : ∃ W2, W2 = w1.alloc (.cells (seC S) 76) := ⟨_, rfl⟩
  have Y2 := hide (show Box W2 w1.heap.size 76 (seC S) by rw [hW2]; exact Box.new w1 76 (seC S))
  have B2 := hide (show Below w.heap.size w W2 by rw [hW2]; exact B1.out.alloc B1.out.size _)
  have X2 := hide (show Box W2 w.heap.size 27 (aqC a) by rw [hW2]; exact X1.out.alloc _)
  have R2 := hide (show Box W2 (w.heap.size + 1 + 1) 27 (aqC aq0) by rw [hW2]; exact R1.out.alloc _)
  go_upto_region 2 with fail
  have hfold : w1.alloc (.cells #[.int .i64 S.rcd, .int .i64 S.start, .int .i64 S.every, .int .i64 S.pv, .int .i64 S.fv, .slice S.skA S.skn S.skc, .slice S.dbA S.dbn S.dbc, .int .i64 S.nx, .slice S.iuA S.iun S.iuc] 76) = W2 := hW2.symm
  rw [hfold]
  clear hfold hW2 B1 X1 R1
  by_cases hne : (ne != 0) = true
  · have HRES := hide (HSN.out hne)
    have r0 := R2.out.cell 0
    have r1 := R2.out.cell 1
    have r2 := R2.out.cell 2
    have r3 := R2.out.cell 3
    have r4 := R2.out.cell 4
    have r5 := R2.out.cell 5
    simp [aq0] at r0 r1 r2 r3 r4 r5
    have fr := fun j => R2.out.frz j
    go_wp2
    refine bodyPost_ret (v := .tuple #[aqV aq0, .int .i64 ne]) (by simp [results, Tryz.results44, go_sem, r0, r1, r2, r3, r4, r5, aqV, aq0]) rfl ?_
    rw [HRES.out]
    exact resQ_err (by simpa using hne) (below_aq B2.out (show w.heap.size ≤ w.heap.size + 1 + 1 by omega) _ _ _ _ _ _)
  have hne' : (ne != 0) = false := by simpa using hne
  have hn0 : ne = 0 := by simpa using hne
  have HSE := hide (HSO.out hn0)
  have HRCD := hide (HRC.out hn0)
  clear hne hn0 HSN HSO HRC
  have Z2 := hide (Below.refl W2.heap.size W2)
  go_wp2
  go_loopw [10, 11, 12] (fun vv s11 s12 wr => ∃ (k : Nat) (ys : List Se), k ≤ a.sn ∧ s12 = .int .i64 k ∧ Seo wr W2.heap.size vv ys ∧ Below W2.heap.size W2 wr ∧ (∀ u ∈ a.s.take k, (u.rcd == r) = false) ∧
    ((s11 = .bool false ∧ ys = a.s.take k ∧ ix (fun x : Se => decide (r < x.rcd)) a.s = idxP (fun x : Se => decide (r < x.rcd)) (a.s.drop k) k) ∨ (s11 = .bool true ∧ ∃ i, i ≤ k ∧ ix (fun x : Se => decide (r < x.rcd)) a.s = (i : Nat) ∧ ys = a.s.take i ++ S :: (a.s.drop i).take (k - i)))) (fun _ _ s12 _ => a.sn - (intOf s12).toNat)
  case atStart => exact ⟨0, [], Nat.zero_le _, rfl, World.ownsRow_nil _ _ _ _, Z2.out, by simp, .inl ⟨rfl, rfl, rfl⟩⟩
  case round =>
    clear Z2
    obtain ⟨k, ys, hk, rfl, ho, hb, hno, hcase⟩ := hrel
    have HO := hide ho
    have HB := hide hb
    have HNO := hide hno
    have BW := hide (B2.out.trans (hb.mono B2.out.size))
    have XW := hide (X2.out.below hb X2.out.lt)
    have YW := hide (Y2.out.below hb Y2.out.lt)
    have hyl : ys.length ≤ k + 1 := by
      rcases hcase with ⟨_, rfl, _⟩ | ⟨_, i, hi, _, rfl⟩
      · rw [List.length_take]; omega
      · simp; omega
    have HYL := hide hyl
    clear ho hb hno hyl
    have x4 := XW.out.cell 4
    simp at x4
    by_cases hlt : k < a.sn
    · have hkz : (k : Int) < (a.sn : Int) := by omega
      obtain ⟨b, off, x, hA, hbB, hx, c0, c1, c2, c3, c4, c5, c6, c7, c8⟩ := Ses_at (HS.out.s.below BW.out) hlt
      rw [hA] at x4
      have HX := hide hx
      have HAA := hide hA
      clear hx hA
      by_cases hr : x.rcd = r
      · have hrb : (x.rcd == r) = true := by simpa using hr
        have HRES := hide (show subE a.s r p = 7 by rw [HSE.out, if_pos (List.any_eq_true.2 ⟨x, List.mem_of_getElem? HX.out, hrb⟩)])
        have RW := hide (R2.out.below HB.out R2.out.lt)
        clear hr hcase c1 c2 c3 c4 c5 c6 c7 c8
        have r0 := RW.out.cell 0
        have r1 := RW.out.cell 1
        have r2 := RW.out.cell 2
        have r3 := RW.out.cell 3
        have r4 := RW.out.cell 4
        have r5 := RW.out.cell 5
        simp [aq0] at r0 r1 r2 r3 r4 r5
        have fr := fun j => RW.out.frz j
        go_wp2
        refine bodyPost_ret (v := .tuple #[aqV aq0, .int .i64 7]) (by simp [results, Tryz.results44, go_sem, r0, r1, r2, r3, r4, r5, aqV, aq0]) rfl ?_
        rw [HRES.out]
        exact resQ_err (by decide) (below_aq BW.out (show w.heap.size ≤ w.heap.size + 1 + 1 by omega) _ _ _ _ _ _)
      have hrb : (x.rcd == r) = false := by simpa using hr
      have HNO2 := hide (show ∀ u ∈ a.s.take (k + 1), (u.rcd == r) = false by
        intro u hu
        rw [take_step HX.out] at hu
        rcases List.mem_append.1 hu with hu | hu
        · exact HNO.out u hu
        · rw [List.mem_singleton.1 hu]; exact hrb)
      clear hr
      have hbW : b < W2.heap.size := Nat.lt_of_lt_of_le hbB B2.out.size
      rcases hcase with ⟨rfl, rfl, hix⟩ | ⟨rfl, i, hi, hix, rfl⟩
      · have HIX := hide hix
        have HST := hide (idxP_step (p := (fun x : Se => decide (r < x.rcd))) HX.out)
        have hl1 : (a.s.take k).length = k := by rw [List.length_take, HLEN.out]; omega
        have HL1 := hide hl1
        clear hix hl1
        by_cases hg0 : r < x.rcd
        · have HIK := hide (show ix (fun x : Se => decide (r < x.rcd)) a.s = (k : Nat) by rw [HIX.out, HST.out]; simp [hg0])
          have y0 := YW.out.cell 0
          have y1 := YW.out.cell 1
          have y2 := YW.out.cell 2
          have y3 := YW.out.cell 3
          have y4 := YW.out.cell 4
          have y5 := YW.out.cell 5
          have y6 := YW.out.cell 6
          have y7 := YW.out.cell 7
          have y8 := YW.out.cell 8
          simp at y0 y1 y2 y3 y4 y5 y6 y7 y8
          have HO4 := hide (show ∀ o, (wr.alloc o).ownsRow W2.heap.size 76 9 u10 (a.s.take k).length ((a.s.take k).flatMap seE) from fun o => HO.out.alloc o)
          go_wp2_with (at_builtin; go_must (refine wpList_append_sl _ rfl _ _ 25 rfl W2.heap.size 76 i0 _ 120 Tryz.underlying25 HI.out.1 HI.out.2.1 HI.out.2.2.1 HI.out.2.2.2 rfl (by decide) seE_len seE_one _ _ _ rfl (HO4.out _) _ 1 1 rfl (se_sl1 (x := S) (Box.new _ _ _)) (by rw [HL1.out]; unfold maxLen; omega) (by rw [HL1.out]; omega) (by have := HB.out.size; first | (simp; omega) | (simp only [World.size_alloc]; omega)) ?_))
          intro v1 w1 hown hg hat
          have HO1 := hide (show Seo w1 W2.heap.size v1 (a.s.take k ++ [S]) by unfold Seo; rw [List.flatMap_append, List.length_append]; simpa using hown)
          have HB1 := hide ((HB.out.alloc (by have := HB.out.size; omega) (.cells (seC (S)) 76)).grown hg (by have := HB.out.size; first | (simp; omega) | omega) (by intro q hq; exact (HO.out.lt q hq).1))
          have HL1x := hide ((((Below.refl W2.heap.size wr).alloc (by have := HB.out.size; omega) (.cells (seC (S)) 76)).grown hg (by have := HB.out.size; first | (simp; omega) | omega) (by intro q hq; exact (HO.out.lt q hq).1)))
          clear hown hg hat HO4
          clear y0 y1 y2 y3 y4 y5 y6 y7 y8
          have d0 := (HL1x.out.cell (p := ⟨b, off + k * 9, none⟩) hbW).trans c0
          have d1 := (HL1x.out.cell (p := ⟨b, off + k * 9 + 1, none⟩) hbW).trans c1
          have d2 := (HL1x.out.cell (p := ⟨b, off + k * 9 + 2, none⟩) hbW).trans c2
          have d3 := (HL1x.out.cell (p := ⟨b, off + k * 9 + 3, none⟩) hbW).trans c3
          have d4 := (HL1x.out.cell (p := ⟨b, off + k * 9 + 4, none⟩) hbW).trans c4
          have d5 := (HL1x.out.cell (p := ⟨b, off + k * 9 + 5, none⟩) hbW).trans c5
          have d6 := (HL1x.out.cell (p := ⟨b, off + k * 9 + 6, none⟩) hbW).trans c6
          have d7 := (HL1x.out.cell (p := ⟨b, off + k * 9 + 7, none⟩) hbW).trans c7
          have d8 := (HL1x.out.cell (p := ⟨b, off + k * 9 + 8, none⟩) hbW).trans c8
          have x4' := (X2.out.below HB1.out X2.out.lt).cell 4
          simp at x4'
          rw [HAA.out] at x4'
          clear c0 c1 c2 c3 c4 c5 c6 c7 c8 x4
          have HL2 := hide (show (a.s.take k ++ [S]).length = k + 1 by rw [List.length_append, HL1.out]; rfl)
          have HO4 := hide (show ∀ o, (w1.alloc o).ownsRow W2.heap.size 76 9 v1 (a.s.take k ++ [S]).length ((a.s.take k ++ [S]).flatMap seE) from fun o => HO1.out.alloc o)
          go_wp2_with (at_builtin; go_must (refine wpList_append_sl _ rfl _ _ 25 rfl W2.heap.size 76 i0 _ 120 Tryz.underlying25 HI.out.1 HI.out.2.1 HI.out.2.2.1 HI.out.2.2.2 rfl (by decide) seE_len seE_one _ _ _ rfl (HO4.out _) _ 1 1 rfl (se_sl1 (x := x) (Box.new _ _ _)) (by rw [HL2.out]; unfold maxLen; omega) (by rw [HL2.out]; omega) (by have := HB1.out.size; first | (simp; omega) | (simp only [World.size_alloc]; omega)) ?_))
          intro v5 w5 hown hg hat
          have HO5 := hide (show Seo w5 W2.heap.size v5 (a.s.take k ++ [S] ++ [x]) by unfold Seo; rw [List.flatMap_append, List.length_append]; simpa using hown)
          have HB5 := hide ((HB1.out.alloc (by have := HB1.out.size; omega) (.cells (seC (x)) 76)).grown hg (by have := HB1.out.size; first | (simp; omega) | omega) (by intro q hq; exact (HO1.out.lt q hq).1))
          have HL5x := hide ((((Below.refl W2.heap.size w1).alloc (by have := HB1.out.size; omega) (.cells (seC (x)) 76)).grown hg (by have := HB1.out.size; first | (simp; omega) | omega) (by intro q hq; exact (HO1.out.lt q hq).1)))
          clear hown hg hat HO4
          go_wp2
          go_roundw
          case rel =>
            refine ⟨k + 1, a.s.take k ++ [S] ++ [x], by omega, by go_num, HO5.out, HB5.out, HNO2.out, .inr ⟨rfl, k, by omega, HIK.out, ?_⟩⟩
            rw [drop_take_step (Nat.le_refl k) HX.out]
            simp
          case measure => simp [intOf]; omega
        · have HNI := hide (show ix (fun x : Se => decide (r < x.rcd)) a.s = idxP (fun x : Se => decide (r < x.rcd)) (a.s.drop (k + 1)) ((k + 1 : Nat) : Int) by rw [HIX.out, HST.out]; simp [hg0])
          have HO4 := hide (show ∀ o, (wr.alloc o).ownsRow W2.heap.size 76 9 u10 (a.s.take k).length ((a.s.take k).flatMap seE) from fun o => HO.out.alloc o)
          go_wp2_with (at_builtin; go_must (refine wpList_append_sl _ rfl _ _ 25 rfl W2.heap.size 76 i0 _ 120 Tryz.underlying25 HI.out.1 HI.out.2.1 HI.out.2.2.1 HI.out.2.2.2 rfl (by decide) seE_len seE_one _ _ _ rfl (HO4.out _) _ 1 1 rfl (se_sl1 (x := x) (Box.new _ _ _)) (by rw [HL1.out]; unfold maxLen; omega) (by rw [HL1.out]; omega) (by have := HB.out.size; first | (simp; omega) | (simp only [World.size_alloc]; omega)) ?_))
          intro v5 w5 hown hg hat
          have HO5 := hide (show Seo w5 W2.heap.size v5 (a.s.take k ++ [x]) by unfold Seo; rw [List.flatMap_append, List.length_append]; simpa using hown)
          have HB5 := hide ((HB.out.alloc (by have := HB.out.size; omega) (.cells (seC (x)) 76)).grown hg (by have := HB.out.size; first | (simp; omega) | omega) (by intro q hq; exact (HO.out.lt q hq).1))
          have HL5x := hide ((((Below.refl W2.heap.size wr).alloc (by have := HB.out.size; omega) (.cells (seC (x)) 76)).grown hg (by have := HB.out.size; first | (simp; omega) | omega) (by intro q hq; exact (HO.out.lt q hq).1)))
          clear hown hg hat HO4
          go_wp2
          go_roundw
          case rel => exact ⟨k + 1, a.s.take k ++ [x], by omega, by go_num, HO5.out, HB5.out, HNO2.out, .inl ⟨rfl, by rw [take_step HX.out], HNI.out⟩⟩
          case measure => simp [intOf]; omega
      · have HIX := hide hix
        obtain ⟨Q, hQ⟩ : ∃ Q, a.s.take i ++ S :: (a.s.drop i).take (k - i) = Q := ⟨_, rfl⟩
        have HQQ := hide hQ
        have HLQ := hide (show Q.length = k + 1 by rw [← hQ]; simp [HLEN.out]; omega)
        rw [hQ] at HO HYL
        clear hix hQ
        have HO4 := hide (show ∀ o, (wr.alloc o).ownsRow W2.heap.size 76 9 u10 (Q).length ((Q).flatMap seE) from fun o => HO.out.alloc o)
        go_wp2_with (at_builtin; go_must (refine wpList_append_sl _ rfl _ _ 25 rfl W2.heap.size 76 i0 _ 120 Tryz.underlying25 HI.out.1 HI.out.2.1 HI.out.2.2.1 HI.out.2.2.2 rfl (by decide) seE_len seE_one _ _ _ rfl (HO4.out _) _ 1 1 rfl (se_sl1 (x := x) (Box.new _ _ _)) (by rw [HLQ.out]; unfold maxLen; omega) (by rw [HLQ.out]; omega) (by have := HB.out.size; first | (simp; omega) | (simp only [World.size_alloc]; omega)) ?_))
        intro v5 w5 hown hg hat
        have HO5 := hide (show Seo w5 W2.heap.size v5 (Q ++ [x]) by unfold Seo; rw [List.flatMap_append, List.length_append]; simpa using hown)
        have HB5 := hide ((HB.out.alloc (by have := HB.out.size; omega) (.cells (seC (x)) 76)).grown hg (by have := HB.out.size; first | (simp; omega) | omega) (by intro q hq; exact (HO.out.lt q hq).1))
        have HL5x := hide ((((Below.refl W2.heap.size wr).alloc (by have := HB.out.size; omega) (.cells (seC (x)) 76)).grown hg (by have := HB.out.size; first | (simp; omega) | omega) (by intro q hq; exact (HO.out.lt q hq).1)))
        clear hown hg hat HO4
        go_wp2
        go_roundw
        case rel =>
          refine ⟨k + 1, Q ++ [x], by omega, by go_num, HO5.out, HB5.out, HNO2.out, .inr ⟨rfl, i, by omega, HIX.out, ?_⟩⟩
          rw [← HQQ.out, drop_take_step hi HX.out]
          simp
        case measure => simp [intOf]; omega
    · have hkz : ¬ (k : Int) < (a.sn : Int) := by omega
      have HANY := hide (show a.s.any (fun x => x.rcd == r) = false from List.any_eq_false.2 (fun u hu => by rw [HNO.out u (by rwa [List.take_of_length_le (by rw [HLEN.out]; omega)])]; decide))
      rcases hcase with ⟨rfl, rfl, hix⟩ | ⟨rfl, i, hi, hix, rfl⟩
      · have HINS := hide (insP_n HRCD.out (show ix (fun x : Se => decide (r < x.rcd)) a.s = -1 by rw [hix, idxP_end (by rw [HLEN.out]; omega)]))
        have hkk : a.s.take k = a.s := List.take_of_length_le (by rw [HLEN.out]; omega)
        rw [hkk] at HO HYL
        clear hix hkk
        have y0 := YW.out.cell 0
        have y1 := YW.out.cell 1
        have y2 := YW.out.cell 2
        have y3 := YW.out.cell 3
        have y4 := YW.out.cell 4
        have y5 := YW.out.cell 5
        have y6 := YW.out.cell 6
        have y7 := YW.out.cell 7
        have y8 := YW.out.cell 8
        simp at y0 y1 y2 y3 y4 y5 y6 y7 y8
        have HO4 := hide (show ∀ o, (wr.alloc o).ownsRow W2.heap.size 76 9 u10 (a.s).length ((a.s).flatMap seE) from fun o => HO.out.alloc o)
        go_wp2_with (at_builtin; go_must (refine wpList_append_sl _ rfl _ _ 25 rfl W2.heap.size 76 i0 _ 120 Tryz.underlying25 HI.out.1 HI.out.2.1 HI.out.2.2.1 HI.out.2.2.2 rfl (by decide) seE_len seE_one _ _ _ rfl (HO4.out _) _ 1 1 rfl (se_sl1 (x := S) (Box.new _ _ _)) (by rw [HLEN.out]; unfold maxLen; omega) (by rw [HLEN.out]; omega) (by have := HB.out.size; first | (simp; omega) | (simp only [World.size_alloc]; omega)) ?_))
        intro v1 w1 hown hg hat
        have HO1 := hide (show Seo w1 W2.heap.size v1 (a.s ++ [S]) by unfold Seo; rw [List.flatMap_append, List.length_append]; simpa using hown)
        have HB1 := hide ((HB.out.alloc (by have := HB.out.size; omega) (.cells (seC (S)) 76)).grown hg (by have := HB.out.size; first | (simp; omega) | omega) (by intro q hq; exact (HO.out.lt q hq).1))
        have HL1x := hide ((((Below.refl W2.heap.size wr).alloc (by have := HB.out.size; omega) (.cells (seC (S)) 76)).grown hg (by have := HB.out.size; first | (simp; omega) | omega) (by intro q hq; exact (HO.out.lt q hq).1)))
        clear hown hg hat HO4
        clear y0 y1 y2 y3 y4 y5 y6 y7 y8
        have HMEM : ∀ y ∈ a.s ++ [S], y = S ∨ y ∈ a.s := by
          intro y hy
          rcases List.mem_append.1 hy with hy | hy
          · exact .inr hy
          · exact .inl (List.mem_singleton.1 hy)
        have hL1 := (show (a.s ++ [S]).length = a.sn + 1 by rw [List.length_append, HLEN.out]; rfl)
        obtain ⟨A2, c2, hv2, _⟩ := Seo_sl HO1.out (by rw [hL1]; omega)
        obtain ⟨m2, hm2⟩ : ∃ m2, (a.s ++ [S]).length = m2 := ⟨_, rfl⟩
        have HM2 := hide hm2
        have HM3 := hide (show m2 = a.sn + 1 by rw [← hm2, hL1])
        rw [hm2] at hv2
        subst hv2
        have HOE := hide (show w1.ownsRow W2.heap.size 76 9 (.slice A2 m2 c2) m2 ((a.s ++ [S]).flatMap seE) by have h := HO1.out; unfold Seo at h; rw [HM2.out] at h; exact h)
        have BWE := hide (B2.out.trans (HB1.out.mono B2.out.size))
        have XWE := hide (X2.out.below HB1.out X2.out.lt)
        have RWE := hide (R2.out.below HB1.out R2.out.lt)
        clear hL1 hm2
        try clear x4
        have x0 := XWE.out.cell 0
        have x1 := XWE.out.cell 1
        have x2 := XWE.out.cell 2
        have x3 := XWE.out.cell 3
        have x4 := XWE.out.cell 4
        have x5 := XWE.out.cell 5
        simp at x0 x1 x2 x3 x4 x5
        have fx := fun j => XWE.out.frz j
        have r0 := RWE.out.cell 0
        have r1 := RWE.out.cell 1
        have r2 := RWE.out.cell 2
        have r3 := RWE.out.cell 3
        have r4 := RWE.out.cell 4
        have r5 := RWE.out.cell 5
        simp [aq0] at r0 r1 r2 r3 r4 r5
        have fr := fun j => RWE.out.frz j
        by_cases h16 : 16 < m2
        · have h16z : (16 : Int) < (m2 : Int) := by omega
          have HRES := hide (show subE a.s r p = 13 by rw [HSE.out, if_neg (by rw [HANY.out]; decide), if_pos (by rw [HLEN.out]; have := HM3.out; omega)])
          go_wp2
          refine bodyPost_ret (v := .tuple #[aqV aq0, .int .i64 13]) (by simp [results, Tryz.results44, go_sem, r0, r1, r2, r3, r4, r5, aqV, aq0]) rfl ?_
          rw [HRES.out]
          exact resQ_err (by decide) (below_aq BWE.out (show w.heap.size ≤ w.heap.size + 1 + 1 by omega) _ _ _ _ _ _)
        · have h16z : ¬ (16 : Int) < (m2 : Int) := by omega
          have HRES := hide (show subE a.s r p = 0 by rw [HSE.out, if_neg (by rw [HANY.out]; decide), if_neg (by rw [HLEN.out]; have := HM3.out; omega)])
          have HB9 := hide (below_aq (BWE.out.setCell (p := ⟨w.heap.size, 4, none⟩) (Nat.le_refl _) (.slice A2 m2 c2)) (show w.heap.size ≤ w.heap.size + 1 + 1 by omega) (.int .i64 a.yr) (.slice a.fA a.fn a.fc) (.slice a.oA a.on a.oc) (.slice a.bA a.bn a.bc) (.slice A2 m2 c2) (.int .i64 a.nx))
          go_wp2
          refine bodyPost_ret (v := .tuple #[aqV { a with sA := A2, sn := m2, sc := c2, s := a.s ++ [S] }, .int .i64 0]) (by simp [results, Tryz.results44, go_sem, r0, r1, r2, r3, r4, r5, x0, x1, x2, x3, x4, x5, aqV]) rfl ?_
          rw [HRES.out]
          refine ⟨_, rfl, ?_, AqQ.subs (by rw [HINS.out]; exact SesQ.refl _) A2 m2 c2, HB9.out⟩
          have h9 := HB9.out
          refine ⟨(HS.out.f.below h9).more h9.size, (HS.out.o.below h9).more h9.size, fun y hy => ((HS.out.os y hy).below h9).more h9.size, (HS.out.b.below h9).more h9.size, ?_, fun y hy => ?_⟩
          · refine Sl.of_own seE_len (base := W2.heap.size) (e := 76) ?_ HM2.out (show m2 ≤ 140737488355328 by have := HM3.out; omega)
            (iterate 6 (refine own_setp ?_ (by show w.heap.size + 1 + 1 < _; have := R2.out.lt; omega) _))
            refine own_setp ?_ (by show w.heap.size < _; have := R2.out.lt; omega) _
            exact HOE.out
          · rcases HMEM y hy with rfl | hy
            · have h0 := newS_S (r := r) HPT.out; rw [HNS.out] at h0; exact (h0.below h9).more h9.size
            · exact ((HS.out.ss y hy).below h9).more h9.size
      · have hkn : (a.s.drop i).take (k - i) = a.s.drop i := List.take_of_length_le (by rw [List.length_drop, HLEN.out]; omega)
        have HINS := hide (insP_i HRCD.out hix)
        rw [hkn] at HO HYL
        obtain ⟨Q, hQ⟩ : ∃ Q, a.s.take i ++ S :: a.s.drop i = Q := ⟨_, rfl⟩
        have HMEM : ∀ y ∈ Q, y = S ∨ y ∈ a.s := fun y hy => mem_ins (by rw [hQ]; exact hy)
        have HLQ := hide (show Q.length = a.sn + 1 by rw [← hQ]; simp [HLEN.out]; omega)
        rw [hQ] at HO HYL HINS
        clear hix hkn hQ
        have hL1 := HLQ.out
        obtain ⟨A2, c2, hv2, _⟩ := Seo_sl HO.out (by rw [hL1]; omega)
        obtain ⟨m2, hm2⟩ : ∃ m2, (Q).length = m2 := ⟨_, rfl⟩
        have HM2 := hide hm2
        have HM3 := hide (show m2 = a.sn + 1 by rw [← hm2, hL1])
        rw [hm2] at hv2
        subst hv2
        have HOE := hide (show wr.ownsRow W2.heap.size 76 9 (.slice A2 m2 c2) m2 ((Q).flatMap seE) by have h := HO.out; unfold Seo at h; rw [HM2.out] at h; exact h)
        have BWE := hide (B2.out.trans (HB.out.mono B2.out.size))
        have XWE := hide (X2.out.below HB.out X2.out.lt)
        have RWE := hide (R2.out.below HB.out R2.out.lt)
        clear hL1 hm2
        try clear x4
        have x0 := XWE.out.cell 0
        have x1 := XWE.out.cell 1
        have x2 := XWE.out.cell 2
        have x3 := XWE.out.cell 3
        have x4 := XWE.out.cell 4
        have x5 := XWE.out.cell 5
        simp at x0 x1 x2 x3 x4 x5
        have fx := fun j => XWE.out.frz j
        have r0 := RWE.out.cell 0
        have r1 := RWE.out.cell 1
        have r2 := RWE.out.cell 2
        have r3 := RWE.out.cell 3
        have r4 := RWE.out.cell 4
        have r5 := RWE.out.cell 5
        simp [aq0] at r0 r1 r2 r3 r4 r5
        have fr := fun j => RWE.out.frz j
        by_cases h16 : 16 < m2
        · have h16z : (16 : Int) < (m2 : Int) := by omega
          have HRES := hide (show subE a.s r p = 13 by rw [HSE.out, if_neg (by rw [HANY.out]; decide), if_pos (by rw [HLEN.out]; have := HM3.out; omega)])
          go_wp2
          refine bodyPost_ret (v := .tuple #[aqV aq0, .int .i64 13]) (by simp [results, Tryz.results44, go_sem, r0, r1, r2, r3, r4, r5, aqV, aq0]) rfl ?_
          rw [HRES.out]
          exact resQ_err (by decide) (below_aq BWE.out (show w.heap.size ≤ w.heap.size + 1 + 1 by omega) _ _ _ _ _ _)
        · have h16z : ¬ (16 : Int) < (m2 : Int) := by omega
          have HRES := hide (show subE a.s r p = 0 by rw [HSE.out, if_neg (by rw [HANY.out]; decide), if_neg (by rw [HLEN.out]; have := HM3.out; omega)])
          have HB9 := hide (below_aq (BWE.out.setCell (p := ⟨w.heap.size, 4, none⟩) (Nat.le_refl _) (.slice A2 m2 c2)) (show w.heap.size ≤ w.heap.size + 1 + 1 by omega) (.int .i64 a.yr) (.slice a.fA a.fn a.fc) (.slice a.oA a.on a.oc) (.slice a.bA a.bn a.bc) (.slice A2 m2 c2) (.int .i64 a.nx))
          go_wp2
          refine bodyPost_ret (v := .tuple #[aqV { a with sA := A2, sn := m2, sc := c2, s := Q }, .int .i64 0]) (by simp [results, Tryz.results44, go_sem, r0, r1, r2, r3, r4, r5, x0, x1, x2, x3, x4, x5, aqV]) rfl ?_
          rw [HRES.out]
          refine ⟨_, rfl, ?_, AqQ.subs (by rw [HINS.out]; exact SesQ.refl _) A2 m2 c2, HB9.out⟩
          have h9 := HB9.out
          refine ⟨(HS.out.f.below h9).more h9.size, (HS.out.o.below h9).more h9.size, fun y hy => ((HS.out.os y hy).below h9).more h9.size, (HS.out.b.below h9).more h9.size, ?_, fun y hy => ?_⟩
          · refine Sl.of_own seE_len (base := W2.heap.size) (e := 76) ?_ HM2.out (show m2 ≤ 140737488355328 by have := HM3.out; omega)
            (iterate 6 (refine own_setp ?_ (by show w.heap.size + 1 + 1 < _; have := R2.out.lt; omega) _))
            refine own_setp ?_ (by show w.heap.size < _; have := R2.out.lt; omega) _
            exact HOE.out
          · rcases HMEM y hy with rfl | hy
            · have h0 := newS_S (r := r) HPT.out; rw [HNS.out] at h0; exact (h0.below h9).more h9.size
            · exact ((HS.out.ss y hy).below h9).more h9.size
end Go.Proofs.YtbhndfphegflhaaGreat
