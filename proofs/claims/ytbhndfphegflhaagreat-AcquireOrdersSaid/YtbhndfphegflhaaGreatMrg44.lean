/- Texts laid together by merge.py: AqZ. -/
import Derived.Test.YtbhndfphegflhaaGreatMrg29
import Derived.Test.YtbhndfphegflhaaGreatMrg40
import Derived.Test.YtbhndfphegflhaaGreatMrg23
set_option linter.unusedSimpArgs false
set_option linter.unusedVariables false
/- Walks: Stop and Bill of the reference. Printed by gen_aq_z.py. -/
namespace Go.Proofs.YtbhndfphegflhaaGreat
open Go.RowKit

theorem stlL_len {de ds : Int → Int} : ∀ (l : List Sh) (fs : List Fu), (stlL de ds l fs).2.length ≤ fs.length
  | [], _ => Nat.le_refl _
  | s :: r, fs => by
    rw [stlL]
    split
    · exact Nat.le_trans (stlL_len r _) chR_len
    · simp

set_option maxRecDepth 100000 in
set_option maxHeartbeats 4000000 in
theorem rstp_any (a : Aq) (id : Int) (w : World) (hs : AqS w w.heap.size a) (hn : a.fn ≤ 1000) (hm : ∀ f ∈ a.f, FuM f) (hv : VldO a.o) (hd : Dif a.f) (hh : ∀ o ∈ a.o, o.sh.all (shHas a.f) = true) :
    Calls Tryz.prog 26 #[aqV a, .int .i64 id] w (ResA w (stpA (aqP a) id)) := by
  have B0 := hide (((Below.refl w.heap.size w).alloc (Nat.le_refl _) (.cells (aqC a) 27)).alloc (by simp) (.cells (aqC aq0) 27))
  have X0 := hide ((Box.new w 27 (aqC a)).alloc (.cells (aqC aq0) 27))
  have R0 := hide (Box.new (w.alloc (.cells (aqC a) 27)) 27 (aqC aq0))
  rw [World.size_alloc] at R0
  have HC := hide (rstop_any a.oA a.on a.oc a.o id _ ((hs.o.below B0.out).more B0.out.size) (by have := hv.len; have := hs.o.len; omega) hv.M hv.wi)
  have HMEM := hide (stopO_mem (xs := a.o) (id := id))
  have HPR := hide (op_pair hv id (er := stopE) (g := stopF) (fun _ => rfl) (fun x h1 h2 => (stop_ok h1 h2).1))
  have HR0 := hide (show stpA (aqP a) id = folA (aqP a) (stopO a.o id) id 0 from rfl)
  change Hid ((stopO a.o id).1 = 0 → ∃ x y, getO a.o id = (x, true) ∧ getO (stopO a.o id).2 id = (y, true) ∧ sharesV x.sh = true ∧ sharesV y.sh = true ∧ OdM x ∧ OdM y) at HPR
  obtain ⟨er, ys, hr⟩ : ∃ er ys, stopO a.o id = (er, ys) := ⟨_, _, rfl⟩
  rw [hr] at HC HMEM HR0 HPR
  have HS := hide hs
  have HM := hide hm
  have HD := hide hd
  have HHAS := hide hh
  clear hs hv hr hm hd hh
  unfold aqV
  go_enter Tryz.func26, Tryz.ntmps26
  go_wp2_with fail
  refine HC.out.mono ?_
  rintro e w1 ⟨A1, n1, c1, rfl, hsl, hb⟩
  have B1 := hide (B0.out.trans (hb.mono B0.out.size))
  have X1 := hide (X0.out.below hb X0.out.lt)
  have R1 := hide (R0.out.below hb R0.out.lt)
  have HSL := hide hsl
  clear hsl hb HC
  by_cases hz : (er != 0) = true
  · have HR := hide (show stpA (aqP a) id = (er, pa0) by rw [HR0.out]; exact folA_err (by simpa using hz))
    have r0 := R1.out.cell 0
    have r1 := R1.out.cell 1
    have r2 := R1.out.cell 2
    have r3 := R1.out.cell 3
    have r4 := R1.out.cell 4
    have r5 := R1.out.cell 5
    simp [aq0] at r0 r1 r2 r3 r4 r5
    have hlr := R1.out.lt
    have fr := fun j => R1.out.frz j
    go_wp2
    refine bodyPost_ret (v := .tuple #[aqV aq0, .int .i64 er]) (by simp [results, Tryz.results26, go_sem, World.cell?_alloc_lt, hlr, r0, r1, r2, r3, r4, r5, aqV, aq0]) rfl ?_
    rw [HR.out]
    exact resA_err (below_aq B1.out (by omega) _ _ _ _ _ _)
  have hz' : (er != 0) = false := by simpa using hz
  have h0 : er = 0 := by simpa using hz
  subst h0
  obtain ⟨x, y, hx, hy, hxv, hyv, hxm, hym⟩ := HPR.out rfl
  have hhy : y.sh.all (shHas a.f) = true := by
    obtain ⟨v, hv, hsm⟩ := HMEM.out y (getO_in hy).1
    rw [hsm.2.2.2]; exact HHAS.out v hv
  have HG1 := hide (rget_any a.oA a.on a.oc a.o id w1 ((HS.out.o.below B1.out).more B1.out.size))
  rw [hx] at HG1
  have HG2 := hide (fun W (hW : Below w1.heap.size w1 W) => rget_any A1 n1 c1 ys id W ((HSL.out.below hW).more hW.size))
  rw [hy] at HG2
  have hySH : ∀ W, Below w1.heap.size w1 W → OdS W W.heap.size y := fun W hW => by
    obtain ⟨v, hv, hsm⟩ := HMEM.out y (getO_in hy).1
    exact hsm.od (((HS.out.os v hv).below (B1.out.trans (hW.mono B1.out.size))).more (B1.out.trans (hW.mono B1.out.size)).size)
  have HSE := hide (fun W (hW : Below w1.heap.size w1 W) => rsettled_any a.fA a.fn a.fc a.f x y 0 W ((HS.out.f.below (B1.out.trans (hW.mono B1.out.size))).more (B1.out.trans (hW.mono B1.out.size)).size) hn HD.out HM.out (((HS.out.os x (getO_in hx).1).below (B1.out.trans (hW.mono B1.out.size))).more (B1.out.trans (hW.mono B1.out.size)).size) (hySH W hW) hxv hyv hxm hym hhy)
  have hfe : folA (aqP a) (0, ys) id 0 = chgA (aqP a) ys (stlA a.f x y 0) := by
    rw [folA_ok rfl]
    show chgA (aqP a) ys (stlA a.f (getO a.o id).1 (getO ys id).1 0) = _
    rw [hx, hy]
  obtain ⟨ef, zs, hf⟩ : ∃ ef zs, stlA a.f x y 0 = (ef, zs) := ⟨_, _, rfl⟩
  have hzl : zs.length ≤ 1000 := by
    have h := stlL_len (de := fun q => partO y (resvO y) q - partO x (resvO x) q) (ds := fun q => partO y 0 q) y.sh a.f
    unfold stlA at hf
    rw [hf] at h
    have := HS.out.f.len
    have h2 : zs.length ≤ a.f.length := h
    omega
  rw [hf] at HSE hfe
  have HFE := hide hfe
  have HZL := hide hzl
  clear hx hy hxv hyv hxm hym hhy hySH hfe hf hzl
  unfold odV at HG1 HG2 HSE
  have x0 := X1.out.cell 0
  have x1 := X1.out.cell 1
  have x2 := X1.out.cell 2
  have x3 := X1.out.cell 3
  have x4 := X1.out.cell 4
  have x5 := X1.out.cell 5
  simp [aq0] at x0 x1 x2 x3 x4 x5
  go_wp2_with fail
  refine HG1.out.mono ?_
  rintro e w2 ⟨rfl, hb⟩
  have B2 := hide (B1.out.trans (hb.mono B1.out.size))
  have X2 := hide (X1.out.below hb X1.out.lt)
  have R2 := hide (R1.out.below hb R1.out.lt)
  have K2 := hide hb
  have U2 := hide (Box.new w2 35 (odC x))
  have B3 := hide (B2.out.alloc B2.out.size (.cells (odC x) 35))
  have K3 := hide (K2.out.alloc K2.out.size (.cells (odC x) 35))
  have HG3 := hide (HG2.out _ K3.out)
  clear hb HG1 x0 x1 x2 x3 x4 x5 
  have x0 := X2.out.cell 0
  have x1 := X2.out.cell 1
  have x2 := X2.out.cell 2
  have x3 := X2.out.cell 3
  have x4 := X2.out.cell 4
  have x5 := X2.out.cell 5
  simp [aq0] at x0 x1 x2 x3 x4 x5
  have xlt := X2.out.lt
  have xx0 := fun o => (World.cell?_alloc_lt w2 o ⟨w.heap.size, 0, none⟩ (by exact xlt)).trans x0
  have xx1 := fun o => (World.cell?_alloc_lt w2 o ⟨w.heap.size, 1, none⟩ (by exact xlt)).trans x1
  have xx2 := fun o => (World.cell?_alloc_lt w2 o ⟨w.heap.size, 2, none⟩ (by exact xlt)).trans x2
  have xx3 := fun o => (World.cell?_alloc_lt w2 o ⟨w.heap.size, 3, none⟩ (by exact xlt)).trans x3
  have xx4 := fun o => (World.cell?_alloc_lt w2 o ⟨w.heap.size, 4, none⟩ (by exact xlt)).trans x4
  have xx5 := fun o => (World.cell?_alloc_lt w2 o ⟨w.heap.size, 5, none⟩ (by exact xlt)).trans x5
  go_wp2_with fail
  refine HG3.out.mono ?_
  rintro e w3 ⟨rfl, hb⟩
  have B4 := hide (B3.out.trans (hb.mono B3.out.size))
  have K4 := hide (K3.out.trans (hb.mono K3.out.size))
  have X4 := hide ((X2.out.alloc (.cells (odC x) 35)).below hb (by have := X2.out.lt; simp; omega))
  have R4 := hide ((R2.out.alloc (.cells (odC x) 35)).below hb (by have := R2.out.lt; simp; omega))
  have U4 := hide (U2.out.below hb U2.out.lt)

  have B5 := hide (B4.out.alloc B4.out.size (.cells (odC y) 35))
  have K5 := hide (K4.out.alloc K4.out.size (.cells (odC y) 35))
  have HSE5 := hide (HSE.out _ K5.out)
  clear hb HG3 HG2 HSE x0 x1 x2 x3 x4 x5 xx0 xx1 xx2 xx3 xx4 xx5 xlt 
  have x0 := X4.out.cell 0
  have x1 := X4.out.cell 1
  have x2 := X4.out.cell 2
  have x3 := X4.out.cell 3
  have x4 := X4.out.cell 4
  have x5 := X4.out.cell 5
  simp [aq0] at x0 x1 x2 x3 x4 x5
  have xlt := X4.out.lt
  have xx0 := fun o => (World.cell?_alloc_lt w3 o ⟨w.heap.size, 0, none⟩ (by exact xlt)).trans x0
  have xx1 := fun o => (World.cell?_alloc_lt w3 o ⟨w.heap.size, 1, none⟩ (by exact xlt)).trans x1
  have xx2 := fun o => (World.cell?_alloc_lt w3 o ⟨w.heap.size, 2, none⟩ (by exact xlt)).trans x2
  have xx3 := fun o => (World.cell?_alloc_lt w3 o ⟨w.heap.size, 3, none⟩ (by exact xlt)).trans x3
  have xx4 := fun o => (World.cell?_alloc_lt w3 o ⟨w.heap.size, 4, none⟩ (by exact xlt)).trans x4
  have xx5 := fun o => (World.cell?_alloc_lt w3 o ⟨w.heap.size, 5, none⟩ (by exact xlt)).trans x5
  have u0 := U4.out.cell 0
  have u1 := U4.out.cell 1
  have u2 := U4.out.cell 2
  have u3 := U4.out.cell 3
  have u4 := U4.out.cell 4
  have u5 := U4.out.cell 5
  have u6 := U4.out.cell 6
  have u7 := U4.out.cell 7
  have u8 := U4.out.cell 8
  have u9 := U4.out.cell 9
  simp [aq0] at u0 u1 u2 u3 u4 u5 u6 u7 u8 u9
  have ult := U4.out.lt
  have uu0 := fun o => (World.cell?_alloc_lt w3 o ⟨w2.heap.size, 0, none⟩ (by exact ult)).trans u0
  have uu1 := fun o => (World.cell?_alloc_lt w3 o ⟨w2.heap.size, 1, none⟩ (by exact ult)).trans u1
  have uu2 := fun o => (World.cell?_alloc_lt w3 o ⟨w2.heap.size, 2, none⟩ (by exact ult)).trans u2
  have uu3 := fun o => (World.cell?_alloc_lt w3 o ⟨w2.heap.size, 3, none⟩ (by exact ult)).trans u3
  have uu4 := fun o => (World.cell?_alloc_lt w3 o ⟨w2.heap.size, 4, none⟩ (by exact ult)).trans u4
  have uu5 := fun o => (World.cell?_alloc_lt w3 o ⟨w2.heap.size, 5, none⟩ (by exact ult)).trans u5
  have uu6 := fun o => (World.cell?_alloc_lt w3 o ⟨w2.heap.size, 6, none⟩ (by exact ult)).trans u6
  have uu7 := fun o => (World.cell?_alloc_lt w3 o ⟨w2.heap.size, 7, none⟩ (by exact ult)).trans u7
  have uu8 := fun o => (World.cell?_alloc_lt w3 o ⟨w2.heap.size, 8, none⟩ (by exact ult)).trans u8
  have uu9 := fun o => (World.cell?_alloc_lt w3 o ⟨w2.heap.size, 9, none⟩ (by exact ult)).trans u9
  clear x0 x1 x2 x3 x4 x5 u0 u1 u2 u3 u4 u5 u6 u7 u8 u9 
  go_wp2_with fail
  refine HSE5.out.mono ?_
  rintro e w5 ⟨v, rfl, ho, hb⟩
  obtain ⟨A2, c2, hv, hsl⟩ := Fo_sl ho (by show zs.length ≤ _; have := HZL.out; omega)
  obtain ⟨m2, hm2⟩ : ∃ m2, zs.length = m2 := ⟨_, rfl⟩
  replace hv : v = .slice A2 zs.length c2 := hv
  replace hsl : Fs w5 w5.heap.size A2 zs.length c2 zs := hsl
  rw [hm2] at hv hsl
  subst hv
  have HF5 := hide hsl
  have B6 := hide (B5.out.trans (hb.mono B5.out.size))
  have K6 := hide (K5.out.trans (hb.mono K5.out.size))
  have X6 := hide ((X4.out.alloc (.cells (odC y) 35)).below hb (by have := X4.out.lt; simp; omega))
  have R6 := hide ((R4.out.alloc (.cells (odC y) 35)).below hb (by have := R4.out.lt; simp; omega))

  have HL6 := hide ((HSL.out.below K6.out).more K6.out.size)
  clear ho hb hsl hm2 HSE5 xx0 xx1 xx2 xx3 xx4 xx5 uu0 uu1 uu2 uu3 uu4 uu5 uu6 uu7 uu8 uu9 xlt ult  X2 X4 R2 R4 U2 U4 B2 B3 B4 B5 K2 K3 K4 K5 X1 R1 HSL 
  have r0 := R6.out.cell 0
  have r1 := R6.out.cell 1
  have r2 := R6.out.cell 2
  have r3 := R6.out.cell 3
  have r4 := R6.out.cell 4
  have r5 := R6.out.cell 5
  simp [aq0] at r0 r1 r2 r3 r4 r5
  have hlr := R6.out.lt
  have fr := fun j => R6.out.frz j
  by_cases hzf : (ef != 0) = true
  · have HR := hide (show stpA (aqP a) id = (ef, pa0) by rw [HR0.out, HFE.out]; unfold chgA; rw [if_neg (by simpa using hzf)])
    go_wp2
    refine bodyPost_ret (v := .tuple #[aqV aq0, .int .i64 ef]) (by simp [results, Tryz.results26, go_sem, World.cell?_alloc_lt, hlr, r0, r1, r2, r3, r4, r5, aqV, aq0]) rfl ?_
    rw [HR.out]
    exact resA_err (below_aq B6.out (by omega) _ _ _ _ _ _)
  have hzf' : (ef != 0) = false := by simpa using hzf
  have h0 : ef = 0 := by simpa using hzf
  subst h0
  have HR := hide (show stpA (aqP a) id = (0, { aqP a with o := ys, f := zs }) by rw [HR0.out, HFE.out]; unfold chgA; rw [if_pos rfl])
  have x0 := X6.out.cell 0
  have x1 := X6.out.cell 1
  have x2 := X6.out.cell 2
  have x3 := X6.out.cell 3
  have x4 := X6.out.cell 4
  have x5 := X6.out.cell 5
  simp [aq0] at x0 x1 x2 x3 x4 x5
  have xf := fun j => X6.out.frz j
  clear hz hz' hzf
  go_wp2
  refine bodyPost_ret (v := .tuple #[aqV { a with fA := A2, fn := m2, fc := c2, f := zs, oA := A1, on := n1, oc := c1, o := ys }, .int .i64 0]) (by simp [results, Tryz.results26, go_sem, r0, r1, r2, r3, r4, r5, aqV]) rfl ?_
  rw [HR.out]
  have NF := HF5.out.notAt X6.out (aq_noFu a)
  have NL := HL6.out.notAt X6.out (aq_noOd a)

  have Y1 := (Sl.far (p := ⟨w.heap.size, 1, none⟩) (Sl.far (p := ⟨w.heap.size, 2, none⟩) HF5.out NF (.slice A1 n1 c1)) NF (.slice A2 m2 c2))
  have Y2 := (Sl.far (p := ⟨w.heap.size, 1, none⟩) (Sl.far (p := ⟨w.heap.size, 2, none⟩) HL6.out NL (.slice A1 n1 c1)) NL (.slice A2 m2 c2))

  have Y3 := (Below.setCell (p := ⟨w.heap.size, 1, none⟩) (Below.setCell (p := ⟨w.heap.size, 2, none⟩) B6.out (Nat.le_refl _) (.slice A1 n1 c1)) (Nat.le_refl _) (.slice A2 m2 c2))
  have YR := (Box.far (p := ⟨w.heap.size, 1, none⟩) (Box.far (p := ⟨w.heap.size, 2, none⟩) R6.out (by show _ ≠ w.heap.size; omega) (.slice A1 n1 c1)) (by show _ ≠ w.heap.size; omega) (.slice A2 m2 c2))
  obtain ⟨WZ, hWZ⟩ : ∃ WZ, WZ = ((w5.setCell ⟨w.heap.size, 2, none⟩ (.slice A1 n1 c1)).setCell ⟨w.heap.size, 1, none⟩ (.slice A2 m2 c2)) := ⟨_, rfl⟩
  have hzz : WZ.heap.size = w5.heap.size := by rw [hWZ]; simp
  rw [← hWZ] at Y1 Y2 Y3 YR  ⊢
  clear hWZ
  have h0 : AqS WZ WZ.heap.size { a with fA := A2, fn := m2, fc := c2, f := zs, oA := A1, on := n1, oc := c1, o := ys } := ⟨Y1.more (by omega), Y2.more (by omega), fun u hu => by
    obtain ⟨v, hv, hsm⟩ := HMEM.out u hu
    exact hsm.od (((HS.out.os v hv).below Y3).more Y3.size), (HS.out.b.below Y3).more Y3.size, (HS.out.s.below Y3).more Y3.size, fun u hu => ((HS.out.ss u hu).below Y3).more Y3.size⟩
  have hB := below_aq Y3 (show w.heap.size ≤ w.heap.size + 1 by omega) (.int .i64 a.yr) (.slice A2 m2 c2) (.slice A1 n1 c1) (.slice a.bA a.bn a.bc) (.slice a.sA a.sn a.sc) (.int .i64 a.nx)
  have h1 := AqS.put (w0 := w) h0 YR (fun u hu => HS.out.ss u hu) (.int .i64 a.yr) (.slice A2 m2 c2) (.slice A1 n1 c1) (.slice a.bA a.bn a.bc) (.slice a.sA a.sn a.sc) (.int .i64 a.nx) hB
  exact ⟨_, rfl, h1, rfl, hB⟩

set_option maxRecDepth 100000 in
set_option maxHeartbeats 8000000 in
theorem rbil_any (a : Aq) (b : Bl) (w : World) (hs : AqS w w.heap.size a) (hn : a.fn ≤ 1000) (hm : ∀ f ∈ a.f, FuM f) (hv : VldO a.o) (hd : Dif a.f) (hh : ∀ o ∈ a.o, o.sh.all (shHas a.f) = true) :
    Calls Tryz.prog 24 #[aqV a, blV b] w (ResA w (bilA (aqP a) b)) := by
  obtain ⟨i0, hi0, hz0, hz1, hz2⟩ := info_parts bl_info
  have HI := hide (And.intro hi0 (And.intro hz0 (And.intro hz1 hz2)))
  clear hi0 hz0 hz1 hz2
  have B0 := hide ((((Below.refl w.heap.size w).alloc (Nat.le_refl _) (.cells (aqC a) 27)).alloc (by simp) (.cells (blC b) 43)).alloc (by simp; omega) (.cells (aqC aq0) 27))
  have X0 := hide (((Box.new w 27 (aqC a)).alloc (.cells (blC b) 43)).alloc (.cells (aqC aq0) 27))
  have Q0 := hide ((Box.new (w.alloc (.cells (aqC a) 27)) 43 (blC b)).alloc (.cells (aqC aq0) 27))
  have R0 := hide (Box.new ((w.alloc (.cells (aqC a) 27)).alloc (.cells (blC b) 43)) 27 (aqC aq0))
  simp only [World.size_alloc] at Q0 R0
  have HC := hide (fun W (hW : Below w.heap.size w W) => rbill_any a.oA a.on a.oc a.o b W ((hs.o.below hW).more hW.size) (by have := hv.len; have := hs.o.len; omega) hv.M hv.wi)
  have HMEM := hide (billO_mem (xs := a.o) (b := b))
  have HPR := hide (op_pair hv b.ord (er := billE b) (g := billF b) (fun _ => rfl) (fun x h1 h2 => (bill_ok h1 h2).1))
  change Hid ((billO a.o b).1 = 0 → ∃ x y, getO a.o b.ord = (x, true) ∧ getO (billO a.o b).2 b.ord = (y, true) ∧ sharesV x.sh = true ∧ sharesV y.sh = true ∧ OdM x ∧ OdM y) at HPR
  have hbl := hs.b.len
  have hbb := hs.b.big
  have HS := hide hs
  have HM := hide hm
  have HD := hide hd
  have HHAS := hide hh
  have HBL := hide hbl
  clear hs hv hm hd hh hbl
  unfold aqV blV
  unfold blV at HC
  go_enter Tryz.func24, Tryz.ntmps24
  go_wp2
  obtain ⟨W0, hW0⟩ : ∃ W0, W0 = ((w.alloc (.cells (aqC a) 27)).alloc (.cells (blC b) 43)).alloc (.cells (aqC aq0) 27) := ⟨_, rfl⟩
  have B0 := hide B0.out
  change Hid (Below w.heap.size w (((w.alloc (.cells (aqC a) 27)).alloc (.cells (blC b) 43)).alloc (.cells #[.int .i64 0, .slice none 0 0, .slice none 0 0, .slice none 0 0, .slice none 0 0, .int .i64 0] 27))) at B0
  change Hid (Box (((w.alloc (.cells (aqC a) 27)).alloc (.cells (blC b) 43)).alloc (.cells #[.int .i64 0, .slice none 0 0, .slice none 0 0, .slice none 0 0, .slice none 0 0, .int .i64 0] 27)) _ _ _) at X0
  change Hid (Box (((w.alloc (.cells (aqC a) 27)).alloc (.cells (blC b) 43)).alloc (.cells #[.int .i64 0, .slice none 0 0, .slice none 0 0, .slice none 0 0, .slice none 0 0, .int .i64 0] 27)) _ _ _) at Q0
  change Hid (Box (((w.alloc (.cells (aqC a) 27)).alloc (.cells (blC b) 43)).alloc (.cells #[.int .i64 0, .slice none 0 0, .slice none 0 0, .slice none 0 0, .slice none 0 0, .int .i64 0] 27)) _ _ _) at R0
  change W0 = ((w.alloc (.cells (aqC a) 27)).alloc (.cells (blC b) 43)).alloc (.cells #[.int .i64 0, .slice none 0 0, .slice none 0 0, .slice none 0 0, .slice none 0 0, .int .i64 0] 27) at hW0
  rw [← hW0] at B0 X0 Q0 R0 ⊢
  clear hW0
  have Z0 := hide (Below.refl W0.heap.size W0)
  generalize (Value.agg #[.int .i64 a.yr, .slice a.fA a.fn a.fc, .slice a.oA a.on a.oc, .slice a.bA a.bn a.bc, .slice a.sA a.sn a.sc, .int .i64 a.nx]) = va
  generalize (Value.agg #[.int .i64 b.ven, .int .i64 b.num, .int .i64 b.ord, .int .i64 b.cop, .int .i64 b.amt]) = vb
  go_loopw [6] (fun s6 wr => ∃ k : Nat, k ≤ a.bn ∧ s6 = .int .i64 k ∧ (∀ u ∈ a.b.take k, samB b u = false) ∧ Below W0.heap.size W0 wr) (fun s6 _ => a.bn - (intOf s6).toNat)
  case atStart => exact ⟨0, Nat.zero_le _, rfl, by simp, Z0.out⟩
  case round =>
    clear Z0
    obtain ⟨k, hk, rfl, ha, hb⟩ := hrel
    have HAK := hide ha
    have ZW := hide hb
    have BW := hide (B0.out.trans (hb.mono B0.out.size))
    have XW := hide (X0.out.below hb X0.out.lt)
    have QW := hide (Q0.out.below hb Q0.out.lt)
    have RW := hide (R0.out.below hb R0.out.lt)
    have x3 := XW.out.cell 3
    simp at x3
    clear ha hb
    by_cases hlt : k < a.bn
    · have hkz : (k : Int) < (a.bn : Int) := by omega
      obtain ⟨g, off, z, hA, hgB, hz, d0, d1, d2, d3, d4⟩ := Bls_at (HS.out.b.below BW.out) hlt
      have q0 := QW.out.cell 0
      have q1 := QW.out.cell 1
      simp at q0 q1
      rw [hA] at x3
      have f3 := Grn.cell x3
      have f0 := Grn.cell q0
      have f1 := Grn.cell q1
      have f4 := Grn.cell d0
      have f5 := Grn.cell d1
      have HZ := hide hz
      have HSB := hide (show samB b z = ((z.ven == b.ven) && (z.num == b.num)) from rfl)
      clear hz hA d2 d3 d4
      cases s1 : (z.ven == b.ven) with
      | false =>
        have HN := hide (samN_step HZ.out HAK.out (by rw [HSB.out, s1]; rfl))
        go_wp2_with fail
        refine wp_region_grn (by kernel_rfl) (by kernel_rfl) ?_
        repeat (go_big_quiet_step (fail))
        refine wpQuiet_nil ?_
        rintro _ ⟨q, rfl⟩
        have Z6 := hide (ZW.out.trans (q.h.mono ZW.out.size))
        go_wp2
        go_roundw
        case rel => exact ⟨k + 1, by omega, by go_num, HN.out, Z6.out⟩
        case measure => simp [intOf]; omega
      | true =>
        cases s2 : (z.num == b.num) with
        | false =>
          have HN := hide (samN_step HZ.out HAK.out (by rw [HSB.out, s1, s2]; rfl))
          go_wp2_with fail
          refine wp_region_grn (by kernel_rfl) (by kernel_rfl) ?_
          repeat (go_big_quiet_step (fail))
          refine wpQuiet_nil ?_
          rintro _ ⟨q, rfl⟩
          have Z6 := hide (ZW.out.trans (q.h.mono ZW.out.size))
          go_wp2
          go_roundw
          case rel => exact ⟨k + 1, by omega, by go_num, HN.out, Z6.out⟩
          case measure => simp [intOf]; omega
        | true =>
          have HR := hide (show bilA (aqP a) b = (7, pa0) from bilA_same (List.any_eq_true.2 ⟨z, List.mem_of_getElem? HZ.out, by rw [HSB.out, s1, s2]; rfl⟩))
          go_wp2_with fail
          refine wp_region_grn (by kernel_rfl) (by kernel_rfl) ?_
          repeat (go_big_quiet_step (fail))
          refine wpQuiet_nil ?_
          rintro _ ⟨q, rfl⟩
          have B6 := hide (BW.out.trans (q.h.mono BW.out.size))
          have R6 := hide (RW.out.below q.h RW.out.lt)
          have r0 := R6.out.cell 0
          have r1 := R6.out.cell 1
          have r2 := R6.out.cell 2
          have r3 := R6.out.cell 3
          have r4 := R6.out.cell 4
          have r5 := R6.out.cell 5
          simp [aq0] at r0 r1 r2 r3 r4 r5
          have hlr := R6.out.lt
          have fr := fun j => R6.out.frz j
          go_wp2
          refine bodyPost_ret (v := .tuple #[aqV aq0, .int .i64 7]) (by simp [results, Tryz.results24, go_sem, World.cell?_alloc_lt, hlr, r0, r1, r2, r3, r4, r5, aqV, aq0]) rfl ?_
          rw [HR.out]
          exact resA_err (below_aq B6.out (by omega) _ _ _ _ _ _)
    · have hkz : ¬ (k : Int) < (a.bn : Int) := by omega
      have HSB := hide (show a.b.any (samB b) = false by
        rw [List.any_eq_false]
        intro u hu h
        have := HAK.out u (by rwa [List.take_of_length_le (by have := HBL.out; omega)])
        rw [this] at h; cases h)
      clear ZW
      by_cases h128 : 128 ≤ a.bn
      · have hz : (128 : Int) ≤ (a.bn : Int) := by omega
        have HR := hide (show bilA (aqP a) b = (13, pa0) from bilA_full HSB.out (by show 128 ≤ a.b.length; have := HBL.out; omega))
        have r0 := RW.out.cell 0
        have r1 := RW.out.cell 1
        have r2 := RW.out.cell 2
        have r3 := RW.out.cell 3
        have r4 := RW.out.cell 4
        have r5 := RW.out.cell 5
        simp [aq0] at r0 r1 r2 r3 r4 r5
        have hlr := RW.out.lt
        have fr := fun j => RW.out.frz j
        go_wp2
        refine bodyPost_ret (v := .tuple #[aqV aq0, .int .i64 13]) (by simp [results, Tryz.results24, go_sem, World.cell?_alloc_lt, hlr, r0, r1, r2, r3, r4, r5, aqV, aq0]) rfl ?_
        rw [HR.out]
        exact resA_err (below_aq BW.out (by omega) _ _ _ _ _ _)
      have hz : ¬ (128 : Int) ≤ (a.bn : Int) := by omega
      have HR0 := hide (bilA_go (a := aqP a) (b := b) HSB.out (by show ¬ 128 ≤ a.b.length; have := HBL.out; omega))
      have HC1 := hide (HC.out _ BW.out)
      obtain ⟨er, ys, hr⟩ : ∃ er ys, billO a.o b = (er, ys) := ⟨_, _, rfl⟩
      have HRO := hide (show billO (aqP a).o b = (er, ys) from hr)
      rw [hr] at HC1 HMEM HPR
      rw [HRO.out] at HR0
      clear x3
      have x0 := XW.out.cell 0
      have x1 := XW.out.cell 1
      have x2 := XW.out.cell 2
      have x3 := XW.out.cell 3
      have x4 := XW.out.cell 4
      have x5 := XW.out.cell 5
      simp [aq0] at x0 x1 x2 x3 x4 x5
      have q0 := QW.out.cell 0
      have q1 := QW.out.cell 1
      have q2 := QW.out.cell 2
      have q3 := QW.out.cell 3
      have q4 := QW.out.cell 4
      simp [aq0] at q0 q1 q2 q3 q4
      clear hr HC
      go_wp2_with fail
      refine HC1.out.mono ?_
      rintro e w1 ⟨A1, n1, c1, rfl, hsl, hb⟩
      have B1 := hide (BW.out.trans (hb.mono BW.out.size))
      have X1 := hide (XW.out.below hb XW.out.lt)
      have Q1 := hide (QW.out.below hb QW.out.lt)
      have R1 := hide (RW.out.below hb RW.out.lt)
      have HSL := hide hsl
      clear hsl hb HC1 hz BW XW QW RW hkz B0 X0 Q0 R0 x0 x1 x2 x3 x4 x5 q0 q1 q2 q3 q4
      by_cases hz : (er != 0) = true
      · have HR := hide (show bilA (aqP a) b = (er, pa0) by
          rw [HR0.out, folA_err (by simpa using hz), if_neg (by simpa using hz)])
        have r0 := R1.out.cell 0
        have r1 := R1.out.cell 1
        have r2 := R1.out.cell 2
        have r3 := R1.out.cell 3
        have r4 := R1.out.cell 4
        have r5 := R1.out.cell 5
        simp [aq0] at r0 r1 r2 r3 r4 r5
        have hlr := R1.out.lt
        have fr := fun j => R1.out.frz j
        go_wp2
        refine bodyPost_ret (v := .tuple #[aqV aq0, .int .i64 er]) (by simp [results, Tryz.results24, go_sem, World.cell?_alloc_lt, hlr, r0, r1, r2, r3, r4, r5, aqV, aq0]) rfl ?_
        rw [HR.out]
        exact resA_err (below_aq B1.out (by omega) _ _ _ _ _ _)
      have hz' : (er != 0) = false := by simpa using hz
      have h0 : er = 0 := by simpa using hz
      subst h0
      obtain ⟨x, y, hx, hy, hxv, hyv, hxm, hym⟩ := HPR.out rfl
      have hhy : y.sh.all (shHas a.f) = true := by
        obtain ⟨v, hv, hsm⟩ := HMEM.out y (getO_in hy).1
        rw [hsm.2.2.2]; exact HHAS.out v hv
      have HG1 := hide (rget_any a.oA a.on a.oc a.o b.ord w1 ((HS.out.o.below B1.out).more B1.out.size))
      rw [hx] at HG1
      have HG2 := hide (fun W (hW : Below w1.heap.size w1 W) => rget_any A1 n1 c1 ys b.ord W ((HSL.out.below hW).more hW.size))
      rw [hy] at HG2
      have hySH : ∀ W, Below w1.heap.size w1 W → OdS W W.heap.size y := fun W hW => by
        obtain ⟨v, hv, hsm⟩ := HMEM.out y (getO_in hy).1
        exact hsm.od (((HS.out.os v hv).below (B1.out.trans (hW.mono B1.out.size))).more (B1.out.trans (hW.mono B1.out.size)).size)
      have HSE := hide (fun W (hW : Below w1.heap.size w1 W) => rsettled_any a.fA a.fn a.fc a.f x y b.amt W ((HS.out.f.below (B1.out.trans (hW.mono B1.out.size))).more (B1.out.trans (hW.mono B1.out.size)).size) hn HD.out HM.out (((HS.out.os x (getO_in hx).1).below (B1.out.trans (hW.mono B1.out.size))).more (B1.out.trans (hW.mono B1.out.size)).size) (hySH W hW) hxv hyv hxm hym hhy)
      have hfe : folA (aqP a) (0, ys) b.ord b.amt = chgA (aqP a) ys (stlA a.f x y b.amt) := by
        rw [folA_ok rfl]
        show chgA (aqP a) ys (stlA a.f (getO a.o b.ord).1 (getO ys b.ord).1 b.amt) = _
        rw [hx, hy]
      obtain ⟨ef, zs, hf⟩ : ∃ ef zs, stlA a.f x y b.amt = (ef, zs) := ⟨_, _, rfl⟩
      have hzl : zs.length ≤ 1000 := by
        have h := stlL_len (de := fun q => partO y (resvO y) q - partO x (resvO x) q) (ds := fun q => partO y b.amt q) y.sh a.f
        unfold stlA at hf
        rw [hf] at h
        have := HS.out.f.len
        have h2 : zs.length ≤ a.f.length := h
        omega
      rw [hf] at HSE hfe
      have HFE := hide hfe
      have HZL := hide hzl
      clear hx hy hxv hyv hxm hym hhy hySH hfe hf hzl
      unfold odV at HG1 HG2 HSE
      have x0 := X1.out.cell 0
      have x1 := X1.out.cell 1
      have x2 := X1.out.cell 2
      have x3 := X1.out.cell 3
      have x4 := X1.out.cell 4
      have x5 := X1.out.cell 5
      simp [aq0] at x0 x1 x2 x3 x4 x5
      have q0 := Q1.out.cell 0
      have q1 := Q1.out.cell 1
      have q2 := Q1.out.cell 2
      have q3 := Q1.out.cell 3
      have q4 := Q1.out.cell 4
      simp [aq0] at q0 q1 q2 q3 q4
      go_wp2_with fail
      refine HG1.out.mono ?_
      rintro e w2 ⟨rfl, hb⟩
      have B2 := hide (B1.out.trans (hb.mono B1.out.size))
      have X2 := hide (X1.out.below hb X1.out.lt)
      have R2 := hide (R1.out.below hb R1.out.lt)
      have K2 := hide hb
      have Q2 := hide (Q1.out.below hb Q1.out.lt)
      have U2 := hide (Box.new w2 35 (odC x))
      have B3 := hide (B2.out.alloc B2.out.size (.cells (odC x) 35))
      have K3 := hide (K2.out.alloc K2.out.size (.cells (odC x) 35))
      have HG3 := hide (HG2.out _ K3.out)
      clear hb HG1 x0 x1 x2 x3 x4 x5 q0 q1 q2 q3 q4
      have x0 := X2.out.cell 0
      have x1 := X2.out.cell 1
      have x2 := X2.out.cell 2
      have x3 := X2.out.cell 3
      have x4 := X2.out.cell 4
      have x5 := X2.out.cell 5
      simp [aq0] at x0 x1 x2 x3 x4 x5
      have xlt := X2.out.lt
      have xx0 := fun o => (World.cell?_alloc_lt w2 o ⟨w.heap.size, 0, none⟩ (by exact xlt)).trans x0
      have xx1 := fun o => (World.cell?_alloc_lt w2 o ⟨w.heap.size, 1, none⟩ (by exact xlt)).trans x1
      have xx2 := fun o => (World.cell?_alloc_lt w2 o ⟨w.heap.size, 2, none⟩ (by exact xlt)).trans x2
      have xx3 := fun o => (World.cell?_alloc_lt w2 o ⟨w.heap.size, 3, none⟩ (by exact xlt)).trans x3
      have xx4 := fun o => (World.cell?_alloc_lt w2 o ⟨w.heap.size, 4, none⟩ (by exact xlt)).trans x4
      have xx5 := fun o => (World.cell?_alloc_lt w2 o ⟨w.heap.size, 5, none⟩ (by exact xlt)).trans x5
      have q0 := Q2.out.cell 0
      have q1 := Q2.out.cell 1
      have q2 := Q2.out.cell 2
      have q3 := Q2.out.cell 3
      have q4 := Q2.out.cell 4
      simp [aq0] at q0 q1 q2 q3 q4
      have qlt := Q2.out.lt
      have qq0 := fun o => (World.cell?_alloc_lt w2 o ⟨w.heap.size + 1, 0, none⟩ (by exact qlt)).trans q0
      have qq1 := fun o => (World.cell?_alloc_lt w2 o ⟨w.heap.size + 1, 1, none⟩ (by exact qlt)).trans q1
      have qq2 := fun o => (World.cell?_alloc_lt w2 o ⟨w.heap.size + 1, 2, none⟩ (by exact qlt)).trans q2
      have qq3 := fun o => (World.cell?_alloc_lt w2 o ⟨w.heap.size + 1, 3, none⟩ (by exact qlt)).trans q3
      have qq4 := fun o => (World.cell?_alloc_lt w2 o ⟨w.heap.size + 1, 4, none⟩ (by exact qlt)).trans q4
      go_wp2_with fail
      refine HG3.out.mono ?_
      rintro e w3 ⟨rfl, hb⟩
      have B4 := hide (B3.out.trans (hb.mono B3.out.size))
      have K4 := hide (K3.out.trans (hb.mono K3.out.size))
      have X4 := hide ((X2.out.alloc (.cells (odC x) 35)).below hb (by have := X2.out.lt; simp; omega))
      have R4 := hide ((R2.out.alloc (.cells (odC x) 35)).below hb (by have := R2.out.lt; simp; omega))
      have U4 := hide (U2.out.below hb U2.out.lt)
      have Q4 := hide ((Q2.out.alloc (.cells (odC x) 35)).below hb (by have := Q2.out.lt; simp; omega))
      have B5 := hide (B4.out.alloc B4.out.size (.cells (odC y) 35))
      have K5 := hide (K4.out.alloc K4.out.size (.cells (odC y) 35))
      have HSE5 := hide (HSE.out _ K5.out)
      clear hb HG3 HG2 HSE x0 x1 x2 x3 x4 x5 xx0 xx1 xx2 xx3 xx4 xx5 xlt q0 q1 q2 q3 q4 qq0 qq1 qq2 qq3 qq4 qlt
      have x0 := X4.out.cell 0
      have x1 := X4.out.cell 1
      have x2 := X4.out.cell 2
      have x3 := X4.out.cell 3
      have x4 := X4.out.cell 4
      have x5 := X4.out.cell 5
      simp [aq0] at x0 x1 x2 x3 x4 x5
      have xlt := X4.out.lt
      have xx0 := fun o => (World.cell?_alloc_lt w3 o ⟨w.heap.size, 0, none⟩ (by exact xlt)).trans x0
      have xx1 := fun o => (World.cell?_alloc_lt w3 o ⟨w.heap.size, 1, none⟩ (by exact xlt)).trans x1
      have xx2 := fun o => (World.cell?_alloc_lt w3 o ⟨w.heap.size, 2, none⟩ (by exact xlt)).trans x2
      have xx3 := fun o => (World.cell?_alloc_lt w3 o ⟨w.heap.size, 3, none⟩ (by exact xlt)).trans x3
      have xx4 := fun o => (World.cell?_alloc_lt w3 o ⟨w.heap.size, 4, none⟩ (by exact xlt)).trans x4
      have xx5 := fun o => (World.cell?_alloc_lt w3 o ⟨w.heap.size, 5, none⟩ (by exact xlt)).trans x5
      have u0 := U4.out.cell 0
      have u1 := U4.out.cell 1
      have u2 := U4.out.cell 2
      have u3 := U4.out.cell 3
      have u4 := U4.out.cell 4
      have u5 := U4.out.cell 5
      have u6 := U4.out.cell 6
      have u7 := U4.out.cell 7
      have u8 := U4.out.cell 8
      have u9 := U4.out.cell 9
      simp [aq0] at u0 u1 u2 u3 u4 u5 u6 u7 u8 u9
      have ult := U4.out.lt
      have uu0 := fun o => (World.cell?_alloc_lt w3 o ⟨w2.heap.size, 0, none⟩ (by exact ult)).trans u0
      have uu1 := fun o => (World.cell?_alloc_lt w3 o ⟨w2.heap.size, 1, none⟩ (by exact ult)).trans u1
      have uu2 := fun o => (World.cell?_alloc_lt w3 o ⟨w2.heap.size, 2, none⟩ (by exact ult)).trans u2
      have uu3 := fun o => (World.cell?_alloc_lt w3 o ⟨w2.heap.size, 3, none⟩ (by exact ult)).trans u3
      have uu4 := fun o => (World.cell?_alloc_lt w3 o ⟨w2.heap.size, 4, none⟩ (by exact ult)).trans u4
      have uu5 := fun o => (World.cell?_alloc_lt w3 o ⟨w2.heap.size, 5, none⟩ (by exact ult)).trans u5
      have uu6 := fun o => (World.cell?_alloc_lt w3 o ⟨w2.heap.size, 6, none⟩ (by exact ult)).trans u6
      have uu7 := fun o => (World.cell?_alloc_lt w3 o ⟨w2.heap.size, 7, none⟩ (by exact ult)).trans u7
      have uu8 := fun o => (World.cell?_alloc_lt w3 o ⟨w2.heap.size, 8, none⟩ (by exact ult)).trans u8
      have uu9 := fun o => (World.cell?_alloc_lt w3 o ⟨w2.heap.size, 9, none⟩ (by exact ult)).trans u9
      have q0 := Q4.out.cell 0
      have q1 := Q4.out.cell 1
      have q2 := Q4.out.cell 2
      have q3 := Q4.out.cell 3
      have q4 := Q4.out.cell 4
      simp [aq0] at q0 q1 q2 q3 q4
      have qlt := Q4.out.lt
      have qq0 := fun o => (World.cell?_alloc_lt w3 o ⟨w.heap.size + 1, 0, none⟩ (by exact qlt)).trans q0
      have qq1 := fun o => (World.cell?_alloc_lt w3 o ⟨w.heap.size + 1, 1, none⟩ (by exact qlt)).trans q1
      have qq2 := fun o => (World.cell?_alloc_lt w3 o ⟨w.heap.size + 1, 2, none⟩ (by exact qlt)).trans q2
      have qq3 := fun o => (World.cell?_alloc_lt w3 o ⟨w.heap.size + 1, 3, none⟩ (by exact qlt)).trans q3
      have qq4 := fun o => (World.cell?_alloc_lt w3 o ⟨w.heap.size + 1, 4, none⟩ (by exact qlt)).trans q4
      clear x0 x1 x2 x3 x4 x5 u0 u1 u2 u3 u4 u5 u6 u7 u8 u9 q0 q1 q2 q3 q4
      go_wp2_with fail
      refine HSE5.out.mono ?_
      rintro e w5 ⟨v, rfl, ho, hb⟩
      obtain ⟨A2, c2, hv, hsl⟩ := Fo_sl ho (by show zs.length ≤ _; have := HZL.out; omega)
      obtain ⟨m2, hm2⟩ : ∃ m2, zs.length = m2 := ⟨_, rfl⟩
      replace hv : v = .slice A2 zs.length c2 := hv
      replace hsl : Fs w5 w5.heap.size A2 zs.length c2 zs := hsl
      rw [hm2] at hv hsl
      subst hv
      have HF5 := hide hsl
      have B6 := hide (B5.out.trans (hb.mono B5.out.size))
      have K6 := hide (K5.out.trans (hb.mono K5.out.size))
      have X6 := hide ((X4.out.alloc (.cells (odC y) 35)).below hb (by have := X4.out.lt; simp; omega))
      have R6 := hide ((R4.out.alloc (.cells (odC y) 35)).below hb (by have := R4.out.lt; simp; omega))
      have Q6 := hide ((Q4.out.alloc (.cells (odC y) 35)).below hb (by have := Q4.out.lt; simp; omega))
      have HL6 := hide ((HSL.out.below K6.out).more K6.out.size)
      clear ho hb hsl hm2 HSE5 xx0 xx1 xx2 xx3 xx4 xx5 uu0 uu1 uu2 uu3 uu4 uu5 uu6 uu7 uu8 uu9 xlt ult qq0 qq1 qq2 qq3 qq4 qlt X2 X4 R2 R4 U2 U4 B2 B3 B4 B5 K2 K3 K4 K5 X1 R1 HSL Q1 Q2 Q4
      have r0 := R6.out.cell 0
      have r1 := R6.out.cell 1
      have r2 := R6.out.cell 2
      have r3 := R6.out.cell 3
      have r4 := R6.out.cell 4
      have r5 := R6.out.cell 5
      simp [aq0] at r0 r1 r2 r3 r4 r5
      have hlr := R6.out.lt
      have fr := fun j => R6.out.frz j
      by_cases hzf : (ef != 0) = true
      · have HR := hide (show bilA (aqP a) b = (ef, pa0) by
          rw [HR0.out, HFE.out]
          have hz2 : ¬ ef = 0 := by simpa using hzf
          unfold chgA
          rw [if_neg hz2, if_neg hz2])
        go_wp2
        refine bodyPost_ret (v := .tuple #[aqV aq0, .int .i64 ef]) (by simp [results, Tryz.results24, go_sem, World.cell?_alloc_lt, hlr, r0, r1, r2, r3, r4, r5, aqV, aq0]) rfl ?_
        rw [HR.out]
        exact resA_err (below_aq B6.out (by omega) _ _ _ _ _ _)
      have hzf' : (ef != 0) = false := by simpa using hzf
      have h0 : ef = 0 := by simpa using hzf
      subst h0
      have HR := hide (show bilA (aqP a) b = (0, { aqP a with o := ys, f := zs, b := a.b ++ [b] }) by
        rw [HR0.out, HFE.out]; unfold chgA; rw [if_pos rfl, if_pos rfl]; rfl)
      have x3 := X6.out.cell 3
      simp at x3
      have HB5 := hide ((HS.out.b.below B6.out).more B6.out.size)
      have L5 := hide (Below.refl w5.heap.size w5)
      have hn128 : a.bn ≤ 128 := by omega
      clear hz hz' hzf
      clear r0 r1 r2 r3 r4 r5 hlr fr
      go_wp2_with (at_builtin; go_must (refine wpList_append_sl _ rfl _ _ 24 rfl (w5.heap.size) 43 i0 _ 40 Tryz.underlying24 HI.out.1 HI.out.2.1 HI.out.2.2.1 HI.out.2.2.2 rfl (by decide) blE_len blE_one _ 0 [] rfl (World.ownsRow_nil _ _ _ _) a.bA a.bn a.bc rfl HB5.out (by unfold maxLen; omega) (by omega) (Nat.le_refl _) ?_))
      intro v8 w8 hown hg hat
      have hown8 : w8.ownsRow w5.heap.size 43 5 v8 a.bn (a.b.flatMap blE) := by simpa using hown
      have HO8 := hide hown8
      have L8 := hide (L5.out.grown hg (Nat.le_refl _) (by intro q hq; simp [Value.ownBlock] at hq))
      have Q8 := hide (Q6.out.below L8.out Q6.out.lt)
      have q0 := Q8.out.cell 0
      have q1 := Q8.out.cell 1
      have q2 := Q8.out.cell 2
      have q3 := Q8.out.cell 3
      have q4 := Q8.out.cell 4
      simp [aq0] at q0 q1 q2 q3 q4
      have HO9 := hide (fun o => HO8.out.alloc o)
      clear hown hown8 hg hat x3
      go_wp2_with (at_builtin; go_must (refine wpList_append_sl _ rfl _ _ 24 rfl (w5.heap.size) 43 i0 _ 40 Tryz.underlying24 HI.out.1 HI.out.2.1 HI.out.2.2.1 HI.out.2.2.2 rfl (by decide) blE_len blE_one _ _ _ rfl (HO9.out _) _ 1 1 rfl (bl_sl1 (x := b) (Box.new _ _ _)) (by unfold maxLen; omega) (by omega) ((by have := L8.out.size; simp; omega)) ?_))
      intro v9 w9 hown hg hat
      have hown9 : Blo w9 w5.heap.size v9 (a.b ++ [b]) := by
        unfold Blo
        have h := hown
        rw [List.flatMap_append, List.length_append, HBL.out]
        simpa using h
      obtain ⟨A3, c3, hv, hsl⟩ := Blo_sl hown9 (by rw [List.length_append, HBL.out]; simp; omega)
      obtain ⟨m3, hm3⟩ : ∃ m3, (a.b ++ [b]).length = m3 := ⟨_, rfl⟩
      rw [hm3] at hv hsl
      subst hv
      have HB9 := hide hsl
      have L9 := hide ((L8.out.alloc L8.out.size (.cells (blC b) 43)).grown hg (by have := L8.out.size; simp; omega) (by intro q hq; exact (HO8.out.lt q hq).1))
      have B9 := hide (B6.out.trans (L9.out.mono B6.out.size))
      have X9 := hide (X6.out.below L9.out X6.out.lt)
      have R9 := hide (R6.out.below L9.out R6.out.lt)
      have HF9 := hide ((HF5.out.below L9.out).more L9.out.size)
      have HL9 := hide ((HL6.out.below L9.out).more L9.out.size)
      clear hown hown9 hg hat hsl hm3 q0 q1 q2 q3 q4 Q8 HO8 HO9 L8 L5 HB5
      have x0 := X9.out.cell 0
      have x1 := X9.out.cell 1
      have x2 := X9.out.cell 2
      have x3 := X9.out.cell 3
      have x4 := X9.out.cell 4
      have x5 := X9.out.cell 5
      simp [aq0] at x0 x1 x2 x3 x4 x5
      have r0 := R9.out.cell 0
      have r1 := R9.out.cell 1
      have r2 := R9.out.cell 2
      have r3 := R9.out.cell 3
      have r4 := R9.out.cell 4
      have r5 := R9.out.cell 5
      simp [aq0] at r0 r1 r2 r3 r4 r5
      have fr := fun j => R9.out.frz j
      have xf := fun j => X9.out.frz j
      go_wp2
      refine bodyPost_ret (v := .tuple #[aqV { a with fA := A2, fn := m2, fc := c2, f := zs, oA := A1, on := n1, oc := c1, o := ys, bA := A3, bn := m3, bc := c3, b := a.b ++ [b] }, .int .i64 0]) (by simp [results, Tryz.results24, go_sem, r0, r1, r2, r3, r4, r5, aqV]) rfl ?_
      rw [HR.out]
      have NF := HF9.out.notAt X9.out (aq_noFu a)
      have NL := HL9.out.notAt X9.out (aq_noOd a)
      have NB := HB9.out.notAt X9.out (aq_noBl a)
      have Y1 := (Sl.far (p := ⟨w.heap.size, 3, none⟩) (Sl.far (p := ⟨w.heap.size, 1, none⟩) (Sl.far (p := ⟨w.heap.size, 2, none⟩) HF9.out NF (.slice A1 n1 c1)) NF (.slice A2 m2 c2)) NF (.slice A3 m3 c3))
      have Y2 := (Sl.far (p := ⟨w.heap.size, 3, none⟩) (Sl.far (p := ⟨w.heap.size, 1, none⟩) (Sl.far (p := ⟨w.heap.size, 2, none⟩) HL9.out NL (.slice A1 n1 c1)) NL (.slice A2 m2 c2)) NL (.slice A3 m3 c3))
      have Y4 := (Sl.far (p := ⟨w.heap.size, 3, none⟩) (Sl.far (p := ⟨w.heap.size, 1, none⟩) (Sl.far (p := ⟨w.heap.size, 2, none⟩) HB9.out NB (.slice A1 n1 c1)) NB (.slice A2 m2 c2)) NB (.slice A3 m3 c3))
      have Y3 := (Below.setCell (p := ⟨w.heap.size, 3, none⟩) (Below.setCell (p := ⟨w.heap.size, 1, none⟩) (Below.setCell (p := ⟨w.heap.size, 2, none⟩) B9.out (Nat.le_refl _) (.slice A1 n1 c1)) (Nat.le_refl _) (.slice A2 m2 c2)) (Nat.le_refl _) (.slice A3 m3 c3))
      have YR := (Box.far (p := ⟨w.heap.size, 3, none⟩) (Box.far (p := ⟨w.heap.size, 1, none⟩) (Box.far (p := ⟨w.heap.size, 2, none⟩) R9.out (by show _ ≠ w.heap.size; omega) (.slice A1 n1 c1)) (by show _ ≠ w.heap.size; omega) (.slice A2 m2 c2)) (by show _ ≠ w.heap.size; omega) (.slice A3 m3 c3))
      obtain ⟨WZ, hWZ⟩ : ∃ WZ, WZ = (((w9.setCell ⟨w.heap.size, 2, none⟩ (.slice A1 n1 c1)).setCell ⟨w.heap.size, 1, none⟩ (.slice A2 m2 c2)).setCell ⟨w.heap.size, 3, none⟩ (.slice A3 m3 c3)) := ⟨_, rfl⟩
      have hzz : WZ.heap.size = w9.heap.size := by rw [hWZ]; simp
      rw [← hWZ] at Y1 Y2 Y3 YR Y4 ⊢
      clear hWZ
      have h0 : AqS WZ WZ.heap.size { a with fA := A2, fn := m2, fc := c2, f := zs, oA := A1, on := n1, oc := c1, o := ys, bA := A3, bn := m3, bc := c3, b := a.b ++ [b] } := ⟨Y1.more (by omega), Y2.more (by omega), fun u hu => by
        obtain ⟨v, hv, hsm⟩ := HMEM.out u hu
        exact hsm.od (((HS.out.os v hv).below Y3).more Y3.size), Y4.more (by omega), (HS.out.s.below Y3).more Y3.size, fun u hu => ((HS.out.ss u hu).below Y3).more Y3.size⟩
      have hB := below_aq Y3 (show w.heap.size ≤ w.heap.size + 1 + 1 by omega) (.int .i64 a.yr) (.slice A2 m2 c2) (.slice A1 n1 c1) (.slice A3 m3 c3) (.slice a.sA a.sn a.sc) (.int .i64 a.nx)
      have h1 := AqS.put (w0 := w) h0 YR (fun u hu => HS.out.ss u hu) (.int .i64 a.yr) (.slice A2 m2 c2) (.slice A1 n1 c1) (.slice A3 m3 c3) (.slice a.sA a.sn a.sc) (.int .i64 a.nx) hB
      exact ⟨_, rfl, h1, rfl, hB⟩
end Go.Proofs.YtbhndfphegflhaaGreat
