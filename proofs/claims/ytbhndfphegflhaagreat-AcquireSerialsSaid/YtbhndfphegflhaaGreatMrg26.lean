/- Texts laid together by merge.py: AqO, AqP. -/
import Derived.Test.YtbhndfphegflhaaGreatMrg25
import Derived.Test.YtbhndfphegflhaaGreatMrg23
set_option linter.unusedSimpArgs false
set_option linter.unusedVariables false
/- Walks: change, Stop of the program. Printed by gen_aq_o.py. -/
namespace Go.Proofs.YtbhndfphegflhaaGreat
open Go.RowKit

theorem getO_in {xs : List Od} {id : Int} {x : Od} (h : getO xs id = (x, true)) : x ∈ xs ∧ x.id = id := by
  rcases getO_cases xs id with ⟨_, h2, _⟩ | ⟨i, y, _, h2, h3, h4, _⟩
  · rw [h] at h2; cases h2
  · rw [h] at h4; cases h4; exact ⟨List.mem_of_getElem? h2, h3⟩
theorem aq_noSh (a : Aq) (x : Sh) (off : Nat) : ¬ ∀ j u, (shE x)[j]? = some u → (aqC a)[off + j]? = some u := fun h => by
  match off with
  | 0 => have := h 1 _ rfl; simp at this
  | 1 => have := h 0 _ rfl; simp at this
  | 2 => have := h 0 _ rfl; simp at this
  | 3 => have := h 0 _ rfl; simp at this
  | 4 => have := h 0 _ rfl; simp at this
  | off + 5 => have := h 1 _ rfl; rw [Array.getElem?_eq_none (by simp <;> omega)] at this; cases this
/-- A state whose lists lie elsewhere, behind a store into a box. -/
theorem AqS.put {w0 w : World} {z y : Aq} {g : Nat} (h : AqS w w.heap.size z) (hR : Box w g 27 (aqC y)) (hs0 : ∀ x ∈ z.s, SeS w0 w0.heap.size x) (u0 u1 u2 u3 u4 u5 : Value)
    (hb : Below w0.heap.size w0 ((((((w.setCell ⟨g, 0, none⟩ u0).setCell ⟨g, 1, none⟩ u1).setCell ⟨g, 2, none⟩ u2).setCell ⟨g, 3, none⟩ u3).setCell ⟨g, 4, none⟩ u4).setCell ⟨g, 5, none⟩ u5)) : AqS ((((((w.setCell ⟨g, 0, none⟩ u0).setCell ⟨g, 1, none⟩ u1).setCell ⟨g, 2, none⟩ u2).setCell ⟨g, 3, none⟩ u3).setCell ⟨g, 4, none⟩ u4).setCell ⟨g, 5, none⟩ u5) ((((((w.setCell ⟨g, 0, none⟩ u0).setCell ⟨g, 1, none⟩ u1).setCell ⟨g, 2, none⟩ u2).setCell ⟨g, 3, none⟩ u3).setCell ⟨g, 4, none⟩ u4).setCell ⟨g, 5, none⟩ u5).heap.size z :=
  ⟨(h.f.far6 (h.f.notAt hR (aq_noFu y)) u0 u1 u2 u3 u4 u5).more (by simp), (h.o.far6 (h.o.notAt hR (aq_noOd y)) u0 u1 u2 u3 u4 u5).more (by simp),
   fun x hx => Sl.more ((h.os x hx).far6 (Sl.notAt (h.os x hx) hR (aq_noSh y)) u0 u1 u2 u3 u4 u5) (by simp), (h.b.far6 (h.b.notAt hR (aq_noBl y)) u0 u1 u2 u3 u4 u5).more (by simp),
   (h.s.far6 (h.s.notAt hR (aq_noSe y)) u0 u1 u2 u3 u4 u5).more (by simp), fun x hx => ((hs0 x hx).below hb).more hb.size⟩
/-- What change hands back. -/
def chgA (a : Pa) (ys : List Od) (r : Int × List Fu) : Int × Pa := if r.1 = 0 then (0, { a with o := ys, f := r.2 }) else (r.1, pa0)

set_option maxRecDepth 100000 in
set_option maxHeartbeats 2000000 in
theorem pchg_any (a : Aq) (A : Option Addr) (n c : Nat) (ys : List Od) (id am : Int) (x y : Od) (w : World) (hs : AqS w w.heap.size a) (hn : a.fn ≤ 1000) (hm : ∀ f ∈ a.f, FuM f) (hl : Ods w w.heap.size A n c ys) (hls : ∀ u ∈ ys, OdS w w.heap.size u)
    (hx : getO a.o id = (x, true)) (hy : getO ys id = (y, true)) (hxv : sharesV x.sh = true) (hyv : sharesV y.sh = true) (hxm : OdM x) (hym : OdM y) :
    Calls Tryz.prog 75 #[aqV a, .slice A n c, .int .i64 id, .int .i64 am] w (ResA w (chgA (aqP a) ys (stlA a.f x y am))) := by
  have B0 := hide (((Below.refl w.heap.size w).alloc (Nat.le_refl _) (.cells (aqC a) 27)).alloc (by simp) (.cells (aqC aq0) 27))
  have X0 := hide ((Box.new w 27 (aqC a)).alloc (.cells (aqC aq0) 27))
  have R0 := hide (Box.new (w.alloc (.cells (aqC a) 27)) 27 (aqC aq0))
  rw [World.size_alloc] at R0
  have HG1 := hide (oget_any a.oA a.on a.oc a.o id _ ((hs.o.below B0.out).more B0.out.size))
  rw [hx] at HG1
  have HG2 := hide (fun W (hW : Below w.heap.size w W) => oget_any A n c ys id W ((hl.below hW).more hW.size))
  rw [hy] at HG2
  have HST := hide (fun W (hW : Below w.heap.size w W) => psettle_any a x y am W ((hs.below hW).more hW.size) hn hm (((hs.os x (getO_in hx).1).below hW).more hW.size) (((hls y (getO_in hy).1).below hW).more hW.size) hxv hyv hxm hym)
  obtain ⟨er, fs, hr⟩ : ∃ er fs, stlA a.f x y am = (er, fs) := ⟨_, _, rfl⟩
  rw [hr] at HST ⊢
  have HER := hide (show (withF (aqP a) (er, fs)).1 = er by unfold withF; split; (next h => exact h.symm); rfl)
  have HS := hide hs
  have HL := hide hl
  have HLS := hide hls
  clear hs hl hls hr hx hy hxv hyv hxm hym hm hn
  unfold odV at HG1 HG2
  unfold aqV odV at HST
  unfold aqV
  go_enter Tryz.func75, Tryz.ntmps75
  go_wp2_with fail
  refine HG1.out.mono ?_
  rintro e w1 ⟨rfl, hb⟩
  have B1 := hide (B0.out.trans (hb.mono B0.out.size))
  have X1 := hide (X0.out.below hb X0.out.lt)
  have R1 := hide (R0.out.below hb R0.out.lt)
  clear hb HG1
  have U1 := hide (Box.new w1 35 (odC x))
  have B2 := hide (B1.out.alloc B1.out.size (.cells (odC x) 35))
  have HG := hide (HG2.out _ B2.out)
  go_wp2_with fail
  refine HG.out.mono ?_
  rintro e w2 ⟨rfl, hb⟩
  have B3 := hide (B2.out.trans (hb.mono B2.out.size))
  have X3 := hide ((X1.out.alloc (.cells (odC x) 35)).below hb (by have := X1.out.lt; simp; omega))
  have R3 := hide ((R1.out.alloc (.cells (odC x) 35)).below hb (by have := R1.out.lt; simp; omega))
  have U3 := hide (U1.out.below hb U1.out.lt)
  clear hb HG HG2 X1 R1 U1 B1 B2
  have B4 := hide (B3.out.alloc B3.out.size (.cells (odC y) 35))
  have X4 := hide (X3.out.alloc (.cells (odC y) 35))
  have R4 := hide (R3.out.alloc (.cells (odC y) 35))
  have HSE := hide (HST.out _ B4.out)
  have xlt := X3.out.lt
  have ult := U3.out.lt
  have x0 := X3.out.cell 0
  have x1 := X3.out.cell 1
  have x2 := X3.out.cell 2
  have x3 := X3.out.cell 3
  have x4 := X3.out.cell 4
  have x5 := X3.out.cell 5
  simp [aq0] at x0 x1 x2 x3 x4 x5
  have u0 := U3.out.cell 0
  have u1 := U3.out.cell 1
  have u2 := U3.out.cell 2
  have u3 := U3.out.cell 3
  have u4 := U3.out.cell 4
  have u5 := U3.out.cell 5
  have u6 := U3.out.cell 6
  have u7 := U3.out.cell 7
  have u8 := U3.out.cell 8
  have u9 := U3.out.cell 9
  simp [aq0] at u0 u1 u2 u3 u4 u5 u6 u7 u8 u9
  have xx0 := fun o => (World.cell?_alloc_lt w2 o ⟨w.heap.size, 0, none⟩ (by exact xlt)).trans x0
  have xx1 := fun o => (World.cell?_alloc_lt w2 o ⟨w.heap.size, 1, none⟩ (by exact xlt)).trans x1
  have xx2 := fun o => (World.cell?_alloc_lt w2 o ⟨w.heap.size, 2, none⟩ (by exact xlt)).trans x2
  have xx3 := fun o => (World.cell?_alloc_lt w2 o ⟨w.heap.size, 3, none⟩ (by exact xlt)).trans x3
  have xx4 := fun o => (World.cell?_alloc_lt w2 o ⟨w.heap.size, 4, none⟩ (by exact xlt)).trans x4
  have xx5 := fun o => (World.cell?_alloc_lt w2 o ⟨w.heap.size, 5, none⟩ (by exact xlt)).trans x5
  have uu0 := fun o => (World.cell?_alloc_lt w2 o ⟨w1.heap.size, 0, none⟩ (by exact ult)).trans u0
  have uu1 := fun o => (World.cell?_alloc_lt w2 o ⟨w1.heap.size, 1, none⟩ (by exact ult)).trans u1
  have uu2 := fun o => (World.cell?_alloc_lt w2 o ⟨w1.heap.size, 2, none⟩ (by exact ult)).trans u2
  have uu3 := fun o => (World.cell?_alloc_lt w2 o ⟨w1.heap.size, 3, none⟩ (by exact ult)).trans u3
  have uu4 := fun o => (World.cell?_alloc_lt w2 o ⟨w1.heap.size, 4, none⟩ (by exact ult)).trans u4
  have uu5 := fun o => (World.cell?_alloc_lt w2 o ⟨w1.heap.size, 5, none⟩ (by exact ult)).trans u5
  have uu6 := fun o => (World.cell?_alloc_lt w2 o ⟨w1.heap.size, 6, none⟩ (by exact ult)).trans u6
  have uu7 := fun o => (World.cell?_alloc_lt w2 o ⟨w1.heap.size, 7, none⟩ (by exact ult)).trans u7
  have uu8 := fun o => (World.cell?_alloc_lt w2 o ⟨w1.heap.size, 8, none⟩ (by exact ult)).trans u8
  have uu9 := fun o => (World.cell?_alloc_lt w2 o ⟨w1.heap.size, 9, none⟩ (by exact ult)).trans u9
  clear x0 x1 x2 x3 x4 x5 u0 u1 u2 u3 u4 u5 u6 u7 u8 u9
  go_wp2_with fail
  refine HSE.out.mono ?_
  rintro e w5 ⟨z, rfl, hz, hp, hb⟩
  rw [HER.out]
  have B5 := hide (B4.out.trans (hb.mono B4.out.size))
  have R5 := hide (R4.out.below hb R4.out.lt)
  have HZ := hide ((hz.below ((Below.refl w5.heap.size w5).alloc (Nat.le_refl _) (.cells (aqC z) 27))).more (B' := (w5.alloc (.cells (aqC z) 27)).heap.size) (by simp))
  have HP := hide hp
  have B6 := hide (B5.out.alloc B5.out.size (.cells (aqC z) 27))
  have R6 := hide (R5.out.alloc (.cells (aqC z) 27))
  have HW := hide (pwithO_any z A n c ys er (w5.alloc (.cells (aqC z) 27)))
  unfold aqV at HW
  clear hz hp hb HSE HST xx0 xx1 xx2 xx3 xx4 xx5 uu0 uu1 uu2 uu3 uu4 uu5 uu6 uu7 uu8 uu9 xlt ult X3 X4 R3 R4 U3 B3 B4
  unfold aqV
  go_wp2_with fail
  refine HW.out.mono ?_
  rintro e w7 ⟨rfl, hb⟩
  have B7 := hide (B6.out.trans (hb.mono B6.out.size))
  have R7 := hide (R6.out.below hb R6.out.lt)
  have HZ7 := hide ((HZ.out.below hb).more hb.size)
  clear hb HW HZ B5 B6 R5 R6
  have r0 := R7.out.cell 0
  have r1 := R7.out.cell 1
  have r2 := R7.out.cell 2
  have r3 := R7.out.cell 3
  have r4 := R7.out.cell 4
  have r5 := R7.out.cell 5
  simp [aq0] at r0 r1 r2 r3 r4 r5
  have fr := fun j => R7.out.frz j
  by_cases hz : er = 0
  · rw [if_pos hz]
    subst hz
    have HPP := hide (show aqP z = { aqP a with f := fs } by rw [HP.out, withF_ok rfl])
    go_wp2
    refine bodyPost_ret (v := .tuple #[aqV { z with oA := A, on := n, oc := c, o := ys }, .int .i64 0]) (by simp [results, Tryz.results75, go_sem, r0, r1, r2, r3, r4, r5, aqV]) rfl ?_
    have hB := below_aq B7.out (show w.heap.size ≤ w.heap.size + 1 by omega) (.int .i64 z.yr) (.slice z.fA z.fn z.fc) (.slice A n c) (.slice z.bA z.bn z.bc) (.slice z.sA z.sn z.sc) (.int .i64 z.nx)
    have hP := HPP.out
    have hsq : z.s = a.s := by have := congrArg Pa.s hP; exact this
    have h1 := AqS.put (w0 := w) HZ7.out R7.out (fun x hx => HS.out.ss x (by rw [← hsq]; exact hx)) (.int .i64 z.yr) (.slice z.fA z.fn z.fc) (.slice A n c) (.slice z.bA z.bn z.bc) (.slice z.sA z.sn z.sc) (.int .i64 z.nx) hB
    refine ⟨_, rfl, ⟨h1.f, (HL.out.below hB).more hB.size, fun u hu => ((HLS.out u hu).below hB).more hB.size, h1.b, h1.s, h1.ss⟩, ?_, hB⟩
    show aqP { z with oA := A, on := n, oc := c, o := ys } = { aqP a with o := ys, f := fs }
    have e1 : ({ aqP z with o := ys } : Pa) = { aqP a with o := ys, f := fs } := by rw [hP]
    exact e1
  · rw [if_neg hz]
    have HR := hide (show chgA (aqP a) ys (er, fs) = (er, pa0) by unfold chgA; rw [if_neg hz])
    go_wp2
    refine bodyPost_ret (v := .tuple #[aqV aq0, .int .i64 er]) (by simp [results, Tryz.results75, go_sem, r0, r1, r2, r3, r4, r5, aqV, aq0]) rfl ?_
    rw [HR.out]
    exact resA_err (below_aq B7.out (by omega) _ _ _ _ _ _)
end Go.Proofs.YtbhndfphegflhaaGreat

/- Walks: Stop, New of the program. Printed by gen_aq_p.py. -/
namespace Go.Proofs.YtbhndfphegflhaaGreat
open Go.RowKit

theorem chgA_s {a : Pa} {ys : List Od} {r : Int × List Fu} : ∀ x ∈ (chgA a ys r).2.s, x ∈ a.s := by
  unfold chgA
  split
  · intro x hx; exact hx
  · intro x hx; cases hx
theorem folA_ok {a : Pa} {r : Int × List Od} {id am : Int} (h : r.1 = 0) : folA a r id am = chgA a r.2 (stlA a.f (getO a.o id).1 (getO r.2 id).1 am) := by unfold folA chgA; rw [if_pos h]
theorem folA_err {a : Pa} {r : Int × List Od} {id am : Int} (h : ¬ r.1 = 0) : folA a r id am = (r.1, pa0) := by unfold folA; rw [if_neg h]
/-- What stands behind an operation on one order that has gone well. -/
theorem op_pair {xs : List Od} (hv : VldO xs) (id : Int) {er : Od → Int} {g : Od → Od} (hid : ∀ x, (g x).id = x.id) (hk : ∀ x, chkO x = 0 → er x = 0 → chkO (g x) = 0) (h0 : (opO xs id er g).1 = 0) :
    ∃ x y, getO xs id = (x, true) ∧ getO (opO xs id er g).2 id = (y, true) ∧ sharesV x.sh = true ∧ sharesV y.sh = true ∧ OdM x ∧ OdM y := by
  rcases opO_cases hv id hid hk with ⟨h, _⟩ | ⟨x, he, hx, h1, h2, h3, h4, h5, h6⟩
  · exact absurd h0 h
  · obtain ⟨m1, _, _, v1, _⟩ := chkO_M hx
    obtain ⟨m2, _, _, v2, _⟩ := chkO_M (hk x hx he)
    exact ⟨x, g x, h2, h3, v1, v2, m1, m2⟩

set_option maxRecDepth 100000 in
set_option maxHeartbeats 2000000 in
theorem pstp_any (a : Aq) (id : Int) (w : World) (hs : AqS w w.heap.size a) (hn : a.fn ≤ 1000) (hm : ∀ f ∈ a.f, FuM f) (hv : VldO a.o) :
    Calls Tryz.prog 25 #[aqV a, .int .i64 id] w (ResA w (stpA (aqP a) id)) := by
  have B0 := hide (((Below.refl w.heap.size w).alloc (Nat.le_refl _) (.cells (aqC a) 27)).alloc (by simp) (.cells (aqC aq0) 27))
  have X0 := hide ((Box.new w 27 (aqC a)).alloc (.cells (aqC aq0) 27))
  have R0 := hide (Box.new (w.alloc (.cells (aqC a) 27)) 27 (aqC aq0))
  rw [World.size_alloc] at R0
  have HC := hide (ostop_any a.oA a.on a.oc a.o id _ ((hs.o.below B0.out).more B0.out.size) (by have := hv.len; have := hs.o.len; omega) hv.M)
  have HMEM := hide (stopO_mem (xs := a.o) (id := id))
  have HPR := hide (op_pair hv id (er := stopE) (g := stopF) (fun _ => rfl) (fun x h1 h2 => (stop_ok h1 h2).1))
  have HR0 := hide (show stpA (aqP a) id = folA (aqP a) (stopO a.o id) id 0 from rfl)
  change Hid ((stopO a.o id).1 = 0 → ∃ x y, getO a.o id = (x, true) ∧ getO (stopO a.o id).2 id = (y, true) ∧ sharesV x.sh = true ∧ sharesV y.sh = true ∧ OdM x ∧ OdM y) at HPR
  obtain ⟨er, ys, hr⟩ : ∃ er ys, stopO a.o id = (er, ys) := ⟨_, _, rfl⟩
  rw [hr] at HC HMEM HR0 HPR
  have HS := hide hs
  have HM := hide hm
  clear hs hv hr hm
  unfold aqV
  go_enter Tryz.func25, Tryz.ntmps25
  go_wp2_with fail
  refine HC.out.mono ?_
  rintro e w1 ⟨A1, n1, c1, rfl, hsl, hb⟩
  have B1 := hide (B0.out.trans (hb.mono B0.out.size))
  have X1 := hide (X0.out.below hb X0.out.lt)
  have R1 := hide (R0.out.below hb R0.out.lt)
  have HSL := hide hsl
  clear hsl hb HC
  by_cases hz : (er != 0) = true
  · have HR := hide (show stpA (aqP a) id = (er, pa0) by rw [HR0.out]; exact folA_err (by simpa using hz))
    have r0 := R1.out.cell 0
    have r1 := R1.out.cell 1
    have r2 := R1.out.cell 2
    have r3 := R1.out.cell 3
    have r4 := R1.out.cell 4
    have r5 := R1.out.cell 5
    simp [aq0] at r0 r1 r2 r3 r4 r5
    have fr := fun j => R1.out.frz j
    go_wp2
    refine bodyPost_ret (v := .tuple #[aqV aq0, .int .i64 er]) (by simp [results, Tryz.results25, go_sem, r0, r1, r2, r3, r4, r5, aqV, aq0]) rfl ?_
    rw [HR.out]
    exact resA_err (below_aq B1.out (by omega) _ _ _ _ _ _)
  · have hz' : (er != 0) = false := by simpa using hz
    have h0 : er = 0 := by simpa using hz
    subst h0
    obtain ⟨x, y, hx, hy, hxv, hyv, hxm, hym⟩ := HPR.out rfl
    have HR := hide (show stpA (aqP a) id = chgA (aqP a) ys (stlA a.f x y 0) by
      rw [HR0.out, folA_ok rfl]
      show chgA (aqP a) ys (stlA a.f (getO a.o id).1 (getO ys id).1 0) = _
      rw [hx, hy])
    have HCH := hide (pchg_any a A1 n1 c1 ys id 0 x y w1 ((HS.out.below B1.out).more B1.out.size) hn HM.out HSL.out (fun u hu => by
      obtain ⟨v, hv, hsm⟩ := HMEM.out u hu
      exact hsm.od (((HS.out.os v hv).below B1.out).more B1.out.size)) hx hy hxv hyv hxm hym)
    rw [← HR.out] at HCH
    unfold aqV at HCH
    have HCS := hide (fun u (hu : u ∈ (stpA (aqP a) id).2.s) => chgA_s (a := aqP a) (ys := ys) (r := stlA a.f x y 0) u (by rw [← HR.out]; exact hu))
    clear hx hy hxv hyv hxm hym hz
    have x0 := X1.out.cell 0
    have x1 := X1.out.cell 1
    have x2 := X1.out.cell 2
    have x3 := X1.out.cell 3
    have x4 := X1.out.cell 4
    have x5 := X1.out.cell 5
    simp [aq0] at x0 x1 x2 x3 x4 x5
    go_wp2_with fail
    refine HCH.out.mono ?_
    rintro e w2 ⟨z, rfl, hz, hp, hb⟩
    have B2 := hide (B1.out.trans (hb.mono B1.out.size))
    have R2 := hide (R1.out.below hb R1.out.lt)
    have HZ := hide hz
    have HP := hide hp
    clear hz hp hb HCH x0 x1 x2 x3 x4 x5
    unfold aqV
    have r0 := R2.out.cell 0
    have r1 := R2.out.cell 1
    have r2 := R2.out.cell 2
    have r3 := R2.out.cell 3
    have r4 := R2.out.cell 4
    have r5 := R2.out.cell 5
    simp [aq0] at r0 r1 r2 r3 r4 r5
    have fr := fun j => R2.out.frz j
    go_wp2
    obtain ⟨eq, hq⟩ : ∃ eq, (stpA (aqP a) id).1 = eq := ⟨_, rfl⟩
    refine bodyPost_ret (v := .tuple #[aqV z, .int .i64 (stpA (aqP a) id).1]) (by simp [results, Tryz.results25, go_sem, r0, r1, r2, r3, r4, r5, aqV]) rfl ?_
    have hB := below_aq B2.out (show w.heap.size ≤ w.heap.size + 1 by omega) (.int .i64 z.yr) (.slice z.fA z.fn z.fc) (.slice z.oA z.on z.oc) (.slice z.bA z.bn z.bc) (.slice z.sA z.sn z.sc) (.int .i64 z.nx)
    exact ⟨_, rfl, AqS.put (w0 := w) HZ.out R2.out (fun u hu => HS.out.ss u (HCS.out u (by rw [← HP.out]; exact hu))) (.int .i64 z.yr) (.slice z.fA z.fn z.fc) (.slice z.oA z.on z.oc) (.slice z.bA z.bn z.bc) (.slice z.sA z.sn z.sc) (.int .i64 z.nx) hB, HP.out, hB⟩

set_option maxRecDepth 100000 in
theorem pnew_any (y : Int) (w : World) (hy : 1900 ≤ y ∧ y ≤ 2199) :
    Calls Tryz.prog 13 #[.int .i64 y] w (fun e w' => e = .returned (aqV { aq0 with yr := y, nx := 1 }) ∧ Below w.heap.size w w') := by
  obtain ⟨h1, h2⟩ := hy
  have h1' : ¬ y < 1900 := by omega
  have h2' : ¬ 2199 < y := by omega
  go_enter Tryz.func13, Tryz.ntmps13
  go_wp2
  all_goals first
    | (exfalso; omega)
    | (refine bodyPost_ret (v := aqV { aq0 with yr := y, nx := 1 }) (by first | simp [results, Tryz.results13, go_sem, aqV, aq0] | (simp [results, Tryz.results13, go_sem, aqV, aq0]; omega)) rfl ⟨rfl, ?_⟩
       exact (Below.refl w.heap.size w).alloc (Nat.le_refl _) _)
end Go.Proofs.YtbhndfphegflhaaGreat
