/- Texts laid together by merge.py: AqR. -/
import Derived.Test.YtbhndfphegflhaaGreatMrg26
import Derived.Test.YtbhndfphegflhaaGreatMrg38
import Derived.Test.YtbhndfphegflhaaGreatMrg7
import Derived.Deep.RegionLaw
set_option linter.unusedSimpArgs false
set_option linter.unusedVariables false
/- Walks: Bill of the program. Printed by gen_aq_r.py. -/
namespace Go.Proofs.YtbhndfphegflhaaGreat
open Go.RowKit

theorem bl_sl1 {w : World} {g : Nat} {x : Bl} (h : Box w g 43 (blC x)) : Bls w (g + 1) (some ⟨g, 0, none⟩) 1 1 [x] :=
  Sl.of_box (t := 43) blE_len (xs := [x]) (show Box w g 43 (([x] : List Bl).flatMap blE).toArray from h) rfl (Nat.le_refl _) (by omega)
theorem bilA_same {a : Pa} {b : Bl} (h : a.b.any (samB b) = true) : bilA a b = (7, pa0) := by unfold bilA; rw [if_pos h]
theorem bilA_full {a : Pa} {b : Bl} (h : a.b.any (samB b) = false) (hn : 128 ≤ a.b.length) : bilA a b = (13, pa0) := by unfold bilA; rw [if_neg (by rw [h]; decide), if_pos hn]
theorem bilA_go {a : Pa} {b : Bl} (h : a.b.any (samB b) = false) (hn : ¬ 128 ≤ a.b.length) : bilA a b = if (folA a (billO a.o b) b.ord b.amt).1 = 0 then (0, { (folA a (billO a.o b) b.ord b.amt).2 with b := a.b ++ [b] }) else folA a (billO a.o b) b.ord b.amt := by
  unfold bilA; rw [if_neg (by rw [h]; decide), if_neg hn]
/-- .. and the bills' row is a new one. -/
def ResN (w : World) (r : Int × Pa) (e : Ending) (w' : World) : Prop :=
  ∃ x : Aq, e = .returned (.tuple #[aqV x, .int .i64 r.1]) ∧ AqS w' w'.heap.size x ∧ aqP x = r.2 ∧ Below w.heap.size w w' ∧ ∀ g, g < w.heap.size → NotAt x.bA x.bn g
theorem resN_err {w w' : World} {er : Int} (h : Below w.heap.size w w') : ResN w (er, pa0) (.returned (.tuple #[aqV aq0, .int .i64 er])) w' := ⟨aq0, rfl, AqS.zero _ _, rfl, h, fun _ _ _ _ h _ => by cases h⟩
theorem ResN.a {w : World} {r : Int × Pa} {e : Ending} {w' : World} (h : ResN w r e w') : ResA w r e w' := by
  obtain ⟨x, h1, h2, h3, h4, _⟩ := h
  exact ⟨x, h1, h2, h3, h4⟩
theorem chgA_err {a : Pa} {ys : List Od} {r : Int × List Fu} (h : ¬ (chgA a ys r).1 = 0) : (chgA a ys r).2 = pa0 := by
  unfold chgA at h ⊢
  split
  · rename_i h2; rw [if_pos h2] at h; exact absurd rfl h
  · rfl

set_option maxRecDepth 100000 in
set_option maxHeartbeats 4000000 in
theorem pbilN_any (a : Aq) (b : Bl) (w : World) (hs : AqS w w.heap.size a) (hn : a.fn ≤ 1000) (hm : ∀ f ∈ a.f, FuM f) (hv : VldO a.o) :
    Calls Tryz.prog 23 #[aqV a, blV b] w (ResN w (bilA (aqP a) b)) := by
  obtain ⟨i0, hi0, hz0, hz1, hz2⟩ := info_parts bl_info
  have HI := hide (And.intro hi0 (And.intro hz0 (And.intro hz1 hz2)))
  clear hi0 hz0 hz1 hz2
  have B0 := hide ((((Below.refl w.heap.size w).alloc (Nat.le_refl _) (.cells (aqC a) 27)).alloc (by simp) (.cells (blC b) 43)).alloc (by simp; omega) (.cells (aqC aq0) 27))
  have X0 := hide (((Box.new w 27 (aqC a)).alloc (.cells (blC b) 43)).alloc (.cells (aqC aq0) 27))
  have Q0 := hide ((Box.new (w.alloc (.cells (aqC a) 27)) 43 (blC b)).alloc (.cells (aqC aq0) 27))
  have R0 := hide (Box.new ((w.alloc (.cells (aqC a) 27)).alloc (.cells (blC b) 43)) 27 (aqC aq0))
  simp only [World.size_alloc] at Q0 R0
  have HCF := bl_containsFunc 72 #[.pointer (some ⟨w.heap.size + 1, 0, none⟩)] (fun c => samB b c) e_bi1 a.bA a.bn a.bc a.b _ ((hs.b.below B0.out).more B0.out.size) (fun W c _ hW => bi1_any c b (w.heap.size + 1) W (Q0.out.below hW Q0.out.lt))
  rw [any_ix] at HCF
  have HCF := hide HCF
  obtain ⟨sb, hsb⟩ : ∃ sb, a.b.any (fun c => samB b c) = sb := ⟨_, rfl⟩
  rw [hsb] at HCF
  have HSB := hide hsb
  have HC := hide (fun W (hW : Below w.heap.size w W) => obill_any a.oA a.on a.oc a.o b W ((hs.o.below hW).more hW.size) (by have := hv.len; have := hs.o.len; omega) hv.M)
  have HMEM := hide (billO_mem (xs := a.o) (b := b))
  have HPR := hide (op_pair hv b.ord (er := billE b) (g := billF b) (fun _ => rfl) (fun x h1 h2 => (bill_ok h1 h2).1))
  change Hid ((billO a.o b).1 = 0 → ∃ x y, getO a.o b.ord = (x, true) ∧ getO (billO a.o b).2 b.ord = (y, true) ∧ sharesV x.sh = true ∧ sharesV y.sh = true ∧ OdM x ∧ OdM y) at HPR
  have hbl := hs.b.len
  have hbb := hs.b.big
  have HS := hide hs
  have HM := hide hm
  have HBL := hide hbl
  clear hs hm hsb hv hbl
  unfold aqV blV
  unfold blV at HC
  go_enter Tryz.func23, Tryz.ntmps23
  go_wp2_with fail
  refine HCF.out.mono ?_
  rintro e w1 ⟨rfl, hb⟩
  have B1 := hide (B0.out.trans (hb.mono B0.out.size))
  have X1 := hide (X0.out.below hb X0.out.lt)
  have Q1 := hide (Q0.out.below hb Q0.out.lt)
  have R1 := hide (R0.out.below hb R0.out.lt)
  clear hb HCF
  cases sb with
  | true =>
    have HR := hide (show bilA (aqP a) b = (7, pa0) from bilA_same HSB.out)
    have r0 := R1.out.cell 0
    have r1 := R1.out.cell 1
    have r2 := R1.out.cell 2
    have r3 := R1.out.cell 3
    have r4 := R1.out.cell 4
    have r5 := R1.out.cell 5
    simp [aq0] at r0 r1 r2 r3 r4 r5
    have fr := fun j => R1.out.frz j
    go_wp2
    refine bodyPost_ret (v := .tuple #[aqV aq0, .int .i64 7]) (by simp [results, Tryz.results23, go_sem, r0, r1, r2, r3, r4, r5, aqV, aq0]) rfl ?_
    rw [HR.out]
    exact resN_err (below_aq B1.out (by omega) _ _ _ _ _ _)
  | false =>
    by_cases h128 : 128 ≤ a.bn
    · have hz : (128 : Int) ≤ (a.bn : Int) := by omega
      have HR := hide (show bilA (aqP a) b = (13, pa0) from bilA_full HSB.out (by show 128 ≤ a.b.length; have := HBL.out; omega))
      have r0 := R1.out.cell 0
      have r1 := R1.out.cell 1
      have r2 := R1.out.cell 2
      have r3 := R1.out.cell 3
      have r4 := R1.out.cell 4
      have r5 := R1.out.cell 5
      simp [aq0] at r0 r1 r2 r3 r4 r5
      have fr := fun j => R1.out.frz j
      have x3 := X1.out.cell 3
      simp at x3
      go_wp2
      refine bodyPost_ret (v := .tuple #[aqV aq0, .int .i64 13]) (by simp [results, Tryz.results23, go_sem, r0, r1, r2, r3, r4, r5, aqV, aq0]) rfl ?_
      rw [HR.out]
      exact resN_err (below_aq B1.out (by omega) _ _ _ _ _ _)
    have hz : ¬ (128 : Int) ≤ (a.bn : Int) := by omega
    have HR0 := hide (bilA_go (a := aqP a) (b := b) HSB.out (by show ¬ 128 ≤ a.b.length; have := HBL.out; omega))
    have HC1 := hide (HC.out _ B1.out)
    obtain ⟨er, ys, hr⟩ : ∃ er ys, billO a.o b = (er, ys) := ⟨_, _, rfl⟩
    have HRO := hide (show billO (aqP a).o b = (er, ys) from hr)
    rw [hr] at HC1 HMEM HPR
    rw [HRO.out] at HR0
    have x0 := X1.out.cell 0
    have x1 := X1.out.cell 1
    have x2 := X1.out.cell 2
    have x3 := X1.out.cell 3
    have x4 := X1.out.cell 4
    have x5 := X1.out.cell 5
    simp [aq0] at x0 x1 x2 x3 x4 x5
    have q0 := Q1.out.cell 0
    have q1 := Q1.out.cell 1
    have q2 := Q1.out.cell 2
    have q3 := Q1.out.cell 3
    have q4 := Q1.out.cell 4
    simp [aq0] at q0 q1 q2 q3 q4
    clear hr HC
    go_wp2_with fail
    refine HC1.out.mono ?_
    rintro e w2 ⟨A1, n1, c1, rfl, hsl, hb⟩
    have B2 := hide (B1.out.trans (hb.mono B1.out.size))
    have X2 := hide (X1.out.below hb X1.out.lt)
    have Q2 := hide (Q1.out.below hb Q1.out.lt)
    have R2 := hide (R1.out.below hb R1.out.lt)
    have HSL := hide hsl
    clear hsl hb HC1 hz B1 X1 Q1 R1 x0 x1 x2 x3 x4 x5 q0 q1 q2 q3 q4
    by_cases hz : (er != 0) = true
    · have HR := hide (show bilA (aqP a) b = (er, pa0) by
        rw [HR0.out, folA_err (by simpa using hz), if_neg (by simpa using hz)])
      have r0 := R2.out.cell 0
      have r1 := R2.out.cell 1
      have r2 := R2.out.cell 2
      have r3 := R2.out.cell 3
      have r4 := R2.out.cell 4
      have r5 := R2.out.cell 5
      simp [aq0] at r0 r1 r2 r3 r4 r5
      have fr := fun j => R2.out.frz j
      go_wp2
      refine bodyPost_ret (v := .tuple #[aqV aq0, .int .i64 er]) (by simp [results, Tryz.results23, go_sem, r0, r1, r2, r3, r4, r5, aqV, aq0]) rfl ?_
      rw [HR.out]
      exact resN_err (below_aq B2.out (by omega) _ _ _ _ _ _)
    have hz' : (er != 0) = false := by simpa using hz
    have h0 : er = 0 := by simpa using hz
    subst h0
    obtain ⟨x, y, hx, hy, hxv, hyv, hxm, hym⟩ := HPR.out rfl
    have HF := hide (show folA (aqP a) (0, ys) b.ord b.amt = chgA (aqP a) ys (stlA a.f x y b.amt) by
      rw [folA_ok rfl]
      show chgA (aqP a) ys (stlA a.f (getO a.o b.ord).1 (getO ys b.ord).1 b.amt) = _
      rw [hx, hy])
    have HCH := hide (pchg_any a A1 n1 c1 ys b.ord b.amt x y w2 ((HS.out.below B2.out).more B2.out.size) hn HM.out HSL.out (fun u hu => by
      obtain ⟨v, hv, hsm⟩ := HMEM.out u hu
      exact hsm.od (((HS.out.os v hv).below B2.out).more B2.out.size)) hx hy hxv hyv hxm hym)
    rw [HF.out] at HR0
    have HCS := hide (chgA_s (a := aqP a) (ys := ys) (r := stlA a.f x y b.amt))
    have HCE := hide (chgA_err (a := aqP a) (ys := ys) (r := stlA a.f x y b.amt))
    obtain ⟨ef, pf, hf⟩ : ∃ ef pf, chgA (aqP a) ys (stlA a.f x y b.amt) = (ef, pf) := ⟨_, _, rfl⟩
    rw [hf] at HCH HR0 HCS HCE
    unfold aqV at HCH
    clear hx hy hxv hyv hxm hym hz hf HF
    have x0 := X2.out.cell 0
    have x1 := X2.out.cell 1
    have x2 := X2.out.cell 2
    have x3 := X2.out.cell 3
    have x4 := X2.out.cell 4
    have x5 := X2.out.cell 5
    simp [aq0] at x0 x1 x2 x3 x4 x5
    have q2 := Q2.out.cell 2
    have q4 := Q2.out.cell 4
    simp [aq0] at q2 q4
    go_wp2_with fail
    refine HCH.out.mono ?_
    rintro e w3 ⟨z, rfl, hzz, hp, hb⟩
    have B3 := hide (B2.out.trans (hb.mono B2.out.size))
    have X3 := hide (X2.out.below hb X2.out.lt)
    have Q3 := hide (Q2.out.below hb Q2.out.lt)
    have R3 := hide (R2.out.below hb R2.out.lt)
    have HZ := hide hzz
    have HP := hide hp
    clear hzz hp hb HCH x0 x1 x2 x3 x4 x5 q2 q4 B2 X2 Q2 R2
    unfold aqV
    by_cases hz : (ef != 0) = true
    · have HR := hide (show bilA (aqP a) b = (ef, pa0) by
        rw [HR0.out, if_neg (by simpa using hz)]
        have := HCE.out (by simpa using hz)
        exact Prod.ext rfl this)
      have R4 := hide (R3.out.alloc (.cells (aqC z) 27))
      have B4 := hide (B3.out.alloc B3.out.size (.cells (aqC z) 27))
      have r0 := R3.out.cell 0
      have r1 := R3.out.cell 1
      have r2 := R3.out.cell 2
      have r3 := R3.out.cell 3
      have r4 := R3.out.cell 4
      have r5 := R3.out.cell 5
      simp [aq0] at r0 r1 r2 r3 r4 r5
      have fr := fun j => R3.out.frz j
      have hlr := R3.out.lt
      go_wp2
      refine bodyPost_ret (v := .tuple #[aqV aq0, .int .i64 ef]) (by simp [results, Tryz.results23, go_sem, World.cell?_alloc_lt, hlr, r0, r1, r2, r3, r4, r5, aqV, aq0]) rfl ?_
      rw [HR.out]
      exact resN_err ((below_aq B3.out (by omega) _ _ _ _ _ _).alloc (by simpa using B3.out.size) _)
    have hz' : (ef != 0) = false := by simpa using hz
    have h0 : ef = 0 := by simpa using hz
    subst h0
    have HR := hide (show bilA (aqP a) b = (0, { pf with b := a.b ++ [b] }) by rw [HR0.out, if_pos rfl]; rfl)
    obtain ⟨W8, hW8⟩ : ∃ W8, W8 = w3.alloc (.cells (aqC z) 27) := ⟨_, rfl⟩
    have T4 := hide (Box.new w3 27 (aqC z))
    have X4 := hide (X3.out.alloc (.cells (aqC z) 27))
    have Q4 := hide (Q3.out.alloc (.cells (aqC z) 27))
    have R4 := hide (R3.out.alloc (.cells (aqC z) 27))
    have B4 := hide (B3.out.alloc B3.out.size (.cells (aqC z) 27))
    have Z4 := hide ((Below.refl w3.heap.size w3).alloc (Nat.le_refl _) (.cells (aqC z) 27))
    have HZ8 := hide (show W8.heap.size = w3.heap.size + 1 by rw [hW8, World.size_alloc])
    clear hz hz'
    go_wp2_with fail
    rw [← hW8] at T4 X4 Q4 R4 B4 Z4 ⊢
    have HWL3 := hide R3.out.lt
    clear hW8 X3 Q3 R3 B3
    have HY := hide (Below.refl W8.heap.size W8)
    have HYL := hide (show (a.b ++ [b]).length = a.b.length + 1 by simp)
    have HCL := hide (fun W (hW : Below W8.heap.size W8 W) => (show Calls Tryz.prog 76 #[.slice a.bA a.bn a.bc] W fun e w' => ∃ v, e = .returned v ∧ Blo w' W8.heap.size v a.b ∧ Below W.heap.size W w' ∧ Below W8.heap.size W8 w' from
      (bl_clone a.bA a.bn a.bc a.b W ((HS.out.b.below (B4.out.trans (hW.mono B4.out.size))).more (B4.out.trans (hW.mono B4.out.size)).size) (by omega)).mono (by
        rintro e w' ⟨v, rfl, ho, hb⟩
        exact ⟨v, rfl, own_base ho hW.size, hb, hW.trans (hb.mono hW.size)⟩)))
    have HVB := hide (fun W (hW : Below ((W8.alloc (.cells (blC b) 43)).drew).heap.size ((W8.alloc (.cells (blC b) 43)).drew) W) => (show Bls W (W8.heap.size + 1) (some ⟨W8.heap.size, 0, none⟩) 1 1 [b] from bl_sl1 (((Box.new W8 43 (blC b)).drew).below hW (by show _ < (W8.alloc _).heap.size; simp))))
    have x3 := X4.out.cell 3
    have q0 := Q4.out.cell 0
    have q1 := Q4.out.cell 1
    have q2 := Q4.out.cell 2
    have q3 := Q4.out.cell 3
    have q4 := Q4.out.cell 4
    simp at x3 q0 q1 q2 q3 q4
    have xl := X4.out.lt
    have ql := Q4.out.lt
    have xx3 := fun o => (World.cell?_alloc_lt W8 o ⟨w.heap.size, 3, none⟩ (by exact xl)).trans x3
    have hbn : a.bn ≤ 128 := by omega
    have hbb2 : a.b.length ≤ 128 := by have := HBL.out; omega
    go_region_law (first
      | (go_simp; go_at_call 76; refine (HCL.out _ (by first | exact HY.out.drew | exact (HY.out.alloc (Nat.le_refl _) _).drew | exact HY.out.drew.alloc (Nat.le_refl _) _)).mono ?_; rintro e w4 ⟨v, rfl, hown, hb, hb4⟩; have QB := Q4.out.below hb4 Q4.out.lt; have s0 := QB.cell 0; have s1 := QB.cell 1; have s2 := QB.cell 2; have s3 := QB.cell 3; have s4 := QB.cell 4; simp at s0 s1 s2 s3 s4; have HBk := hide hb; have hz4 := hb4.size; have HO4 := hide hown; have HB4 := hide hb4; clear hown hb hb4 QB)
      | (refine step_append_sl rfl (.tmp 46) (.tmp 48) 24 rfl W8.heap.size 43 i0 _ 40 Tryz.underlying24 HI.out.1 HI.out.2.1 HI.out.2.2.1 HI.out.2.2.2 rfl (by decide) blE_len blE_one _ _ _ (by simp [Act.eval]; rfl) (by first | exact HO4.out | exact HO4.out.alloc _) _ 1 1 (by simp [Act.eval]; rfl) (by first | exact bl_sl1 (x := b) (Box.new _ _ _) | exact HVB.out _ HBk.out) (by unfold maxLen; omega) (by omega) (by first | (simp; done) | (simp; omega) | omega) ?_; intro v1 w5 hown hg hat; have H5 := hide hown; have B5 := hide ((by first | exact HB4.out | exact HB4.out.alloc (by omega) _ : Below W8.heap.size W8 _).grown hg (by first | omega | (simp; omega)) (by intro q hq; exact (HO4.out.lt q hq).1)); have t3 := (T4.out.below B5.out T4.out.lt).cell 3; have tf := (T4.out.below B5.out T4.out.lt).frz 3; simp at t3; have ho : Blo w5 W8.heap.size v1 (a.b ++ [b]) := (by unfold Blo; rw [HYL.out, List.flatMap_append]; exact hown); obtain ⟨A2, c2, hv2, _⟩ := Blo_sl ho (by rw [HYL.out]; omega); subst hv2; have HO5 := hide ho; clear hown hg hat ho))
    all_goals
      have hz8 := HZ8.out
      have hlv : (a.b ++ [b]).length = a.bn + 1 := by rw [HYL.out, HBL.out]
      have hB5 := hide (Z4.out.trans (B5.out.mono (by omega)))
      have HZ5 := hide ((HZ.out.below hB5.out).more hB5.out.size)
      have R5 := hide (R4.out.below B5.out R4.out.lt)
      have T5 := hide (T4.out.below B5.out T4.out.lt)
      have B6 := hide (B4.out.trans (B5.out.mono B4.out.size))
      clear t3 tf s0 s1 s2 s3 s4 x3 xx3 q0 q1 q2 q3 q4
      have t0 := T5.out.cell 0
      have t1 := T5.out.cell 1
      have t2 := T5.out.cell 2
      have t3 := T5.out.cell 3
      have t4 := T5.out.cell 4
      have t5 := T5.out.cell 5
      simp [aq0] at t0 t1 t2 t3 t4 t5
      have r0 := R5.out.cell 0
      have r1 := R5.out.cell 1
      have r2 := R5.out.cell 2
      have r3 := R5.out.cell 3
      have r4 := R5.out.cell 4
      have r5 := R5.out.cell 5
      simp [aq0] at r0 r1 r2 r3 r4 r5
      have fr := fun j => R5.out.frz j
      have hrl0 := R4.out.lt
      have hwl3 : w.heap.size + 1 + 1 < w3.heap.size := HWL3.out
      clear hz8
      go_wp2
      refine bodyPost_ret (v := .tuple #[aqV { z with bA := A2, bn := a.b.length + 1, bc := c2, b := a.b ++ [b] }, .int .i64 0]) (by simp [results, Tryz.results23, go_sem, t0, t1, t2, t3, t4, t5, r0, r1, r2, r3, r4, r5, aqV]) rfl ?_
      rw [HR.out]
      have hz8 := HZ8.out
      have HO9 := hide (ownsRow_setCell_below (a := ⟨w3.heap.size, 3, none⟩) HO5.out (by show w3.heap.size < _; omega) (.slice A2 (a.b.length + 1) c2))
      have hZ9 : Below w3.heap.size w3 (w5.setCell ⟨w3.heap.size, 3, none⟩ (.slice A2 (a.b.length + 1) c2)) := hB5.out.setCell (Nat.le_refl _) _
      have hZZ := (HZ.out.below hZ9).more hZ9.size
      have R9 := R5.out.far (p := ⟨w3.heap.size, 3, none⟩) (by show _ ≠ w3.heap.size; omega) (.slice A2 (a.b.length + 1) c2)
      have hB := below_aq (B6.out.setCell (p := ⟨w3.heap.size, 3, none⟩) (by show w.heap.size ≤ w3.heap.size; omega) (.slice A2 (a.b.length + 1) c2)) (show w.heap.size ≤ w.heap.size + 1 + 1 by omega) (.int .i64 z.yr) (.slice z.fA z.fn z.fc) (.slice z.oA z.on z.oc) (.slice A2 (a.b.length + 1) c2) (.slice z.sA z.sn z.sc) (.int .i64 z.nx)
      have hP := HP.out
      have h1 := AqS.put (w0 := w) hZZ R9 (fun u hu => HS.out.ss u (HCS.out u (by have e := congrArg Pa.s hP; rw [← e]; exact hu))) (.int .i64 z.yr) (.slice z.fA z.fn z.fc) (.slice z.oA z.on z.oc) (.slice A2 (a.b.length + 1) c2) (.slice z.sA z.sn z.sc) (.int .i64 z.nx) hB
      have hrl : w.heap.size + 1 + 1 < W8.heap.size := by omega
      have ho9 := (ownsRow_setCell_below (a := ⟨w.heap.size + 1 + 1, 5, none⟩) (ownsRow_setCell_below (a := ⟨w.heap.size + 1 + 1, 4, none⟩) (ownsRow_setCell_below (a := ⟨w.heap.size + 1 + 1, 3, none⟩) (ownsRow_setCell_below (a := ⟨w.heap.size + 1 + 1, 2, none⟩) (ownsRow_setCell_below (a := ⟨w.heap.size + 1 + 1, 1, none⟩) (ownsRow_setCell_below (a := ⟨w.heap.size + 1 + 1, 0, none⟩) HO9.out hrl (.int .i64 z.yr)) hrl (.slice z.fA z.fn z.fc)) hrl (.slice z.oA z.on z.oc)) hrl (.slice A2 (a.b.length + 1) c2)) hrl (.slice z.sA z.sn z.sc)) hrl (.int .i64 z.nx))
      obtain ⟨A3, c3, hv3, hsl3⟩ := Blo_sl ho9 (by rw [HYL.out]; omega)
      rw [HYL.out] at hv3 hsl3
      injection hv3 with e1 e2 e3
      subst e1 e3
      have hnew : ∀ g, g < w.heap.size → NotAt A2 (a.b.length + 1) g := fun g hg b' off' hA' _ hbg => by
        have h9 := HO5.out.lt b' (by rw [hA']; rfl)
        omega
      refine ⟨_, rfl, ⟨h1.f, h1.o, h1.os, hsl3, h1.s, h1.ss⟩, ?_, hB, hnew⟩
      have e1 : ({ aqP z with b := a.b ++ [b] } : Pa) = { pf with b := a.b ++ [b] } := by rw [hP]
      exact e1
theorem pbil_any (a : Aq) (b : Bl) (w : World) (hs : AqS w w.heap.size a) (hn : a.fn ≤ 1000) (hm : ∀ f ∈ a.f, FuM f) (hv : VldO a.o) :
    Calls Tryz.prog 23 #[aqV a, blV b] w (ResA w (bilA (aqP a) b)) := (pbilN_any a b w hs hn hm hv).mono fun _ _ h => h.a
end Go.Proofs.YtbhndfphegflhaaGreat
