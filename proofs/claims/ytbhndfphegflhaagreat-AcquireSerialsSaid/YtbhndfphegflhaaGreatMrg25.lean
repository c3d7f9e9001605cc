/- Texts laid together by merge.py: AqM. -/
import Derived.Test.YtbhndfphegflhaaGreatMrg19
import Derived.Test.YtbhndfphegflhaaGreatMrg23
import Derived.Test.YtbhndfphegflhaaGreatMrg13
import Derived.BigRegion
set_option linter.unusedSimpArgs false
set_option linter.unusedVariables false
/- Walks: settle of the program. Printed by gen_aq_m.py. -/
namespace Go.Proofs.YtbhndfphegflhaaGreat
open Go.RowKit Go.Maps

/-! ### the plain part -/
theorem stlL_step {de ds : Int → Int} {l : List Sh} {k : Nat} {s : Sh} {fs : List Fu} (h : l[k]? = some s) : stlL de ds (l.drop k) fs =
    if (chR (stlF (de s.fund) (ds s.fund)) fs s.fund).1 = 0 then stlL de ds (l.drop (k + 1)) (chR (stlF (de s.fund) (ds s.fund)) fs s.fund).2 else ((chR (stlF (de s.fund) (ds s.fund)) fs s.fund).1, []) := by
  obtain ⟨hk, rfl⟩ := List.getElem?_eq_some_iff.1 h
  rw [List.drop_eq_getElem_cons hk, stlL]
theorem stlL_end {de ds : Int → Int} {l : List Sh} {k : Nat} {fs : List Fu} (h : l.length ≤ k) : stlL de ds (l.drop k) fs = (0, fs) := by
  rw [List.drop_of_length_le h, stlL]
/-- The numbers of a fund, as far as sums go. -/
structure FuB (t : Int) (x : Fu) : Prop where
  b : 0 ≤ x.budget ∧ x.budget ≤ 100000000
  e : -t ≤ x.enc ∧ x.enc ≤ t
  s : -t ≤ x.spent ∧ x.spent ≤ t
theorem FuM.bd {x : Fu} (h : FuM x) : FuB 100000000 x := ⟨h.b, ⟨by have := h.e; omega, h.e.2⟩, ⟨by have := h.s; omega, h.s.2⟩⟩
theorem FuB.le {t u : Int} {x : Fu} (h : FuB t x) (htu : t ≤ u) : FuB u x := ⟨h.b, ⟨by have := h.e; omega, by have := h.e; omega⟩, ⟨by have := h.s; omega, by have := h.s; omega⟩⟩
theorem own_below {w w' : World} {B base : Nat} {t : TypeId} {k n : Nat} {v : Value} {ys : List Value} (h : w.ownsRow base t k v n ys) (hb : Below B w w') (hg : ∀ g, v.ownBlock = some g → g < B) : w'.ownsRow base t k v n ys := by
  rcases own_box h with ⟨hv, h0⟩ | ⟨g, cap, cur, rfl, hbg, hB, hnc, hcm, hcs, htk⟩
  · exact ⟨h.1, .inl ⟨hv, h0⟩⟩
  · exact (hB.below hb (hg g rfl)).own hbg hnc hcm hcs htk

theorem se1_any (f : Fu) (g : Nat) (s : Sh) (w : World) (hb : Box w g 86 (shC s)) : Calls Tryz.prog 170 #[fuV f, .pointer (some ⟨g, 0, none⟩)] w fun e w' => e = .returned (.bool (f.id == s.fund)) ∧ Below w.heap.size w w' := by
  have B0 := hide ((Below.refl w.heap.size w).alloc (Nat.le_refl _) (.cells (fuC f) 57))
  have hb2 := hb.alloc (.cells (fuC f) 57)
  have q0 := hb2.cell 0
  simp at q0
  clear hb hb2
  unfold fuV
  go_enter Tryz.func170, Tryz.ntmps170
  go_wp2
  go_ret
  exact ⟨rfl, B0.out⟩
theorem e_se1 : ∀ args w, (callFunc 170 args).run Tryz.prog w = .ok (.enter 170 args) w := enters_of Tryz.func170 (by kernel_rfl) rfl

set_option maxRecDepth 100000 in
set_option maxHeartbeats 16000000 in
theorem psettle_any (a : Aq) (x y : Od) (am : Int) (w : World) (hs : AqS w w.heap.size a) (hn : a.fn ≤ 1000) (hm : ∀ f ∈ a.f, FuM f) (hx : OdS w w.heap.size x) (hy : OdS w w.heap.size y) (hxv : sharesV x.sh = true) (hyv : sharesV y.sh = true) (hxm : OdM x) (hym : OdM y) :
    Calls Tryz.prog 130 #[aqV a, odV x, odV y, .int .i64 am] w (ResA w (withF (aqP a) (stlA a.f x y am))) := by
  have B0 := hide (((((Below.refl w.heap.size w).alloc (Nat.le_refl _) (.cells (aqC a) 27)).alloc (by simp) (.cells (odC x) 35)).alloc (by simp; omega) (.cells (odC y) 35)).alloc (by simp; omega) (.cells (aqC aq0) 27))
  have X0 := hide ((((Box.new w 27 (aqC a)).alloc (.cells (odC x) 35)).alloc (.cells (odC y) 35)).alloc (.cells (aqC aq0) 27))
  have U0 := hide (((Box.new (w.alloc (.cells (aqC a) 27)) 35 (odC x)).alloc (.cells (odC y) 35)).alloc (.cells (aqC aq0) 27))
  have V0 := hide ((Box.new ((w.alloc (.cells (aqC a) 27)).alloc (.cells (odC x) 35)) 35 (odC y)).alloc (.cells (aqC aq0) 27))
  have R0 := hide (Box.new (((w.alloc (.cells (aqC a) 27)).alloc (.cells (odC x) 35)).alloc (.cells (odC y) 35)) 27 (aqC aq0))
  simp only [World.size_alloc] at U0 V0 R0
  have HS := hide hs
  have HM := hide hm
  have HRX := hide (fun W => oresv_any x W (.inl hxm))
  have HRY := hide (fun W => oresv_any y W (.inl hym))
  have HPX := hide (fun t W (hW : Below w.heap.size w W) => aparts_any x t W ((hx.below hW).more hW.size) hxv)
  have HPY := hide (fun t W (hW : Below w.heap.size w W) => aparts_any y t W ((hy.below hW).more hW.size) hyv)
  have HYS := hide hy
  have HXV := hide hxv
  have HYV := hide hyv
  have hylen := hy.len
  have hybig := hy.big
  have HYL := hide hylen
  obtain ⟨rx, hrx⟩ : ∃ r, resvO x = r := ⟨_, rfl⟩
  obtain ⟨ry, hry⟩ : ∃ r, resvO y = r := ⟨_, rfl⟩
  have HST := hide (show stlA a.f x y am = stlL (fun id => partO y ry id - partO x rx id) (fun id => partO y am id) y.sh a.f by unfold stlA; rw [hrx, hry])
  rw [hrx] at HRX
  rw [hry] at HRY
  have HPX2 := hide (fun W hW => HPX.out rx W hW)
  have HPY2 := hide (fun W hW => HPY.out ry W hW)
  have HPY3 := hide (fun W hW => HPY.out am W hW)
  clear hrx hry hs hm hx hy hxv hyv hxm hym HPX HPY hylen
  unfold odV at HRX HRY HPX2 HPY2 HPY3 ⊢
  unfold aqV
  go_enter Tryz.func130, Tryz.ntmps130
  go_wp2_with fail
  obtain ⟨W2, hW2⟩ : ∃ W2, W2 = (((w.alloc (.cells (aqC a) 27)).alloc (.cells (odC x) 35)).alloc (.cells (odC y) 35)).alloc (.cells #[.int .i64 0, .slice none 0 0, .slice none 0 0, .slice none 0 0, .slice none 0 0, .int .i64 0] 27) := ⟨_, rfl⟩
  have B0 := hide B0.out
  change Hid (Below w.heap.size w ((((w.alloc (.cells (aqC a) 27)).alloc (.cells (odC x) 35)).alloc (.cells (odC y) 35)).alloc (.cells #[.int .i64 0, .slice none 0 0, .slice none 0 0, .slice none 0 0, .slice none 0 0, .int .i64 0] 27))) at B0
  change Hid (Box ((((w.alloc (.cells (aqC a) 27)).alloc (.cells (odC x) 35)).alloc (.cells (odC y) 35)).alloc (.cells #[.int .i64 0, .slice none 0 0, .slice none 0 0, .slice none 0 0, .slice none 0 0, .int .i64 0] 27)) _ _ _) at X0
  change Hid (Box ((((w.alloc (.cells (aqC a) 27)).alloc (.cells (odC x) 35)).alloc (.cells (odC y) 35)).alloc (.cells #[.int .i64 0, .slice none 0 0, .slice none 0 0, .slice none 0 0, .slice none 0 0, .int .i64 0] 27)) _ _ _) at U0
  change Hid (Box ((((w.alloc (.cells (aqC a) 27)).alloc (.cells (odC x) 35)).alloc (.cells (odC y) 35)).alloc (.cells #[.int .i64 0, .slice none 0 0, .slice none 0 0, .slice none 0 0, .slice none 0 0, .int .i64 0] 27)) _ _ _) at V0
  change Hid (Box ((((w.alloc (.cells (aqC a) 27)).alloc (.cells (odC x) 35)).alloc (.cells (odC y) 35)).alloc (.cells #[.int .i64 0, .slice none 0 0, .slice none 0 0, .slice none 0 0, .slice none 0 0, .int .i64 0] 27)) _ _ _) at R0
  rw [← hW2] at B0 X0 U0 V0 R0 ⊢
  clear hW2
  have u0 := U0.out.cell 0
  have u1 := U0.out.cell 1
  have u2 := U0.out.cell 2
  have u3 := U0.out.cell 3
  have u4 := U0.out.cell 4
  have u5 := U0.out.cell 5
  have u6 := U0.out.cell 6
  have u7 := U0.out.cell 7
  have u8 := U0.out.cell 8
  have u9 := U0.out.cell 9
  have ult := U0.out.lt
  have v0 := V0.out.cell 0
  have v1 := V0.out.cell 1
  have v2 := V0.out.cell 2
  have v3 := V0.out.cell 3
  have v4 := V0.out.cell 4
  have v5 := V0.out.cell 5
  have v6 := V0.out.cell 6
  have v7 := V0.out.cell 7
  have v8 := V0.out.cell 8
  have v9 := V0.out.cell 9
  have vlt := V0.out.lt
  simp at u0 u1 u2 u3 u4 u5 u6 u7 u8 u9 v0 v1 v2 v3 v4 v5 v6 v7 v8 v9
  have H0 := hide (Below.refl W2.heap.size W2).drew
  have HKS := hide (fun W (h : Hid (Below W2.heap.size W2 W)) => (And.intro h (And.intro ((h.out.cell (p := ⟨w.heap.size + 1, 0, none⟩) ult).trans u0) (And.intro ((h.out.cell (p := ⟨w.heap.size + 1, 1, none⟩) ult).trans u1) (And.intro ((h.out.cell (p := ⟨w.heap.size + 1, 2, none⟩) ult).trans u2) (And.intro ((h.out.cell (p := ⟨w.heap.size + 1, 3, none⟩) ult).trans u3) (And.intro ((h.out.cell (p := ⟨w.heap.size + 1, 4, none⟩) ult).trans u4) (And.intro ((h.out.cell (p := ⟨w.heap.size + 1, 5, none⟩) ult).trans u5) (And.intro ((h.out.cell (p := ⟨w.heap.size + 1, 6, none⟩) ult).trans u6) (And.intro ((h.out.cell (p := ⟨w.heap.size + 1, 7, none⟩) ult).trans u7) (And.intro ((h.out.cell (p := ⟨w.heap.size + 1, 8, none⟩) ult).trans u8) (And.intro ((h.out.cell (p := ⟨w.heap.size + 1, 9, none⟩) ult).trans u9) (And.intro ((h.out.cell (p := ⟨w.heap.size + 1 + 1, 0, none⟩) vlt).trans v0) (And.intro ((h.out.cell (p := ⟨w.heap.size + 1 + 1, 1, none⟩) vlt).trans v1) (And.intro ((h.out.cell (p := ⟨w.heap.size + 1 + 1, 2, none⟩) vlt).trans v2) (And.intro ((h.out.cell (p := ⟨w.heap.size + 1 + 1, 3, none⟩) vlt).trans v3) (And.intro ((h.out.cell (p := ⟨w.heap.size + 1 + 1, 4, none⟩) vlt).trans v4) (And.intro ((h.out.cell (p := ⟨w.heap.size + 1 + 1, 5, none⟩) vlt).trans v5) (And.intro ((h.out.cell (p := ⟨w.heap.size + 1 + 1, 6, none⟩) vlt).trans v6) (And.intro ((h.out.cell (p := ⟨w.heap.size + 1 + 1, 7, none⟩) vlt).trans v7) (And.intro ((h.out.cell (p := ⟨w.heap.size + 1 + 1, 8, none⟩) vlt).trans v8) ((h.out.cell (p := ⟨w.heap.size + 1 + 1, 9, none⟩) vlt).trans v9))))))))))))))))))))))
  have HA1 := hide (fun W (h : Hid (Below W2.heap.size W2 W)) => HPX2.out W (B0.out.trans (h.out.mono B0.out.size)))
  have HA2 := hide (fun W (h : Hid (Below W2.heap.size W2 W)) => HPY2.out W (B0.out.trans (h.out.mono B0.out.size)))
  have HA3 := hide (fun W (h : Hid (Below W2.heap.size W2 W)) => HPY3.out W (B0.out.trans (h.out.mono B0.out.size)))
  go_region_held3 (fun w' => Hid (Below W2.heap.size W2 w') ∧ w'.cell? ⟨w.heap.size + 1, 0, none⟩ = some (.int .i64 x.id) ∧ w'.cell? ⟨w.heap.size + 1, 1, none⟩ = some (.int .i64 x.rcd) ∧ w'.cell? ⟨w.heap.size + 1, 2, none⟩ = some (.int .i64 x.ven) ∧ w'.cell? ⟨w.heap.size + 1, 3, none⟩ = some (.int .i64 x.cop) ∧ w'.cell? ⟨w.heap.size + 1, 4, none⟩ = some (.int .i64 x.pri) ∧ w'.cell? ⟨w.heap.size + 1, 5, none⟩ = some (.int .i64 x.rcv) ∧ w'.cell? ⟨w.heap.size + 1, 6, none⟩ = some (.int .i64 x.bil) ∧ w'.cell? ⟨w.heap.size + 1, 7, none⟩ = some (.int .i64 x.paid) ∧ w'.cell? ⟨w.heap.size + 1, 8, none⟩ = some (.int .i64 x.st) ∧ w'.cell? ⟨w.heap.size + 1, 9, none⟩ = some (.slice x.shA x.shn x.shc) ∧ w'.cell? ⟨w.heap.size + 1 + 1, 0, none⟩ = some (.int .i64 y.id) ∧ w'.cell? ⟨w.heap.size + 1 + 1, 1, none⟩ = some (.int .i64 y.rcd) ∧ w'.cell? ⟨w.heap.size + 1 + 1, 2, none⟩ = some (.int .i64 y.ven) ∧ w'.cell? ⟨w.heap.size + 1 + 1, 3, none⟩ = some (.int .i64 y.cop) ∧ w'.cell? ⟨w.heap.size + 1 + 1, 4, none⟩ = some (.int .i64 y.pri) ∧ w'.cell? ⟨w.heap.size + 1 + 1, 5, none⟩ = some (.int .i64 y.rcv) ∧ w'.cell? ⟨w.heap.size + 1 + 1, 6, none⟩ = some (.int .i64 y.bil) ∧ w'.cell? ⟨w.heap.size + 1 + 1, 7, none⟩ = some (.int .i64 y.paid) ∧ w'.cell? ⟨w.heap.size + 1 + 1, 8, none⟩ = some (.int .i64 y.st) ∧ w'.cell? ⟨w.heap.size + 1 + 1, 9, none⟩ = some (.slice y.shA y.shn y.shc))
    (first | with_reducible exact HKS.out _ H0 | with_reducible exact HKS.out _ hS1 | with_reducible exact HKS.out _ hS2 | with_reducible exact HKS.out _ hS3 | with_reducible exact HKS.out _ hS4 | with_reducible exact HKS.out _ hS5)
    (first
      | (go_at_call 29; first
          | (with_reducible refine (HRX.out _).mono ?_; rintro e w3 ⟨rfl, hb3⟩; have hS1 := hbel_call H0 hb3)
          | (with_reducible refine (HRY.out _).mono ?_; rintro e w5 ⟨rfl, hb5⟩; have hS3 := hbel_call hS2 hb5; have HB5 := hide hb5))
      | (go_at_call 62; first
          | (with_reducible refine (HA1.out _ hS1).mono ?_; rintro e w4 ⟨g1, rfl, hg1, hM, hb4⟩; have hS2 := hbel_call hS1 hb4; have HM1 := hide hM)
          | (with_reducible refine (HA2.out _ hS3).mono ?_; rintro e w6 ⟨g2, rfl, hg2, hM, hb6⟩; have hS4 := hbel_call hS3 hb6; have HM2 := hide hM; have HB6 := hide hb6)
          | (with_reducible refine (HA3.out _ hS4).mono ?_; rintro e w7 ⟨g3, rfl, hg3, hM, hb7⟩; have hS5 := hbel_call hS4 hb7; have HM3 := hide hM; have HB7 := hide hb7)))
  have B7 := hide (B0.out.trans (hS5.out.mono B0.out.size))
  have X7 := hide (X0.out.below hS5.out X0.out.lt)
  have V7 := hide (V0.out.below hS5.out V0.out.lt)
  have R7 := hide (R0.out.below hS5.out R0.out.lt)
  have HB67 := hide (HB6.out.trans (HB7.out.mono (HB6.out.size)))
  have HG1 := HM1.out.lt
  have HG2 := HM2.out.lt
  have HG3 := HM3.out.lt
  have hsz5 := HB5.out.size
  have hsz6 := HB6.out.size
  have hsz7 := HB7.out.size
  have hwz := B0.out.size
  have M1 := hide (((HM1.out.below HB5.out HG1).below HB6.out (Nat.lt_of_lt_of_le HG1 hsz5)).below HB7.out (Nat.lt_of_lt_of_le HG1 (Nat.le_trans hsz5 hsz6)))
  have M2 := hide (HM2.out.below HB7.out HG2)
  have M3 := HM3
  have g1l : g1 < w7.heap.size := by omega
  have g2l : g2 < w7.heap.size := by omega
  have g3l : g3 < w7.heap.size := by omega
  have x7l := X7.out.lt
  have v7l := V7.out.lt
  have r7l := R7.out.lt
  clear HKS H0 HA1 HA2 HA3 HRX HRY HPX2 HPY2 HPY3 HB5 HB6 HB7 HB67 HM1 HM2 HM3 hS1 hS2 hS3 hS4 hS5 hb3 hb4 hb5 hb6 hb7 hg1 hg2 hg3 hM HG1 HG2 HG3 hsz5 hsz6 hsz7 hwz X0 U0 V0 R0 B0 u0 u1 u2 u3 u4 u5 u6 u7 u8 u9 v0 v1 v2 v3 v4 v5 v6 v7 v8 v9 ult vlt
  have x0 := X7.out.cell 0
  have x1 := X7.out.cell 1
  have x2 := X7.out.cell 2
  have x3 := X7.out.cell 3
  have x4 := X7.out.cell 4
  have x5 := X7.out.cell 5
  simp at x0 x1 x2 x3 x4 x5
  have T8 := hide (Box.new w7 27 (aqC a))
  have B8 := hide (B7.out.alloc B7.out.size (.cells (aqC a) 27))
  have HCL := hide (clone_any a.fA a.fn a.fc a.f (w7.alloc (.cells (aqC a) 27)) ((HS.out.f.below B8.out).more B8.out.size) hn)
  go_wp2_with fail
  refine HCL.out.mono ?_
  rintro e w9 ⟨v, rfl, ho, hb⟩
  obtain ⟨A1, c1, hv, hsl⟩ := Fo_sl ho (by have := HS.out.f.len; omega)
  have hfl : a.f.length = a.fn := HS.out.f.len
  rw [hfl] at hv
  subst hv
  have hz9 := hb.size
  rw [World.size_alloc] at hz9 hb ho
  have T9 := hide (T8.out.below hb (Nat.lt_succ_self _))
  clear HCL x0 x1 x2 x3 x4 x5
  have tf := T9.out.frz 1
  have t1 := T9.out.cell 1
  have V9 := hide ((V7.out.alloc (.cells (aqC a) 27)).below hb (by omega))
  have v9 := V9.out.cell 9
  simp at t1 v9
  have HO := hide ho
  have W9B := hide (B8.out.trans (hb.mono (by have := B7.out.size; omega)))
  have R9 := hide ((R7.out.alloc (.cells (aqC a) 27)).below hb (by omega))
  have N1 := hide ((M1.out.alloc (.cells (aqC a) 27)).below hb (by omega))
  have N2 := hide ((M2.out.alloc (.cells (aqC a) 27)).below hb (by omega))
  have N3 := hide ((M3.out.alloc (.cells (aqC a) 27)).below hb (by omega))
  clear ho hb M1 M2 M3 B8 T8 hsl
  go_wp2
  obtain ⟨W, hW⟩ : ∃ W, W = w9.setCell ⟨w7.heap.size, 1, none⟩ (.slice A1 a.fn c1) := ⟨_, rfl⟩
  have T10 := hide (T9.out.set_ 1 (.slice A1 a.fn c1))
  have V10 := hide (V9.out.far (p := ⟨w7.heap.size, 1, none⟩) (by show _ ≠ w7.heap.size; omega) (.slice A1 a.fn c1))
  have R10 := hide (R9.out.far (p := ⟨w7.heap.size, 1, none⟩) (by show _ ≠ w7.heap.size; omega) (.slice A1 a.fn c1))
  have N1' := hide (N1.out.setCell (p := ⟨w7.heap.size, 1, none⟩) (by show _ ≠ w7.heap.size; omega) (.slice A1 a.fn c1))
  have N2' := hide (N2.out.setCell (p := ⟨w7.heap.size, 1, none⟩) (by show _ ≠ w7.heap.size; omega) (.slice A1 a.fn c1))
  have N3' := hide (N3.out.setCell (p := ⟨w7.heap.size, 1, none⟩) (by show _ ≠ w7.heap.size; omega) (.slice A1 a.fn c1))
  have HO' := hide (ownsRow_setCell_below (a := ⟨w7.heap.size, 1, none⟩) HO.out (Nat.lt_succ_self _) (.slice A1 a.fn c1))
  have B10 := hide (W9B.out.setCell (p := ⟨w7.heap.size, 1, none⟩) (by have := B7.out.size; exact this) (.slice A1 a.fn c1))
  have hz10 : w7.heap.size + 1 ≤ (w9.setCell ⟨w7.heap.size, 1, none⟩ (.slice A1 a.fn c1)).heap.size := by simpa using hz9
  rw [← hW] at T10 V10 R10 N1' N2' N3' HO' B10 hz10 ⊢
  replace T10 : Hid (Box W w7.heap.size 27 (aqC { a with fA := A1, fc := c1 })) := T10
  clear hW T9 V9 R9 N1 N2 N3 HO W9B tf t1 v9 hz9 X7 V7 R7 B7
  generalize (Value.agg #[.int .i64 x.id, .int .i64 x.rcd, .int .i64 x.ven, .int .i64 x.cop, .int .i64 x.pri, .int .i64 x.rcv, .int .i64 x.bil, .int .i64 x.paid, .int .i64 x.st, .slice x.shA x.shn x.shc]) = vx
  generalize (Value.agg #[.int .i64 y.id, .int .i64 y.rcd, .int .i64 y.ven, .int .i64 y.cop, .int .i64 y.pri, .int .i64 y.rcv, .int .i64 y.bil, .int .i64 y.paid, .int .i64 y.st, .slice y.shA y.shn y.shc]) = vy
  generalize (Value.agg #[.int .i64 a.yr, .slice a.fA a.fn a.fc, .slice a.oA a.on a.oc, .slice a.bA a.bn a.bc, .slice a.sA a.sn a.sc, .int .i64 a.nx]) = va
  go_loopw [37] (fun s37 wr => ∃ (k : Nat) (ys : List Fu), k ≤ y.shn ∧ s37 = .int .i64 k ∧ stlA a.f x y am = stlL (fun id => partO y ry id - partO x rx id) (fun id => partO y am id) (y.sh.drop k) ys ∧ ys.length = a.fn ∧ (∀ f ∈ ys, FuB (100000000 + 1000000000000 * k) f) ∧ Below (w7.heap.size + 1) W wr ∧ Fo wr (w7.heap.size + 1) (.slice A1 a.fn c1) ys) (fun s37 _ => y.shn - (intOf s37).toNat)
  case atStart => exact ⟨0, a.f, Nat.zero_le _, rfl, HST.out, HS.out.f.len, fun f hf => (HM.out f hf).bd, Below.refl _ _, HO'.out⟩
  case round =>
    obtain ⟨k, ys, hk, rfl, ha, hyl, hbd, hb, ho⟩ := hrel
    have HAK := hide ha
    have HYB := hide hbd
    have HB := hide hb
    have HO := hide ho
    have hzr : w7.heap.size + 1 ≤ wr.heap.size := Nat.le_trans hz10 hb.size
    have T1 := hide (T10.out.below hb (Nat.lt_succ_self _))
    have V1 := hide (V10.out.below hb (by omega))
    have R1 := hide (R10.out.below hb (by omega))
    have BW := hide (B10.out.trans (hb.mono (by omega)))
    have K1 := hide (N1'.out.below hb (by omega))
    have K2 := hide (N2'.out.below hb (by omega))
    have K3 := hide (N3'.out.below hb (by omega))
    clear ha hbd hb ho
    by_cases hlt : k < y.shn
    · have hkz : (k : Int) < (y.shn : Int) := by omega
      obtain ⟨b, off, s, hA, hbB, hsx, c0, c1'⟩ := Shs_at (HYS.out.below BW.out) hlt
      have HSX := hide hsx
      have HA := hide hA
      rw [hA]
      have q1 := T1.out.cell 1
      simp at q1
      have hSl : ∃ A2 c2, (Value.slice A1 a.fn c1) = .slice A2 ys.length c2 ∧ Fs wr wr.heap.size A2 ys.length c2 ys := Fo_sl HO.out (by omega)
      obtain ⟨A2, c2, hv2, hsl2⟩ := hSl
      injection hv2 with e1 e2 e3
      subst e1 e3
      rw [hyl] at hsl2
      have HSL := hide hsl2
      have HIX := hide (indexFunc_any 170 #[.pointer (some ⟨wr.heap.size, 0, none⟩)] (fun f => f.id == s.fund) e_se1 A1 a.fn c1 ys (wr.alloc (.cells (shC s) 86)) (Sl.more (B' := (wr.alloc (.cells (shC s) 86)).heap.size) (HSL.out.alloc (Nat.le_refl _) _) (by simp)) (fun W' f _ hW' => se1_any f wr.heap.size s W' ((Box.new wr 86 (shC s)).below hW' (by simp))))
      have hat : ix (fun f : Fu => f.id == s.fund) ys = atF ys s.fund := rfl
      rw [hat] at HIX
      clear hsx hA hsl2 e2 hat
      have a1 := (World.cell?_alloc_lt wr (.cells (shC s) 86) ⟨w7.heap.size, 1, none⟩ (by show w7.heap.size < _; omega)).trans q1
      go_wp2_with fail
      refine HIX.out.mono ?_
      rintro e w2 ⟨rfl, hb⟩
      have hz2 := hb.size
      rw [World.size_alloc] at hz2 hb
      have S2 := hide ((Box.new wr 86 (shC s)).below hb (Nat.lt_succ_self _))
      have T2 := hide ((T1.out.alloc (.cells (shC s) 86)).below hb (by omega))
      have V2 := hide ((V1.out.alloc (.cells (shC s) 86)).below hb (by omega))
      have R2 := hide ((R1.out.alloc (.cells (shC s) 86)).below hb (by omega))
      have L1 := hide ((K1.out.alloc (.cells (shC s) 86)).below hb (by omega))
      have L2 := hide ((K2.out.alloc (.cells (shC s) 86)).below hb (by omega))
      have L3 := hide ((K3.out.alloc (.cells (shC s) 86)).below hb (by omega))
      have B2 := hide ((BW.out.alloc BW.out.size (.cells (shC s) 86)).trans (hb.mono (by have := BW.out.size; omega)))
      have HB2 := hide ((HB.out.alloc hzr (.cells (shC s) 86)).trans (hb.mono (by omega)))
      have HO2 := hide (own_below (HO.out.alloc (.cells (shC s) 86)) hb (fun g hg => Nat.lt_succ_of_lt (HO.out.lt g hg).2))
      clear hb HIX a1 q1 c0 c1' K1 K2 K3 T1 V1 R1 BW HB HO HSL
      rcases getF_at (xs := ys) (id := s.fund) with ⟨h1, h2⟩ | ⟨i, f, h1, h2, h3, h4⟩
      · have HR := hide (show withF (aqP a) (stlA a.f x y am) = (9, pa0) by
          rw [HAK.out, stlL_step HSX.out, chR_none h1]
          rfl)
        rw [h1]
        have r0 := R2.out.cell 0
        have r1 := R2.out.cell 1
        have r2 := R2.out.cell 2
        have r3 := R2.out.cell 3
        have r4 := R2.out.cell 4
        have r5 := R2.out.cell 5
        have fr := fun j => R2.out.frz j
        simp [aq0] at r0 r1 r2 r3 r4 r5
        clear h1 h2
        go_wp2
        refine bodyPost_ret (v := .tuple #[aqV aq0, .int .i64 9]) (by simp [results, Tryz.results130, go_sem, r0, r1, r2, r3, r4, r5, aqV, aq0]) rfl ?_
        rw [HR.out]
        exact resA_err (below_aq B2.out (by omega) _ _ _ _ _ _)
      · have hi := (List.getElem?_eq_some_iff.1 h2).1
        obtain ⟨g, hrow⟩ : ∃ g, A1 = some ⟨g, 0, none⟩ ∧ w7.heap.size + 1 ≤ g := by
          rcases own_box HO2.out with ⟨_, h0⟩ | ⟨g, cap, cur, hv, hbg, _⟩
          · omega
          · injection hv with e1; exact ⟨g, e1, hbg⟩
        obtain ⟨rfl, hgb⟩ := hrow
        have hrow := HO2.out
        rw [hyl] at hrow
        have HRW := hide hrow
        obtain ⟨f0, f1, f2, f3, f4⟩ := fu_cells (own_cell fuE_len hrow hyl h2)
        have hid := shsOk_ids _ _ (sharesV_ok HYV.out) s (List.mem_of_getElem? HSX.out)
        have HWF := hide (wf64 (show I64 s.fund by unfold I64; omega))
        have by1 := partO_bd HYV.out ry s.fund
        have bx1 := partO_bd HXV.out rx s.fund
        have ba1 := partO_bd HYV.out am s.fund
        have hfb := HYB.out f (List.mem_of_getElem? h2)
        have hcr := hide (chR_ok (F := stlF (partO y ry s.fund - partO x rx s.fund) (partO y am s.fund)) h1 h4)
        have hcr2 := hide (chR_err (F := stlF (partO y ry s.fund - partO x rx s.fund) (partO y am s.fund)) h1 h4)
        have HST2 := hide (stlL_step (de := fun id => partO y ry id - partO x rx id) (ds := fun id => partO y am id) (fs := ys) HSX.out)
        have HLK := hide (fun W (h : Hid (Below w2.heap.size w2 W)) => And.intro ((L1.out.below h.out L1.out.lt).lookup (t := 89) (e := 3) Tryz.underlying3 Tryz.underlying89 (zero_int' _) HWF.out) (And.intro ((L2.out.below h.out L2.out.lt).lookup (t := 89) (e := 3) Tryz.underlying3 Tryz.underlying89 (zero_int' _) HWF.out) ((L3.out.below h.out L3.out.lt).lookup (t := 89) (e := 3) Tryz.underlying3 Tryz.underlying89 (zero_int' _) HWF.out)))
        obtain ⟨px, hpx⟩ : ∃ px, partO x rx s.fund = px := ⟨_, rfl⟩
        obtain ⟨py, hpy⟩ : ∃ py, partO y ry s.fund = py := ⟨_, rfl⟩
        obtain ⟨pa, hpa⟩ : ∃ pa, partO y am s.fund = pa := ⟨_, rfl⟩
        simp only [hpx] at HLK bx1 hcr hcr2 HST2
        simp only [hpy] at HLK by1 hcr hcr2 HST2
        simp only [hpa] at HLK ba1 hcr hcr2 HST2
        have d1 : IntKind.i64.wrap (py - px) = py - px := by rw [IntKind.wrap_i64]; omega
        have q1 := T2.out.cell 1
        have s0 := S2.out.cell 0
        have hkb : (k : Int) ≤ 4 := by have := (sharesV_W HYV.out).1.2; have := HYL.out; omega
        obtain ⟨fb1, fb2, fb3⟩ := hfb
        have d2 : IntKind.i64.wrap (f.enc + (py - px)) = f.enc + (py - px) := by rw [IntKind.wrap_i64]; omega
        have d3 : IntKind.i64.wrap (f.spent + pa) = f.spent + pa := by rw [IntKind.wrap_i64]; omega
        have d4 : IntKind.i64.wrap (f.enc + (py - px) + (f.spent + pa)) = f.enc + (py - px) + (f.spent + pa) := by rw [IntKind.wrap_i64]; omega
        simp at q1 s0
        have hgl := (HRW.out.lt g rfl).2
        have hsl2 := S2.out.lt
        have htl2 := T2.out.lt
        have H0 := hide (Below.refl w2.heap.size w2).drew
        have HKS := hide (fun W (h : Hid (Below w2.heap.size w2 W)) => (And.intro h (And.intro ((h.out.cell (p := ⟨w7.heap.size, 1, none⟩) htl2).trans q1) (And.intro ((h.out.cell (p := ⟨wr.heap.size, 0, none⟩) hsl2).trans s0) (And.intro ((h.out.cell (p := ⟨g, i * 5, none⟩) hgl).trans f0) (And.intro ((h.out.cell (p := ⟨g, i * 5 + 1, none⟩) hgl).trans f1) (And.intro ((h.out.cell (p := ⟨g, i * 5 + 2, none⟩) hgl).trans f2) (And.intro ((h.out.cell (p := ⟨g, i * 5 + 3, none⟩) hgl).trans f3) (And.intro ((h.out.cell (p := ⟨g, i * 5 + 4, none⟩) hgl).trans f4) (HLK.out W h))))))))))
        have HFB := hide (And.intro fb1 (And.intro fb2 (And.intro fb3 (And.intro by1 (And.intro bx1 ba1)))))
        have h1' : atF ys s.fund = (i : Int) := h1
        rw [h1]
        have hii : i < a.fn := by omega
        have hiz : (i : Int) < (a.fn : Int) := by omega
        have HH2 := hide h2
        clear h1 h1' h2 h3 h4 hpx hpy hpa fb1 fb2 fb3 by1 bx1 ba1 hid hrow hi
        go_wp2_with fail
        refine wp_region_held_drew (S := fun w' => Hid (Below w2.heap.size w2 w') ∧ w'.cell? ⟨w7.heap.size, 1, none⟩ = some (.slice (some ⟨g, 0, none⟩) a.fn c1) ∧ w'.cell? ⟨wr.heap.size, 0, none⟩ = some (.int .i64 s.fund) ∧ w'.cell? ⟨g, i * 5, none⟩ = some (.int .i64 f.id) ∧ w'.cell? ⟨g, i * 5 + 1, none⟩ = some (.int .i64 f.parent) ∧ w'.cell? ⟨g, i * 5 + 2, none⟩ = some (.int .i64 f.budget) ∧ w'.cell? ⟨g, i * 5 + 3, none⟩ = some (.int .i64 f.enc) ∧ w'.cell? ⟨g, i * 5 + 4, none⟩ = some (.int .i64 f.spent) ∧ (Instr.lookup 89 (.map (some g1)) (.int .i64 s.fund) false).run Tryz.prog w' = .ok (.int .i64 px) w' ∧ (Instr.lookup 89 (.map (some g2)) (.int .i64 s.fund) false).run Tryz.prog w' = .ok (.int .i64 py) w' ∧ (Instr.lookup 89 (.map (some g3)) (.int .i64 s.fund) false).run Tryz.prog w' = .ok (.int .i64 pa) w') (by kernel_rfl) (HKS.out _ H0) (fun hHeld => ?_)
        refine wpAnyH_take (i := 0) (v := ?v0) rfl (by kernel_rfl) (by kernel_rfl) (by kernel_rfl) (fun _ _ _ h => h) (Or.inl ⟨by rfl, ?hy0⟩) (by assumption) ?rest0
        case hy0 => (intro w' hSw; (try dsimp only at hSw); go_simp; (try with_reducible rfl))
        try simp only [Act.put, List.setIfInBounds_toArray, List.set_cons_zero, List.set_cons_succ]
        refine wpAnyH_take (i := 1) (v := ?v1) rfl (by kernel_rfl) (by kernel_rfl) (by kernel_rfl) (fun _ _ _ h => h) (Or.inl ⟨by rfl, ?hy1⟩) (by assumption) ?rest1
        case hy1 => (intro w' hSw; (try dsimp only at hSw); go_simp; (try with_reducible rfl))
        try simp only [Act.put, List.setIfInBounds_toArray, List.set_cons_zero, List.set_cons_succ]
        refine wpAnyH_take (i := 2) (v := ?v2) rfl (by kernel_rfl) (by kernel_rfl) (by kernel_rfl) (fun _ _ _ h => h) (Or.inl ⟨by rfl, ?hy2⟩) (by assumption) ?rest2
        case hy2 => (intro w' hSw; (try dsimp only at hSw); go_simp; (try with_reducible rfl))
        try simp only [Act.put, List.setIfInBounds_toArray, List.set_cons_zero, List.set_cons_succ]
        refine wpAnyH_take (i := 3) (v := ?v3) rfl (by kernel_rfl) (by kernel_rfl) (by kernel_rfl) (fun _ _ _ h => h) (Or.inl ⟨by rfl, ?hy3⟩) (by assumption) ?rest3
        case hy3 => (intro w' hSw; (try dsimp only at hSw); go_simp; (try with_reducible rfl))
        try simp only [Act.put, List.setIfInBounds_toArray, List.set_cons_zero, List.set_cons_succ]
        refine wpAnyH_take (i := 4) (v := ?v4) rfl (by kernel_rfl) (by kernel_rfl) (by kernel_rfl) (fun _ _ _ h => h) (Or.inl ⟨by rfl, ?hy4⟩) (by assumption) ?rest4
        case hy4 => (intro w' hSw; (try dsimp only at hSw); go_simp; (try with_reducible rfl))
        try simp only [Act.put, List.setIfInBounds_toArray, List.set_cons_zero, List.set_cons_succ]
        refine wpAnyH_take (i := 5) (v := ?v5) rfl (by kernel_rfl) (by kernel_rfl) (by kernel_rfl) (fun _ _ _ h => h) (Or.inl ⟨by rfl, ?hy5⟩) (by assumption) ?rest5
        case hy5 => (intro w' hSw; (try dsimp only at hSw); go_simp; (try with_reducible rfl))
        try simp only [Act.put, List.setIfInBounds_toArray, List.set_cons_zero, List.set_cons_succ]
        refine wpAnyH_take (i := 6) (v := ?v6) rfl (by kernel_rfl) (by kernel_rfl) (by kernel_rfl) (fun _ _ _ h => h) (Or.inl ⟨by rfl, ?hy6⟩) (by assumption) ?rest6
        case hy6 => (intro w' hSw; (try dsimp only at hSw); go_simp; (try with_reducible rfl))
        try simp only [Act.put, List.setIfInBounds_toArray, List.set_cons_zero, List.set_cons_succ]
        refine wpAnyH_take (i := 7) (v := ?v7) rfl (by kernel_rfl) (by kernel_rfl) (by kernel_rfl) (fun _ _ _ h => h) (Or.inl ⟨by rfl, ?hy7⟩) (by assumption) ?rest7
        case hy7 => (intro w' hSw; (try dsimp only at hSw); go_simp; (try with_reducible rfl))
        try simp only [Act.put, List.setIfInBounds_toArray, List.set_cons_zero, List.set_cons_succ]
        refine wpAnyH_take (i := 8) (v := ?v8) rfl (by kernel_rfl) (by kernel_rfl) (by kernel_rfl) (fun _ _ _ h => h) (Or.inl ⟨by rfl, ?hy8⟩) (by assumption) ?rest8
        case hy8 => (intro w' hSw; (try dsimp only at hSw); go_simp; (try with_reducible rfl))
        try simp only [Act.put, List.setIfInBounds_toArray, List.set_cons_zero, List.set_cons_succ]
        refine wpAnyH_take (i := 9) (v := ?v9) rfl (by kernel_rfl) (by kernel_rfl) (by kernel_rfl) (fun _ _ _ h => h) (Or.inl ⟨by rfl, ?hy9⟩) (by assumption) ?rest9
        case hy9 => (intro w' hSw; (try dsimp only at hSw); go_simp; (try with_reducible rfl))
        try simp only [Act.put, List.setIfInBounds_toArray, List.set_cons_zero, List.set_cons_succ]
        refine wpAnyH_take (i := 10) (v := ?v10) rfl (by kernel_rfl) (by kernel_rfl) (by kernel_rfl) (fun _ _ _ h => h) (Or.inl ⟨by rfl, ?hy10⟩) (by assumption) ?rest10
        case hy10 => (intro w' hSw; (try dsimp only at hSw); go_simp; (try with_reducible rfl))
        try simp only [Act.put, List.setIfInBounds_toArray, List.set_cons_zero, List.set_cons_succ]
        refine wpAnyH_take (i := 11) (v := ?v11) rfl (by kernel_rfl) (by kernel_rfl) (by kernel_rfl) (fun _ _ _ h => h) (Or.inl ⟨by rfl, ?hy11⟩) (by assumption) ?rest11
        case hy11 => (intro w' hSw; (try dsimp only at hSw); go_simp; (try with_reducible rfl))
        try simp only [Act.put, List.setIfInBounds_toArray, List.set_cons_zero, List.set_cons_succ]
        refine wpAnyH_take (i := 12) (v := ?v12) rfl (by kernel_rfl) (by kernel_rfl) (by kernel_rfl) (fun _ _ _ h => h) (Or.inl ⟨by rfl, ?hy12⟩) (by assumption) ?rest12
        case hy12 => (intro w' hSw; (try dsimp only at hSw); go_simp; (try with_reducible rfl))
        try simp only [Act.put, List.setIfInBounds_toArray, List.set_cons_zero, List.set_cons_succ]
        refine wpAnyH_take (i := 13) (v := ?v13) rfl (by kernel_rfl) (by kernel_rfl) (by kernel_rfl) (fun _ _ _ h => h) (Or.inl ⟨by rfl, ?hy13⟩) (by assumption) ?rest13
        case hy13 => (intro w' hSw; (try dsimp only at hSw); go_simp; (try with_reducible rfl))
        try simp only [Act.put, List.setIfInBounds_toArray, List.set_cons_zero, List.set_cons_succ]
        refine wpAnyH_take (i := 14) (v := ?v14) rfl (by kernel_rfl) (by kernel_rfl) (by kernel_rfl) (fun _ _ _ h => h) (Or.inl ⟨by rfl, ?hy14⟩) (by assumption) ?rest14
        case hy14 => (intro w' hSw; (try dsimp only at hSw); go_simp; (try with_reducible rfl))
        try simp only [Act.put, List.setIfInBounds_toArray, List.set_cons_zero, List.set_cons_succ]
        refine wpAnyH_take (i := 15) (v := ?v15) rfl (by kernel_rfl) (by kernel_rfl) (by kernel_rfl) (fun _ _ _ h => h) (Or.inl ⟨by rfl, ?hy15⟩) (by assumption) ?rest15
        case hy15 => (intro w' hSw; (try dsimp only at hSw); go_simp; (try with_reducible rfl))
        try simp only [Act.put, List.setIfInBounds_toArray, List.set_cons_zero, List.set_cons_succ]
        refine wpAnyH_take (i := 16) (v := ?v16) rfl (by kernel_rfl) (by kernel_rfl) (by kernel_rfl) (fun _ _ _ h => h) (Or.inl ⟨by rfl, ?hy16⟩) (by assumption) ?rest16
        case hy16 => (intro w' hSw; (try dsimp only at hSw); go_simp; (try with_reducible rfl))
        try simp only [Act.put, List.setIfInBounds_toArray, List.set_cons_zero, List.set_cons_succ]
        refine wpAnyH_take (i := 17) (v := ?v17) rfl (by kernel_rfl) (by kernel_rfl) (by kernel_rfl) (fun _ _ _ h => h) (Or.inl ⟨by rfl, ?hy17⟩) (by assumption) ?rest17
        case hy17 => (intro w' hSw; (try dsimp only at hSw); go_simp; (try with_reducible rfl))
        try simp only [Act.put, List.setIfInBounds_toArray, List.set_cons_zero, List.set_cons_succ]
        refine wpAnyH_take (i := 18) (v := ?v18) rfl (by kernel_rfl) (by kernel_rfl) (by kernel_rfl) (fun _ _ _ h => h) (Or.inl ⟨by rfl, ?hy18⟩) (by assumption) ?rest18
        case hy18 => (intro w' hSw; (try dsimp only at hSw); go_simp; (try with_reducible rfl))
        simp only [Act.put, List.setIfInBounds_toArray, List.set_cons_zero, List.set_cons_succ]
        try simp only [Act.put, List.setIfInBounds_toArray, List.set_cons_zero, List.set_cons_succ]
        refine wpAnyH_ready (rs := [19]) (by kernel_rfl) (by simp) ?_
        refine AllReadyH.cons rfl (fun K hK => ?_) AllReadyH.nil
        go_simp
        refine hK.out _ _ ?_ (fun hHeld2 => ?_)
        · first | exact HKS.out _ (hbel_alloc H0 _) | (exact HKS.out _ (Below.alloc (Below.refl _ _) (Nat.le_refl _) _).drew)
        clear hK K
        try simp only [Act.put, List.setIfInBounds_toArray, List.set_cons_zero, List.set_cons_succ]
        refine wpAnyH_ready (rs := [20]) (by kernel_rfl) (by simp) ?_
        refine AllReadyH.cons rfl (fun K hK => ?_) AllReadyH.nil
        go_simp
        refine hK.out _ _ ?_ (fun hHeld3 => ?_)
        · first | exact HKS.out _ (hbel_alloc H0 _) | (exact HKS.out _ (Below.alloc (Below.refl _ _) (Nat.le_refl _) _).drew)
        clear hK K
        try simp only [Act.put, List.setIfInBounds_toArray, List.set_cons_zero, List.set_cons_succ]
        refine wpAnyH_done (by kernel_rfl) ?_ _
        clear hHeld hHeld2 hHeld3 HKS HLK L1 L2 L3 S2 V2 s0 d1 hsl2
        have HST3 := hide HST2.out
        by_cases hA1 : 100000000 < f.spent + pa
        · have HR := hide (show withF (aqP a) (stlA a.f x y am) = (2, pa0) by
            have hF : (stlF (py - px) pa f).1 = 2 := by unfold stlF; rw [if_pos hA1]
            rw [HAK.out, HST2.out, hcr2.out (by rw [hF]; decide), hF]
            rfl)
          have r0 := R2.out.cell 0
          have r1 := R2.out.cell 1
          have r2 := R2.out.cell 2
          have r3 := R2.out.cell 3
          have r4 := R2.out.cell 4
          have r5 := R2.out.cell 5
          have fr := fun j => R2.out.frz j
          simp [aq0] at r0 r1 r2 r3 r4 r5
          have hlr := R2.out.lt
          clear q1 f0 f1 f2 f3 f4
          go_wp2
          refine bodyPost_ret (v := .tuple #[aqV aq0, .int .i64 2]) (by simp [results, Tryz.results130, go_sem, World.cell?_alloc_lt, hlr, r0, r1, r2, r3, r4, r5, aqV, aq0]) rfl ?_
          rw [HR.out]
          exact resA_err (((below_aq B2.out (by omega) _ _ _ _ _ _).alloc (by simpa using B2.out.size) _).drew)
        by_cases hA2 : f.budget < f.enc + (py - px) + (f.spent + pa)
        · have HR := hide (show withF (aqP a) (stlA a.f x y am) = (17, pa0) by
            have hF : (stlF (py - px) pa f).1 = 17 := by unfold stlF; rw [if_neg hA1, if_pos hA2]
            rw [HAK.out, HST2.out, hcr2.out (by rw [hF]; decide), hF]
            rfl)
          have r0 := R2.out.cell 0
          have r1 := R2.out.cell 1
          have r2 := R2.out.cell 2
          have r3 := R2.out.cell 3
          have r4 := R2.out.cell 4
          have r5 := R2.out.cell 5
          have fr := fun j => R2.out.frz j
          simp [aq0] at r0 r1 r2 r3 r4 r5
          have hlr := R2.out.lt
          clear q1 f0 f1 f2 f3 f4
          go_wp2
          refine bodyPost_ret (v := .tuple #[aqV aq0, .int .i64 17]) (by simp [results, Tryz.results130, go_sem, World.cell?_alloc_lt, hlr, r0, r1, r2, r3, r4, r5, aqV, aq0]) rfl ?_
          rw [HR.out]
          exact resA_err (((below_aq B2.out (by omega) _ _ _ _ _ _).alloc (by simpa using B2.out.size) _).drew)
        have HN := hide (show stlA a.f x y am = stlL (fun id => partO y ry id - partO x rx id) (fun id => partO y am id) (y.sh.drop (k + 1)) (ys.set i { f with enc := f.enc + (py - px), spent := f.spent + pa }) by
          have hF : stlF (py - px) pa f = (0, { f with enc := f.enc + (py - px), spent := f.spent + pa }) := by unfold stlF; rw [if_neg hA1, if_neg hA2]
          rw [HAK.out, HST2.out, hcr.out (by rw [hF]), hF]
          rfl)
        have hfz := fun j => HRW.out.frozenAt j
        clear hcr hcr2 HST2 HST3
        go_wp2
        go_roundw
        case rel =>
          have hHB : Below (w7.heap.size + 1) W ((w2.setCells g (i * 5) (fuE { f with enc := f.enc + (py - px), spent := f.spent + pa })).alloc (.cells #[.int .i64 f.id, .int .i64 f.parent, .int .i64 f.budget, .int .i64 (f.enc + (py - px)), .int .i64 (f.spent + pa), .int .i64 (py - px), .int .i64 pa] 168)).drew := ((below_setCells hgb _ _ _ HB2.out).alloc (by have h9 := (below_setCells (Nat.zero_le g) (fuE { f with enc := f.enc + (py - px), spent := f.spent + pa }) (i * 5) _ (Below.refl 0 w2)).size; omega) _).drew
          refine ⟨k + 1, ys.set i { f with enc := f.enc + (py - px), spent := f.spent + pa }, by omega, by go_num, HN.out, by rw [List.length_set]; exact hyl, ?_, hHB, ?_⟩
          · intro u hu
            have hk1 : ((k + 1 : Nat) : Int) = (k : Int) + 1 := by omega
            rw [hk1]
            rcases List.mem_or_eq_of_mem_set hu with hu | hu
            · exact (HYB.out u hu).le (by omega)
            · subst hu
              obtain ⟨fb1, fb2, fb3, by1, bx1, ba1⟩ := HFB.out
              exact ⟨fb1, by constructor <;> (show _ ≤ _; simp only; omega), by constructor <;> (show _ ≤ _; simp only; omega)⟩
          · have h := ((own_setk fuE_len HRW.out hyl hii { f with enc := f.enc + (py - px), spent := f.spent + pa }).alloc (.cells #[.int .i64 f.id, .int .i64 f.parent, .int .i64 f.budget, .int .i64 (f.enc + (py - px)), .int .i64 (f.spent + pa), .int .i64 (py - px), .int .i64 pa] 168)).drew
            unfold Fo
            rw [List.length_set, hyl]
            exact h
        case measure => simp [intOf]; omega
    · have hkz : ¬ (k : Int) < (y.shn : Int) := by omega
      have HR := hide (show withF (aqP a) (stlA a.f x y am) = (0, { aqP a with f := ys }) by rw [HAK.out, stlL_end (by have := HYL.out; omega)]; exact withF_ok rfl)
      have r0 := R1.out.cell 0
      have r1 := R1.out.cell 1
      have r2 := R1.out.cell 2
      have r3 := R1.out.cell 3
      have r4 := R1.out.cell 4
      have r5 := R1.out.cell 5
      have fr := fun j => R1.out.frz j
      have t0 := T1.out.cell 0
      have t1 := T1.out.cell 1
      have t2 := T1.out.cell 2
      have t3 := T1.out.cell 3
      have t4 := T1.out.cell 4
      have t5 := T1.out.cell 5
      simp [aq0] at r0 r1 r2 r3 r4 r5 t0 t1 t2 t3 t4 t5
      go_wp2
      refine bodyPost_ret (v := .tuple #[aqV { a with fA := A1, fc := c1, f := ys }, .int .i64 0]) (by simp [results, Tryz.results130, go_sem, r0, r1, r2, r3, r4, r5, aqV]) rfl ?_
      rw [HR.out]
      have hB := below_aq BW.out (show w.heap.size ≤ w.heap.size + 1 + 1 + 1 by omega) (.int .i64 a.yr) (.slice A1 a.fn c1) (.slice a.oA a.on a.oc) (.slice a.bA a.bn a.bc) (.slice a.sA a.sn a.sc) (.int .i64 a.nx)
      refine ⟨_, rfl, ?_, rfl, hB⟩
      have hlt6 : w.heap.size + 1 + 1 + 1 < w7.heap.size + 1 := by omega
      have ho := ownsRow_setCell_below (a := ⟨w.heap.size + 1 + 1 + 1, 5, none⟩) (ownsRow_setCell_below (a := ⟨w.heap.size + 1 + 1 + 1, 4, none⟩) (ownsRow_setCell_below (a := ⟨w.heap.size + 1 + 1 + 1, 3, none⟩) (ownsRow_setCell_below (a := ⟨w.heap.size + 1 + 1 + 1, 2, none⟩) (ownsRow_setCell_below (a := ⟨w.heap.size + 1 + 1 + 1, 1, none⟩) (ownsRow_setCell_below (a := ⟨w.heap.size + 1 + 1 + 1, 0, none⟩) HO.out hlt6 (.int .i64 a.yr)) hlt6 (.slice A1 a.fn c1)) hlt6 (.slice a.oA a.on a.oc)) hlt6 (.slice a.bA a.bn a.bc)) hlt6 (.slice a.sA a.sn a.sc)) hlt6 (.int .i64 a.nx)
      obtain ⟨A2, c2, hv2, hsl2⟩ := Fo_sl ho (by omega)
      rw [hyl] at hv2 hsl2
      injection hv2 with e1 e2 e3
      subst e1 e3
      exact HS.out.funds hB hsl2 a.yr a.nx
end Go.Proofs.YtbhndfphegflhaaGreat
