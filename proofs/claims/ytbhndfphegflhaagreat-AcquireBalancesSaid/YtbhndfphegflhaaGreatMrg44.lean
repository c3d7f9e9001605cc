/- Texts laid together by merge.py: AqU. -/
import Derived.Test.YtbhndfphegflhaaGreatMrg43
import Derived.Test.YtbhndfphegflhaaGreatMrg37
import Derived.Test.YtbhndfphegflhaaGreatMrg29
import Derived.Test.YtbhndfphegflhaaGreatMrg25
set_option linter.unusedSimpArgs false
set_option linter.unusedVariables false
/- The law AcquireFunds. Printed by gen_aq_u.py. -/
namespace Go.Proofs.YtbhndfphegflhaaGreat
open Go.RowKit

theorem okA_V {a : Aq} (h : okA (aqP a) = true) : Vld a.f ∧ VldO a.o ∧ (1900 ≤ a.yr ∧ a.yr ≤ 2199) ∧ (1 ≤ a.nx ∧ a.nx ≤ 10000) := by
  unfold okA ok1 aqP at h
  simp only [Bool.and_eq_true, beq_iff_eq] at h
  obtain ⟨⟨⟨⟨⟨⟨⟨h1, h2⟩, h3⟩, h4⟩, _⟩, _⟩, _⟩, _⟩ := h
  exact ⟨vld_of h3, VldO.of h4, winB_iff.1 h1, winB_iff.1 h2⟩

set_option maxRecDepth 100000 in
set_option maxHeartbeats 4000000 in
theorem acquireFunds_any (a : Aq) (x : Fu) (id am : Int) (w : World) (ho : AqO w a) (hid : I64 id) (ham : I64 am) :
    Calls Tryz.prog 8 #[aqV a, fuV x, .int .i64 id, .int .i64 am] w fun e w' => e = .returned (.bool true) ∧ Below w.heap.size w w' := by
  have B0 := hide (((Below.refl w.heap.size w).alloc (Nat.le_refl _) (.cells (aqC a) 27)).alloc (by simp) (.cells (fuC x) 57))
  have X0 := hide ((Box.new w 27 (aqC a)).alloc (.cells (fuC x) 57))
  have Q0 := hide (Box.new (w.alloc (.cells (aqC a) 27)) 57 (fuC x))
  rw [World.size_alloc] at Q0
  have HFIT := hide (fit_any a _ (ho.below B0.out))
  have HO := hide ho
  clear ho
  unfold aqV fuV
  unfold aqV at HFIT
  go_enter Tryz.func8, Tryz.ntmps8
  go_wp2_with fail
  refine HFIT.out.mono ?_
  rintro e w1 ⟨q, rfl, hq, hb⟩
  have HQ := hide hq
  have B1 := hide (B0.out.trans (hb.mono B0.out.size))
  have X1 := hide (X0.out.below hb X0.out.lt)
  have Q1 := hide (Q0.out.below hb Q0.out.lt)
  clear hq hb HFIT
  cases q with
  | false =>
    have HAL := hide (aalive_any w1)
    go_wp2_with fail
    refine HAL.out.mono ?_
    rintro e w2 ⟨rfl, hb⟩
    have B2 := hide (B1.out.trans (hb.mono B1.out.size))
    clear hb HAL
    go_wp2
    go_ret
    exact ⟨rfl, B2.out⟩
  | true =>
    obtain ⟨hsm, hok⟩ := HQ.out rfl
    obtain ⟨hvf, hvo, hyr, hnx⟩ := okA_V hok
    have hfn : a.fn ≤ 1000 := by have := hsm.fn; omega
    have HS1 := hide (((HO.out.st hsm).below B1.out).more B1.out.size)
    have HFM := hide hvf.M
    have HVO := hide hvo
    have HI := hide (And.intro hid ham)
    clear hsm hok hvf hvo hyr hnx HQ hid ham
    have t_0 := X1.out.cell 0
    have t_1 := X1.out.cell 1
    have t_2 := X1.out.cell 2
    have t_3 := X1.out.cell 3
    have t_4 := X1.out.cell 4
    have t_5 := X1.out.cell 5
    simp at t_0 t_1 t_2 t_3 t_4 t_5
    have f_0 := Q1.out.cell 0
    have f_1 := Q1.out.cell 1
    have f_2 := Q1.out.cell 2
    have f_3 := Q1.out.cell 3
    have f_4 := Q1.out.cell 4
    simp at f_0 f_1 f_2 f_3 f_4
    have hc := paddA_any a x _ HS1.out hfn
    obtain ⟨er1, pa1, hr1⟩ : ∃ er pa, addFA (aqP a) x = (er, pa) := ⟨_, _, rfl⟩
    rw [hr1] at hc
    have HR1 := hide hr1
    clear hr1
    unfold aqV fuV at hc
    have HC1 := hide hc
    clear hc
    go_wp2_with fail
    clear t_0 t_1 t_2 t_3 t_4 t_5 f_0 f_1 f_2 f_3 f_4
    refine HC1.out.mono ?_
    rintro e w2 ⟨z1, rfl, hz, hp, hb⟩
    have B3 := hide (B1.out.trans (hb.mono B1.out.size))
    have X4 := hide (X1.out.below hb X1.out.lt)
    have X5 := hide (Q1.out.below hb Q1.out.lt)
    have S6 := hide ((HS1.out.below hb).more hb.size)
    have S7 := hide hz
    have P8 := hide hp
    clear hz hp hb HC1 
    unfold aqV
    have t_0 := X4.out.cell 0
    have t_1 := X4.out.cell 1
    have t_2 := X4.out.cell 2
    have t_3 := X4.out.cell 3
    have t_4 := X4.out.cell 4
    have t_5 := X4.out.cell 5
    simp at t_0 t_1 t_2 t_3 t_4 t_5
    have hlt := X4.out.lt
    have tt_0 := fun o => (World.cell?_alloc_lt w2 o ⟨w.heap.size, 0, none⟩ (by exact hlt)).trans t_0
    have tt_1 := fun o => (World.cell?_alloc_lt w2 o ⟨w.heap.size, 1, none⟩ (by exact hlt)).trans t_1
    have tt_2 := fun o => (World.cell?_alloc_lt w2 o ⟨w.heap.size, 2, none⟩ (by exact hlt)).trans t_2
    have tt_3 := fun o => (World.cell?_alloc_lt w2 o ⟨w.heap.size, 3, none⟩ (by exact hlt)).trans t_3
    have tt_4 := fun o => (World.cell?_alloc_lt w2 o ⟨w.heap.size, 4, none⟩ (by exact hlt)).trans t_4
    have tt_5 := fun o => (World.cell?_alloc_lt w2 o ⟨w.heap.size, 5, none⟩ (by exact hlt)).trans t_5
    have f_0 := X5.out.cell 0
    have f_1 := X5.out.cell 1
    have f_2 := X5.out.cell 2
    have f_3 := X5.out.cell 3
    have f_4 := X5.out.cell 4
    simp at f_0 f_1 f_2 f_3 f_4
    have hlf := X5.out.lt
    have ff_0 := fun o => (World.cell?_alloc_lt w2 o ⟨w.heap.size + 1, 0, none⟩ (by exact hlf)).trans f_0
    have ff_1 := fun o => (World.cell?_alloc_lt w2 o ⟨w.heap.size + 1, 1, none⟩ (by exact hlf)).trans f_1
    have ff_2 := fun o => (World.cell?_alloc_lt w2 o ⟨w.heap.size + 1, 2, none⟩ (by exact hlf)).trans f_2
    have ff_3 := fun o => (World.cell?_alloc_lt w2 o ⟨w.heap.size + 1, 3, none⟩ (by exact hlf)).trans f_3
    have ff_4 := fun o => (World.cell?_alloc_lt w2 o ⟨w.heap.size + 1, 4, none⟩ (by exact hlf)).trans f_4
    have B9 := hide (B3.out.alloc B3.out.size (.cells (aqC z1) 27))
    have X10 := hide (X4.out.alloc (.cells (aqC z1) 27))
    have X11 := hide (X5.out.alloc (.cells (aqC z1) 27))
    have S12 := hide ((S6.out.below ((Below.refl w2.heap.size w2).alloc (Nat.le_refl _) (.cells (aqC z1) 27))).more (B' := (w2.alloc (.cells (aqC z1) 27)).heap.size) (by simp))
    have S13 := hide ((S7.out.below ((Below.refl w2.heap.size w2).alloc (Nat.le_refl _) (.cells (aqC z1) 27))).more (B' := (w2.alloc (.cells (aqC z1) 27)).heap.size) (by simp))
    have hlt_X9_A := X4.out.lt
    have hlt_X9_F := X5.out.lt
    have X14 := hide (Box.new w2 27 (aqC z1))
    have hc := raddA_any a x _ S12.out hfn
    skip
    rw [HR1.out] at hc
    unfold aqV fuV at hc
    have HC15 := hide hc
    clear hc
    go_wp2_with fail
    clear t_0 t_1 t_2 t_3 t_4 t_5 hlt tt_0 tt_1 tt_2 tt_3 tt_4 tt_5 f_0 f_1 f_2 f_3 f_4 hlf ff_0 ff_1 ff_2 ff_3 ff_4
    refine HC15.out.mono ?_
    rintro e w16 ⟨z2, rfl, hz, hp, hb⟩
    have B17 := hide (B9.out.trans (hb.mono B9.out.size))
    have X18 := hide (X10.out.below hb X10.out.lt)
    have X19 := hide (X11.out.below hb X11.out.lt)
    have X20 := hide (X14.out.below hb X14.out.lt)
    have S21 := hide ((S12.out.below hb).more hb.size)
    have S22 := hide ((S13.out.below hb).more hb.size)
    have S23 := hide hz
    have P24 := hide hp
    clear hz hp hb HC15 
    unfold aqV
    have t_0 := X18.out.cell 0
    have t_1 := X18.out.cell 1
    have t_2 := X18.out.cell 2
    have t_3 := X18.out.cell 3
    have t_4 := X18.out.cell 4
    have t_5 := X18.out.cell 5
    simp at t_0 t_1 t_2 t_3 t_4 t_5
    have hlt := X18.out.lt
    have tt_0 := fun o => (World.cell?_alloc_lt w16 o ⟨w.heap.size, 0, none⟩ (by exact hlt)).trans t_0
    have tt_1 := fun o => (World.cell?_alloc_lt w16 o ⟨w.heap.size, 1, none⟩ (by exact hlt)).trans t_1
    have tt_2 := fun o => (World.cell?_alloc_lt w16 o ⟨w.heap.size, 2, none⟩ (by exact hlt)).trans t_2
    have tt_3 := fun o => (World.cell?_alloc_lt w16 o ⟨w.heap.size, 3, none⟩ (by exact hlt)).trans t_3
    have tt_4 := fun o => (World.cell?_alloc_lt w16 o ⟨w.heap.size, 4, none⟩ (by exact hlt)).trans t_4
    have tt_5 := fun o => (World.cell?_alloc_lt w16 o ⟨w.heap.size, 5, none⟩ (by exact hlt)).trans t_5
    have B25 := hide (B17.out.alloc B17.out.size (.cells (aqC z2) 27))
    have X26 := hide (X18.out.alloc (.cells (aqC z2) 27))
    have X27 := hide (X19.out.alloc (.cells (aqC z2) 27))
    have X28 := hide (X20.out.alloc (.cells (aqC z2) 27))
    have S29 := hide ((S21.out.below ((Below.refl w16.heap.size w16).alloc (Nat.le_refl _) (.cells (aqC z2) 27))).more (B' := (w16.alloc (.cells (aqC z2) 27)).heap.size) (by simp))
    have S30 := hide ((S22.out.below ((Below.refl w16.heap.size w16).alloc (Nat.le_refl _) (.cells (aqC z2) 27))).more (B' := (w16.alloc (.cells (aqC z2) 27)).heap.size) (by simp))
    have S31 := hide ((S23.out.below ((Below.refl w16.heap.size w16).alloc (Nat.le_refl _) (.cells (aqC z2) 27))).more (B' := (w16.alloc (.cells (aqC z2) 27)).heap.size) (by simp))
    have hlt_X11_A := X18.out.lt
    have hlt_X11_F := X19.out.lt
    have hlt_X11_X9 := X20.out.lt
    have X32 := hide (Box.new w16 27 (aqC z2))
    have hc := pbudA_any a id am _ S29.out hfn HFM.out HI.out.2
    obtain ⟨er2, pa2, hr2⟩ : ∃ er pa, budA (aqP a) id am = (er, pa) := ⟨_, _, rfl⟩
    rw [hr2] at hc
    have HR2 := hide hr2
    clear hr2
    unfold aqV at hc
    have HC33 := hide hc
    clear hc
    go_wp2_with fail
    clear t_0 t_1 t_2 t_3 t_4 t_5 hlt tt_0 tt_1 tt_2 tt_3 tt_4 tt_5
    refine HC33.out.mono ?_
    rintro e w34 ⟨z3, rfl, hz, hp, hb⟩
    have B35 := hide (B25.out.trans (hb.mono B25.out.size))
    have X36 := hide (X26.out.below hb X26.out.lt)
    have X37 := hide (X27.out.below hb X27.out.lt)
    have X38 := hide (X28.out.below hb X28.out.lt)
    have X39 := hide (X32.out.below hb X32.out.lt)
    have S40 := hide ((S29.out.below hb).more hb.size)
    have S41 := hide ((S30.out.below hb).more hb.size)
    have S42 := hide ((S31.out.below hb).more hb.size)
    have S43 := hide hz
    have P44 := hide hp
    clear hz hp hb HC33 
    unfold aqV
    have t_0 := X36.out.cell 0
    have t_1 := X36.out.cell 1
    have t_2 := X36.out.cell 2
    have t_3 := X36.out.cell 3
    have t_4 := X36.out.cell 4
    have t_5 := X36.out.cell 5
    simp at t_0 t_1 t_2 t_3 t_4 t_5
    have hlt := X36.out.lt
    have tt_0 := fun o => (World.cell?_alloc_lt w34 o ⟨w.heap.size, 0, none⟩ (by exact hlt)).trans t_0
    have tt_1 := fun o => (World.cell?_alloc_lt w34 o ⟨w.heap.size, 1, none⟩ (by exact hlt)).trans t_1
    have tt_2 := fun o => (World.cell?_alloc_lt w34 o ⟨w.heap.size, 2, none⟩ (by exact hlt)).trans t_2
    have tt_3 := fun o => (World.cell?_alloc_lt w34 o ⟨w.heap.size, 3, none⟩ (by exact hlt)).trans t_3
    have tt_4 := fun o => (World.cell?_alloc_lt w34 o ⟨w.heap.size, 4, none⟩ (by exact hlt)).trans t_4
    have tt_5 := fun o => (World.cell?_alloc_lt w34 o ⟨w.heap.size, 5, none⟩ (by exact hlt)).trans t_5
    have B45 := hide (B35.out.alloc B35.out.size (.cells (aqC z3) 27))
    have X46 := hide (X36.out.alloc (.cells (aqC z3) 27))
    have X47 := hide (X37.out.alloc (.cells (aqC z3) 27))
    have X48 := hide (X38.out.alloc (.cells (aqC z3) 27))
    have X49 := hide (X39.out.alloc (.cells (aqC z3) 27))
    have S50 := hide ((S40.out.below ((Below.refl w34.heap.size w34).alloc (Nat.le_refl _) (.cells (aqC z3) 27))).more (B' := (w34.alloc (.cells (aqC z3) 27)).heap.size) (by simp))
    have S51 := hide ((S41.out.below ((Below.refl w34.heap.size w34).alloc (Nat.le_refl _) (.cells (aqC z3) 27))).more (B' := (w34.alloc (.cells (aqC z3) 27)).heap.size) (by simp))
    have S52 := hide ((S42.out.below ((Below.refl w34.heap.size w34).alloc (Nat.le_refl _) (.cells (aqC z3) 27))).more (B' := (w34.alloc (.cells (aqC z3) 27)).heap.size) (by simp))
    have S53 := hide ((S43.out.below ((Below.refl w34.heap.size w34).alloc (Nat.le_refl _) (.cells (aqC z3) 27))).more (B' := (w34.alloc (.cells (aqC z3) 27)).heap.size) (by simp))
    have hlt_X13_A := X36.out.lt
    have hlt_X13_F := X37.out.lt
    have hlt_X13_X9 := X38.out.lt
    have hlt_X13_X11 := X39.out.lt
    have X54 := hide (Box.new w34 27 (aqC z3))
    have hc := rbudA_any a id am _ S50.out hfn HFM.out
    skip
    rw [HR2.out] at hc
    unfold aqV at hc
    have HC55 := hide hc
    clear hc
    go_wp2_with fail
    clear t_0 t_1 t_2 t_3 t_4 t_5 hlt tt_0 tt_1 tt_2 tt_3 tt_4 tt_5
    refine HC55.out.mono ?_
    rintro e w56 ⟨z4, rfl, hz, hp, hb⟩
    have B57 := hide (B45.out.trans (hb.mono B45.out.size))
    have X58 := hide (X46.out.below hb X46.out.lt)
    have X59 := hide (X47.out.below hb X47.out.lt)
    have X60 := hide (X48.out.below hb X48.out.lt)
    have X61 := hide (X49.out.below hb X49.out.lt)
    have X62 := hide (X54.out.below hb X54.out.lt)
    have S63 := hide ((S50.out.below hb).more hb.size)
    have S64 := hide ((S51.out.below hb).more hb.size)
    have S65 := hide ((S52.out.below hb).more hb.size)
    have S66 := hide ((S53.out.below hb).more hb.size)
    have S67 := hide hz
    have P68 := hide hp
    clear hz hp hb HC55 
    unfold aqV
    have B69 := hide (B57.out.alloc B57.out.size (.cells (aqC z4) 27))
    have X70 := hide (X58.out.alloc (.cells (aqC z4) 27))
    have X71 := hide (X59.out.alloc (.cells (aqC z4) 27))
    have X72 := hide (X60.out.alloc (.cells (aqC z4) 27))
    have X73 := hide (X61.out.alloc (.cells (aqC z4) 27))
    have X74 := hide (X62.out.alloc (.cells (aqC z4) 27))
    have S75 := hide ((S63.out.below ((Below.refl w56.heap.size w56).alloc (Nat.le_refl _) (.cells (aqC z4) 27))).more (B' := (w56.alloc (.cells (aqC z4) 27)).heap.size) (by simp))
    have S76 := hide ((S64.out.below ((Below.refl w56.heap.size w56).alloc (Nat.le_refl _) (.cells (aqC z4) 27))).more (B' := (w56.alloc (.cells (aqC z4) 27)).heap.size) (by simp))
    have S77 := hide ((S65.out.below ((Below.refl w56.heap.size w56).alloc (Nat.le_refl _) (.cells (aqC z4) 27))).more (B' := (w56.alloc (.cells (aqC z4) 27)).heap.size) (by simp))
    have S78 := hide ((S66.out.below ((Below.refl w56.heap.size w56).alloc (Nat.le_refl _) (.cells (aqC z4) 27))).more (B' := (w56.alloc (.cells (aqC z4) 27)).heap.size) (by simp))
    have S79 := hide ((S67.out.below ((Below.refl w56.heap.size w56).alloc (Nat.le_refl _) (.cells (aqC z4) 27))).more (B' := (w56.alloc (.cells (aqC z4) 27)).heap.size) (by simp))
    have hlt_X15_A := X58.out.lt
    have hlt_X15_F := X59.out.lt
    have hlt_X15_X9 := X60.out.lt
    have hlt_X15_X11 := X61.out.lt
    have hlt_X15_X13 := X62.out.lt
    have X80 := hide (Box.new w56 27 (aqC z4))
    go_wp2_with fail
    obtain ⟨w81, hw82⟩ : ∃ W, W = (w56.alloc (.cells (aqC z4) 27)) := ⟨_, rfl⟩
    rw [← hw82] at B69  X70 X71 X72 X73 X74 X80 S75 S76 S77 S78 S79 ⊢
    clear hw82
    have gA_0 := X70.out.cell 0
    have gA_1 := X70.out.cell 1
    have gA_2 := X70.out.cell 2
    have gA_3 := X70.out.cell 3
    have gA_4 := X70.out.cell 4
    have gA_5 := X70.out.cell 5
    simp at gA_0 gA_1 gA_2 gA_3 gA_4 gA_5
    have GgA_0 := Grn.cell gA_0
    have GgA_1 := Grn.cell gA_1
    have GgA_2 := Grn.cell gA_2
    have GgA_3 := Grn.cell gA_3
    have GgA_4 := Grn.cell gA_4
    have GgA_5 := Grn.cell gA_5
    clear gA_0 gA_1 gA_2 gA_3 gA_4 gA_5
    have gX9_0 := X72.out.cell 0
    have gX9_1 := X72.out.cell 1
    have gX9_2 := X72.out.cell 2
    have gX9_3 := X72.out.cell 3
    have gX9_4 := X72.out.cell 4
    have gX9_5 := X72.out.cell 5
    simp at gX9_0 gX9_1 gX9_2 gX9_3 gX9_4 gX9_5
    have GgX9_0 := Grn.cell gX9_0
    have GgX9_1 := Grn.cell gX9_1
    have GgX9_2 := Grn.cell gX9_2
    have GgX9_3 := Grn.cell gX9_3
    have GgX9_4 := Grn.cell gX9_4
    have GgX9_5 := Grn.cell gX9_5
    clear gX9_0 gX9_1 gX9_2 gX9_3 gX9_4 gX9_5
    have gX11_0 := X73.out.cell 0
    have gX11_1 := X73.out.cell 1
    have gX11_2 := X73.out.cell 2
    have gX11_3 := X73.out.cell 3
    have gX11_4 := X73.out.cell 4
    have gX11_5 := X73.out.cell 5
    simp at gX11_0 gX11_1 gX11_2 gX11_3 gX11_4 gX11_5
    have GgX11_0 := Grn.cell gX11_0
    have GgX11_1 := Grn.cell gX11_1
    have GgX11_2 := Grn.cell gX11_2
    have GgX11_3 := Grn.cell gX11_3
    have GgX11_4 := Grn.cell gX11_4
    have GgX11_5 := Grn.cell gX11_5
    clear gX11_0 gX11_1 gX11_2 gX11_3 gX11_4 gX11_5
    have gX13_0 := X74.out.cell 0
    have gX13_1 := X74.out.cell 1
    have gX13_2 := X74.out.cell 2
    have gX13_3 := X74.out.cell 3
    have gX13_4 := X74.out.cell 4
    have gX13_5 := X74.out.cell 5
    simp at gX13_0 gX13_1 gX13_2 gX13_3 gX13_4 gX13_5
    have GgX13_0 := Grn.cell gX13_0
    have GgX13_1 := Grn.cell gX13_1
    have GgX13_2 := Grn.cell gX13_2
    have GgX13_3 := Grn.cell gX13_3
    have GgX13_4 := Grn.cell gX13_4
    have GgX13_5 := Grn.cell gX13_5
    clear gX13_0 gX13_1 gX13_2 gX13_3 gX13_4 gX13_5
    have gX15_0 := X80.out.cell 0
    have gX15_1 := X80.out.cell 1
    have gX15_2 := X80.out.cell 2
    have gX15_3 := X80.out.cell 3
    have gX15_4 := X80.out.cell 4
    have gX15_5 := X80.out.cell 5
    simp at gX15_0 gX15_1 gX15_2 gX15_3 gX15_4 gX15_5
    have GgX15_0 := Grn.cell gX15_0
    have GgX15_1 := Grn.cell gX15_1
    have GgX15_2 := Grn.cell gX15_2
    have GgX15_3 := Grn.cell gX15_3
    have GgX15_4 := Grn.cell gX15_4
    have GgX15_5 := Grn.cell gX15_5
    clear gX15_0 gX15_1 gX15_2 gX15_3 gX15_4 gX15_5
    have HSA := hide (fun W (hW : Below w81.heap.size w81 W) => same40_any z1 z2 W (AqQ.of (P8.out.trans P24.out.symm)) ((S76.out.below hW).more hW.size) ((S77.out.below hW).more hW.size))
    unfold aqV at HSA
    have HSB := hide (fun W (hW : Below w81.heap.size w81 W) => same40_any z3 z4 W (AqQ.of (P44.out.trans P68.out.symm)) ((S78.out.below hW).more hW.size) ((S79.out.below hW).more hW.size))
    unfold aqV at HSB
    have HAL := hide (fun W (hW : Below w81.heap.size w81 W) => aalive_any W)
    have HRP := hide (fun W (hW : Below w81.heap.size w81 W) => prsvA_any a id W ((S75.out.o.below hW).more hW.size) (fun y hy => ((S75.out.os y hy).below hW).more hW.size) HVO.out HI.out.1)
    have HRR := hide (fun W (hW : Below w81.heap.size w81 W) => rrsvA_any a id W ((S75.out.o.below hW).more hW.size) (fun y hy => ((S75.out.os y hy).below hW).more hW.size) HVO.out)
    obtain ⟨rv, hrv⟩ : ∃ rv, rsvA a.o id = rv := ⟨_, rfl⟩
    rw [hrv] at HRP HRR
    clear hrv
    unfold aqV at HRP HRR
    refine wp_region_grn (by kernel_rfl) (by kernel_rfl) ?_
    repeat (go_big_quiet_step (first
      | (go_at_call 11; exact Calls_grn (HAL.out _ (Grn.h _)))
      | (go_at_call 12; first | with_reducible exact Calls_grn (HSA.out _ (Grn.h _)) | with_reducible exact Calls_grn (HSB.out _ (Grn.h _)))
      | (go_at_call 39; exact Calls_grn (HRP.out _ (Grn.h _)))
      | (go_at_call 40; exact Calls_grn (HRR.out _ (Grn.h _)))))
    refine wpQuiet_nil ?_
    rintro _ ⟨p, rfl⟩
    have BZ := hide (B69.out.trans (p.h.mono B69.out.size))
    go_wp2
    go_ret
    exact ⟨rfl, BZ.out⟩
end Go.Proofs.YtbhndfphegflhaaGreat
