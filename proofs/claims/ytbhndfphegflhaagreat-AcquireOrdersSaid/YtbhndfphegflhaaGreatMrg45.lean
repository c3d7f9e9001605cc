/- Texts laid together by merge.py: AqUB, AqUO. -/
import Derived.Test.YtbhndfphegflhaaGreatMrg42
import Derived.Test.YtbhndfphegflhaaGreatMrg44
import Derived.Test.YtbhndfphegflhaaGreatMrg0
import Derived.Deep.Cut
import Derived.Deep.CutRange
import Derived.Deep.DeepCutAuto
import Derived.Test.YtbhndfphegflhaaGreatMrg43
set_option linter.unusedSimpArgs false
set_option linter.unusedVariables false
/- The law AcquireBills. Printed by gen_aq_ub.py. -/
namespace Go.Proofs.YtbhndfphegflhaaGreat
open Go.RowKit
theorem okA_D {a : Aq} (h : okA (aqP a) = true) : Dif a.f ∧ ∀ o ∈ a.o, o.sh.all (shHas a.f) = true := by
  have hv := (okA_V h).1
  refine ⟨(Tid.of hv.chk).dif, fun o ho => ?_⟩
  unfold okA ok2 at h
  simp only [Bool.and_eq_true] at h
  have h2 := List.all_eq_true.1 h.1.1.1.2.1 o ho
  unfold okO at h2
  rw [Bool.and_eq_true] at h2
  exact h2.2

set_option maxRecDepth 100000 in
set_option maxHeartbeats 4000000 in
theorem acquireBills_any (a : Aq) (b : Bl) (id : Int) (w : World) (ho : AqO w a)  :
    Calls Tryz.prog 5 #[aqV a, blV b, .int .i64 id] w fun e w' => e = .returned (.bool true) ∧ Below w.heap.size w w' := by
  have B0 := hide (((Below.refl w.heap.size w).alloc (Nat.le_refl _) (.cells (aqC a) 27)).alloc (by simp) (.cells (blC b) 43))
  have X0 := hide ((Box.new w 27 (aqC a)).alloc (.cells (blC b) 43))
  have Q0 := hide (Box.new (w.alloc (.cells (aqC a) 27)) 43 (blC b))
  rw [World.size_alloc] at Q0
  have HFIT := hide (fit_any a _ (ho.below B0.out))
  have HO := hide ho
  clear ho
  unfold aqV blV
  unfold aqV at HFIT
  go_enter Tryz.func5, Tryz.ntmps5
  go_wp2_with fail
  refine HFIT.out.mono ?_
  rintro e w1 ⟨q, rfl, hq, hb⟩
  have HQ := hide hq
  have B1 := hide (B0.out.trans (hb.mono B0.out.size))
  have X1 := hide (X0.out.below hb X0.out.lt)
  have Q1 := hide (Q0.out.below hb Q0.out.lt)
  clear hq hb HFIT
  cases q with
  | false =>
    have HAL := hide (aalive_any w1)
    go_wp2_with fail
    refine HAL.out.mono ?_
    rintro e w2 ⟨rfl, hb⟩
    have B2 := hide (B1.out.trans (hb.mono B1.out.size))
    clear hb HAL
    go_wp2
    go_ret
    exact ⟨rfl, B2.out⟩
  | true =>
    obtain ⟨hsm, hok⟩ := HQ.out rfl
    obtain ⟨hvf, hvo, hyr, hnx⟩ := okA_V hok
    obtain ⟨hdf, hhs⟩ := okA_D hok
    have hfn : a.fn ≤ 1000 := by have := hsm.fn; omega
    have hon : a.on ≤ 60 := by have := hsm.on; omega
    have HS1 := hide (((HO.out.st hsm).below B1.out).more B1.out.size)
    have HFM := hide hvf.M
    have HVO := hide hvo
    have HD := hide hdf
    have HH := hide hhs
    have HNX := hide hnx.1
    clear hsm hok hvf hvo hyr hnx hdf hhs HQ
    have t_0 := X1.out.cell 0
    have t_1 := X1.out.cell 1
    have t_2 := X1.out.cell 2
    have t_3 := X1.out.cell 3
    have t_4 := X1.out.cell 4
    have t_5 := X1.out.cell 5
    simp at t_0 t_1 t_2 t_3 t_4 t_5
    have f_0 := Q1.out.cell 0
    have f_1 := Q1.out.cell 1
    have f_2 := Q1.out.cell 2
    have f_3 := Q1.out.cell 3
    have f_4 := Q1.out.cell 4
    simp at f_0 f_1 f_2 f_3 f_4
    have hc := pbil_any a b _ HS1.out hfn HFM.out HVO.out
    obtain ⟨er1, pa1, hr1⟩ : ∃ er pa, bilA (aqP a) b = (er, pa) := ⟨_, _, rfl⟩
    rw [hr1] at hc
    have HR1 := hide hr1
    clear hr1
    unfold aqV blV at hc
    have HC1 := hide hc
    clear hc
    go_wp2_with fail
    clear t_0 t_1 t_2 t_3 t_4 t_5 f_0 f_1 f_2 f_3 f_4
    refine HC1.out.mono ?_
    rintro e w2 ⟨z1, rfl, hz, hp, hb⟩
    have B3 := hide (B1.out.trans (hb.mono B1.out.size))
    have X4 := hide (X1.out.below hb X1.out.lt)
    have X5 := hide (Q1.out.below hb Q1.out.lt)
    have S6 := hide ((HS1.out.below hb).more hb.size)
    have S7 := hide hz
    have P8 := hide hp
    clear hz hp hb HC1 
    unfold aqV
    have t_0 := X4.out.cell 0
    have t_1 := X4.out.cell 1
    have t_2 := X4.out.cell 2
    have t_3 := X4.out.cell 3
    have t_4 := X4.out.cell 4
    have t_5 := X4.out.cell 5
    simp at t_0 t_1 t_2 t_3 t_4 t_5
    have hlt := X4.out.lt
    have tt_0 := fun o => (World.cell?_alloc_lt w2 o ⟨w.heap.size, 0, none⟩ (by exact hlt)).trans t_0
    have tt_1 := fun o => (World.cell?_alloc_lt w2 o ⟨w.heap.size, 1, none⟩ (by exact hlt)).trans t_1
    have tt_2 := fun o => (World.cell?_alloc_lt w2 o ⟨w.heap.size, 2, none⟩ (by exact hlt)).trans t_2
    have tt_3 := fun o => (World.cell?_alloc_lt w2 o ⟨w.heap.size, 3, none⟩ (by exact hlt)).trans t_3
    have tt_4 := fun o => (World.cell?_alloc_lt w2 o ⟨w.heap.size, 4, none⟩ (by exact hlt)).trans t_4
    have tt_5 := fun o => (World.cell?_alloc_lt w2 o ⟨w.heap.size, 5, none⟩ (by exact hlt)).trans t_5
    have f_0 := X5.out.cell 0
    have f_1 := X5.out.cell 1
    have f_2 := X5.out.cell 2
    have f_3 := X5.out.cell 3
    have f_4 := X5.out.cell 4
    simp at f_0 f_1 f_2 f_3 f_4
    have hlf := X5.out.lt
    have ff_0 := fun o => (World.cell?_alloc_lt w2 o ⟨w.heap.size + 1, 0, none⟩ (by exact hlf)).trans f_0
    have ff_1 := fun o => (World.cell?_alloc_lt w2 o ⟨w.heap.size + 1, 1, none⟩ (by exact hlf)).trans f_1
    have ff_2 := fun o => (World.cell?_alloc_lt w2 o ⟨w.heap.size + 1, 2, none⟩ (by exact hlf)).trans f_2
    have ff_3 := fun o => (World.cell?_alloc_lt w2 o ⟨w.heap.size + 1, 3, none⟩ (by exact hlf)).trans f_3
    have ff_4 := fun o => (World.cell?_alloc_lt w2 o ⟨w.heap.size + 1, 4, none⟩ (by exact hlf)).trans f_4
    have B9 := hide (B3.out.alloc B3.out.size (.cells (aqC z1) 27))
    have X10 := hide (X4.out.alloc (.cells (aqC z1) 27))
    have X11 := hide (X5.out.alloc (.cells (aqC z1) 27))
    have S12 := hide ((S6.out.below ((Below.refl w2.heap.size w2).alloc (Nat.le_refl _) (.cells (aqC z1) 27))).more (B' := (w2.alloc (.cells (aqC z1) 27)).heap.size) (by simp))
    have S13 := hide ((S7.out.below ((Below.refl w2.heap.size w2).alloc (Nat.le_refl _) (.cells (aqC z1) 27))).more (B' := (w2.alloc (.cells (aqC z1) 27)).heap.size) (by simp))
    have hlt_X9_A := X4.out.lt
    have hlt_X9_F := X5.out.lt
    have X14 := hide (Box.new w2 27 (aqC z1))
    have hc := rbil_any a b _ S12.out hfn HFM.out HVO.out HD.out HH.out
    rw [HR1.out] at hc
    unfold aqV blV at hc
    have HC15 := hide hc
    clear hc
    go_wp2_with fail
    clear t_0 t_1 t_2 t_3 t_4 t_5 hlt tt_0 tt_1 tt_2 tt_3 tt_4 tt_5 f_0 f_1 f_2 f_3 f_4 hlf ff_0 ff_1 ff_2 ff_3 ff_4
    refine HC15.out.mono ?_
    rintro e w16 ⟨z2, rfl, hz, hp, hb⟩
    have B17 := hide (B9.out.trans (hb.mono B9.out.size))
    have X18 := hide (X10.out.below hb X10.out.lt)
    have X19 := hide (X11.out.below hb X11.out.lt)
    have X20 := hide (X14.out.below hb X14.out.lt)
    have S21 := hide ((S12.out.below hb).more hb.size)
    have S22 := hide ((S13.out.below hb).more hb.size)
    have S23 := hide hz
    have P24 := hide hp
    clear hz hp hb HC15 
    unfold aqV
    have t_0 := X18.out.cell 0
    have t_1 := X18.out.cell 1
    have t_2 := X18.out.cell 2
    have t_3 := X18.out.cell 3
    have t_4 := X18.out.cell 4
    have t_5 := X18.out.cell 5
    simp at t_0 t_1 t_2 t_3 t_4 t_5
    have hlt := X18.out.lt
    have tt_0 := fun o => (World.cell?_alloc_lt w16 o ⟨w.heap.size, 0, none⟩ (by exact hlt)).trans t_0
    have tt_1 := fun o => (World.cell?_alloc_lt w16 o ⟨w.heap.size, 1, none⟩ (by exact hlt)).trans t_1
    have tt_2 := fun o => (World.cell?_alloc_lt w16 o ⟨w.heap.size, 2, none⟩ (by exact hlt)).trans t_2
    have tt_3 := fun o => (World.cell?_alloc_lt w16 o ⟨w.heap.size, 3, none⟩ (by exact hlt)).trans t_3
    have tt_4 := fun o => (World.cell?_alloc_lt w16 o ⟨w.heap.size, 4, none⟩ (by exact hlt)).trans t_4
    have tt_5 := fun o => (World.cell?_alloc_lt w16 o ⟨w.heap.size, 5, none⟩ (by exact hlt)).trans t_5
    have B25 := hide (B17.out.alloc B17.out.size (.cells (aqC z2) 27))
    have X26 := hide (X18.out.alloc (.cells (aqC z2) 27))
    have X27 := hide (X19.out.alloc (.cells (aqC z2) 27))
    have X28 := hide (X20.out.alloc (.cells (aqC z2) 27))
    have S29 := hide ((S21.out.below ((Below.refl w16.heap.size w16).alloc (Nat.le_refl _) (.cells (aqC z2) 27))).more (B' := (w16.alloc (.cells (aqC z2) 27)).heap.size) (by simp))
    have S30 := hide ((S22.out.below ((Below.refl w16.heap.size w16).alloc (Nat.le_refl _) (.cells (aqC z2) 27))).more (B' := (w16.alloc (.cells (aqC z2) 27)).heap.size) (by simp))
    have S31 := hide ((S23.out.below ((Below.refl w16.heap.size w16).alloc (Nat.le_refl _) (.cells (aqC z2) 27))).more (B' := (w16.alloc (.cells (aqC z2) 27)).heap.size) (by simp))
    have hlt_X11_A := X18.out.lt
    have hlt_X11_F := X19.out.lt
    have hlt_X11_X9 := X20.out.lt
    have X32 := hide (Box.new w16 27 (aqC z2))
    have hc := pstp_any a id _ S29.out hfn HFM.out HVO.out
    obtain ⟨er2, pa2, hr2⟩ : ∃ er pa, stpA (aqP a) id = (er, pa) := ⟨_, _, rfl⟩
    rw [hr2] at hc
    have HR2 := hide hr2
    clear hr2
    unfold aqV at hc
    have HC33 := hide hc
    clear hc
    go_wp2_with fail
    clear t_0 t_1 t_2 t_3 t_4 t_5 hlt tt_0 tt_1 tt_2 tt_3 tt_4 tt_5
    refine HC33.out.mono ?_
    rintro e w34 ⟨z3, rfl, hz, hp, hb⟩
    have B35 := hide (B25.out.trans (hb.mono B25.out.size))
    have X36 := hide (X26.out.below hb X26.out.lt)
    have X37 := hide (X27.out.below hb X27.out.lt)
    have X38 := hide (X28.out.below hb X28.out.lt)
    have X39 := hide (X32.out.below hb X32.out.lt)
    have S40 := hide ((S29.out.below hb).more hb.size)
    have S41 := hide ((S30.out.below hb).more hb.size)
    have S42 := hide ((S31.out.below hb).more hb.size)
    have S43 := hide hz
    have P44 := hide hp
    clear hz hp hb HC33 
    unfold aqV
    have t_0 := X36.out.cell 0
    have t_1 := X36.out.cell 1
    have t_2 := X36.out.cell 2
    have t_3 := X36.out.cell 3
    have t_4 := X36.out.cell 4
    have t_5 := X36.out.cell 5
    simp at t_0 t_1 t_2 t_3 t_4 t_5
    have hlt := X36.out.lt
    have tt_0 := fun o => (World.cell?_alloc_lt w34 o ⟨w.heap.size, 0, none⟩ (by exact hlt)).trans t_0
    have tt_1 := fun o => (World.cell?_alloc_lt w34 o ⟨w.heap.size, 1, none⟩ (by exact hlt)).trans t_1
    have tt_2 := fun o => (World.cell?_alloc_lt w34 o ⟨w.heap.size, 2, none⟩ (by exact hlt)).trans t_2
    have tt_3 := fun o => (World.cell?_alloc_lt w34 o ⟨w.heap.size, 3, none⟩ (by exact hlt)).trans t_3
    have tt_4 := fun o => (World.cell?_alloc_lt w34 o ⟨w.heap.size, 4, none⟩ (by exact hlt)).trans t_4
    have tt_5 := fun o => (World.cell?_alloc_lt w34 o ⟨w.heap.size, 5, none⟩ (by exact hlt)).trans t_5
    have B45 := hide (B35.out.alloc B35.out.size (.cells (aqC z3) 27))
    have X46 := hide (X36.out.alloc (.cells (aqC z3) 27))
    have X47 := hide (X37.out.alloc (.cells (aqC z3) 27))
    have X48 := hide (X38.out.alloc (.cells (aqC z3) 27))
    have X49 := hide (X39.out.alloc (.cells (aqC z3) 27))
    have S50 := hide ((S40.out.below ((Below.refl w34.heap.size w34).alloc (Nat.le_refl _) (.cells (aqC z3) 27))).more (B' := (w34.alloc (.cells (aqC z3) 27)).heap.size) (by simp))
    have S51 := hide ((S41.out.below ((Below.refl w34.heap.size w34).alloc (Nat.le_refl _) (.cells (aqC z3) 27))).more (B' := (w34.alloc (.cells (aqC z3) 27)).heap.size) (by simp))
    have S52 := hide ((S42.out.below ((Below.refl w34.heap.size w34).alloc (Nat.le_refl _) (.cells (aqC z3) 27))).more (B' := (w34.alloc (.cells (aqC z3) 27)).heap.size) (by simp))
    have S53 := hide ((S43.out.below ((Below.refl w34.heap.size w34).alloc (Nat.le_refl _) (.cells (aqC z3) 27))).more (B' := (w34.alloc (.cells (aqC z3) 27)).heap.size) (by simp))
    have hlt_X13_A := X36.out.lt
    have hlt_X13_F := X37.out.lt
    have hlt_X13_X9 := X38.out.lt
    have hlt_X13_X11 := X39.out.lt
    have X54 := hide (Box.new w34 27 (aqC z3))
    have hc := rstp_any a id _ S50.out hfn HFM.out HVO.out HD.out HH.out
    rw [HR2.out] at hc
    unfold aqV at hc
    have HC55 := hide hc
    clear hc
    go_wp2_with fail
    clear t_0 t_1 t_2 t_3 t_4 t_5 hlt tt_0 tt_1 tt_2 tt_3 tt_4 tt_5
    refine HC55.out.mono ?_
    rintro e w56 ⟨z4, rfl, hz, hp, hb⟩
    have B57 := hide (B45.out.trans (hb.mono B45.out.size))
    have X58 := hide (X46.out.below hb X46.out.lt)
    have X59 := hide (X47.out.below hb X47.out.lt)
    have X60 := hide (X48.out.below hb X48.out.lt)
    have X61 := hide (X49.out.below hb X49.out.lt)
    have X62 := hide (X54.out.below hb X54.out.lt)
    have S63 := hide ((S50.out.below hb).more hb.size)
    have S64 := hide ((S51.out.below hb).more hb.size)
    have S65 := hide ((S52.out.below hb).more hb.size)
    have S66 := hide ((S53.out.below hb).more hb.size)
    have S67 := hide hz
    have P68 := hide hp
    clear hz hp hb HC55 
    unfold aqV
    have B69 := hide (B57.out.alloc B57.out.size (.cells (aqC z4) 27))
    have X70 := hide (X58.out.alloc (.cells (aqC z4) 27))
    have X71 := hide (X59.out.alloc (.cells (aqC z4) 27))
    have X72 := hide (X60.out.alloc (.cells (aqC z4) 27))
    have X73 := hide (X61.out.alloc (.cells (aqC z4) 27))
    have X74 := hide (X62.out.alloc (.cells (aqC z4) 27))
    have S75 := hide ((S63.out.below ((Below.refl w56.heap.size w56).alloc (Nat.le_refl _) (.cells (aqC z4) 27))).more (B' := (w56.alloc (.cells (aqC z4) 27)).heap.size) (by simp))
    have S76 := hide ((S64.out.below ((Below.refl w56.heap.size w56).alloc (Nat.le_refl _) (.cells (aqC z4) 27))).more (B' := (w56.alloc (.cells (aqC z4) 27)).heap.size) (by simp))
    have S77 := hide ((S65.out.below ((Below.refl w56.heap.size w56).alloc (Nat.le_refl _) (.cells (aqC z4) 27))).more (B' := (w56.alloc (.cells (aqC z4) 27)).heap.size) (by simp))
    have S78 := hide ((S66.out.below ((Below.refl w56.heap.size w56).alloc (Nat.le_refl _) (.cells (aqC z4) 27))).more (B' := (w56.alloc (.cells (aqC z4) 27)).heap.size) (by simp))
    have S79 := hide ((S67.out.below ((Below.refl w56.heap.size w56).alloc (Nat.le_refl _) (.cells (aqC z4) 27))).more (B' := (w56.alloc (.cells (aqC z4) 27)).heap.size) (by simp))
    have hlt_X15_A := X58.out.lt
    have hlt_X15_F := X59.out.lt
    have hlt_X15_X9 := X60.out.lt
    have hlt_X15_X11 := X61.out.lt
    have hlt_X15_X13 := X62.out.lt
    have X80 := hide (Box.new w56 27 (aqC z4))
    go_upto_region 7 with fail
    obtain ⟨w81, hw82⟩ : ∃ W, W = (w56.alloc (.cells (aqC z4) 27)) := ⟨_, rfl⟩
    rw [← hw82] at B69  X70 X71 X72 X73 X74 X80 S75 S76 S77 S78 S79 ⊢
    clear hw82
    have gX9_0 := X72.out.cell 0
    have gX9_1 := X72.out.cell 1
    have gX9_2 := X72.out.cell 2
    have gX9_3 := X72.out.cell 3
    have gX9_4 := X72.out.cell 4
    have gX9_5 := X72.out.cell 5
    simp at gX9_0 gX9_1 gX9_2 gX9_3 gX9_4 gX9_5
    have GgX9_0 := Grn.cell gX9_0
    have GgX9_1 := Grn.cell gX9_1
    have GgX9_2 := Grn.cell gX9_2
    have GgX9_3 := Grn.cell gX9_3
    have GgX9_4 := Grn.cell gX9_4
    have GgX9_5 := Grn.cell gX9_5
    clear gX9_0 gX9_1 gX9_2 gX9_3 gX9_4 gX9_5
    have gX11_0 := X73.out.cell 0
    have gX11_1 := X73.out.cell 1
    have gX11_2 := X73.out.cell 2
    have gX11_3 := X73.out.cell 3
    have gX11_4 := X73.out.cell 4
    have gX11_5 := X73.out.cell 5
    simp at gX11_0 gX11_1 gX11_2 gX11_3 gX11_4 gX11_5
    have GgX11_0 := Grn.cell gX11_0
    have GgX11_1 := Grn.cell gX11_1
    have GgX11_2 := Grn.cell gX11_2
    have GgX11_3 := Grn.cell gX11_3
    have GgX11_4 := Grn.cell gX11_4
    have GgX11_5 := Grn.cell gX11_5
    clear gX11_0 gX11_1 gX11_2 gX11_3 gX11_4 gX11_5
    have gX13_0 := X74.out.cell 0
    have gX13_1 := X74.out.cell 1
    have gX13_2 := X74.out.cell 2
    have gX13_3 := X74.out.cell 3
    have gX13_4 := X74.out.cell 4
    have gX13_5 := X74.out.cell 5
    simp at gX13_0 gX13_1 gX13_2 gX13_3 gX13_4 gX13_5
    have GgX13_0 := Grn.cell gX13_0
    have GgX13_1 := Grn.cell gX13_1
    have GgX13_2 := Grn.cell gX13_2
    have GgX13_3 := Grn.cell gX13_3
    have GgX13_4 := Grn.cell gX13_4
    have GgX13_5 := Grn.cell gX13_5
    clear gX13_0 gX13_1 gX13_2 gX13_3 gX13_4 gX13_5
    have gX15_0 := X80.out.cell 0
    have gX15_1 := X80.out.cell 1
    have gX15_2 := X80.out.cell 2
    have gX15_3 := X80.out.cell 3
    have gX15_4 := X80.out.cell 4
    have gX15_5 := X80.out.cell 5
    simp at gX15_0 gX15_1 gX15_2 gX15_3 gX15_4 gX15_5
    have GgX15_0 := Grn.cell gX15_0
    have GgX15_1 := Grn.cell gX15_1
    have GgX15_2 := Grn.cell gX15_2
    have GgX15_3 := Grn.cell gX15_3
    have GgX15_4 := Grn.cell gX15_4
    have GgX15_5 := Grn.cell gX15_5
    clear gX15_0 gX15_1 gX15_2 gX15_3 gX15_4 gX15_5
    have HSM0 := hide (fun W (hW : Below w81.heap.size w81 W) => same40_any z1 z2 W (AqQ.of (P8.out.trans P24.out.symm)) ((S76.out.below hW).more hW.size) ((S77.out.below hW).more hW.size))
    unfold aqV at HSM0
    have HSM1 := hide (fun W (hW : Below w81.heap.size w81 W) => same40_any z3 z4 W (AqQ.of (P44.out.trans P68.out.symm)) ((S78.out.below hW).more hW.size) ((S79.out.below hW).more hW.size))
    unfold aqV at HSM1
    have HAL := hide (fun W (hW : Below w81.heap.size w81 W) => aalive_any W)
    try simp only [List.append]
    refine wp_plain_grn ?_
    repeat (go_big_quiet_step (first
      | (go_at_call 11; exact Calls_grn (HAL.out _ (Grn.h _)))
      | (go_at_call 12; first | with_reducible exact Calls_grn (HSM0.out _ (Grn.h _)) | with_reducible exact Calls_grn (HSM1.out _ (Grn.h _)))))
    refine wpQuiet_nil ?_
    rintro _ ⟨p, rfl⟩
    have BZ := hide (B69.out.trans (p.h.mono B69.out.size))
    go_wp2
    go_ret
    exact ⟨rfl, BZ.out⟩
end Go.Proofs.YtbhndfphegflhaaGreat

/- The law AcquireOrders. Printed by gen_aq_ub.py. -/
namespace Go.Proofs.YtbhndfphegflhaaGreat
open Go.RowKit
theorem ResB.named {f : FuncId} {args : Array Value} {w : World} {n m er : Int} {pa : Pa} (h : Calls Tryz.prog f args w (ResB w n (er, pa))) (hm : (if er = 0 then n else 0) = m) :
    Calls Tryz.prog f args w (fun e w' => ∃ z : Aq, e = .returned (.tuple #[aqV z, .int .i64 m, .int .i64 er]) ∧ AqS w' w'.heap.size z ∧ aqP z = pa ∧ Below w.heap.size w w') :=
  h.mono (by rintro e w' ⟨z, rfl, h1, h2, h3⟩; exact ⟨z, by simp only [hm], h1, h2, h3⟩)

set_option maxRecDepth 100000 in
set_option maxHeartbeats 4000000 in
theorem acquireOrders_any (a : Aq) (x : Od) (id m : Int) (w : World) (ho : AqO w a) (hx : x.shn ≤ 8 → OdS w w.heap.size x) :
    Calls Tryz.prog 4 #[aqV a, odV x, .int .i64 id, .int .i64 m] w fun e w' => e = .returned (.bool true) ∧ Below w.heap.size w w' := by
  have B0 := hide (((Below.refl w.heap.size w).alloc (Nat.le_refl _) (.cells (aqC a) 27)).alloc (by simp) (.cells (odC x) 35))
  have X0 := hide ((Box.new w 27 (aqC a)).alloc (.cells (odC x) 35))
  have Q0 := hide (Box.new (w.alloc (.cells (aqC a) 27)) 35 (odC x))
  rw [World.size_alloc] at Q0
  have HFIT := hide (fit_any a _ (ho.below B0.out))
  have HO := hide ho
  clear ho
  unfold aqV odV
  unfold aqV at HFIT
  go_enter Tryz.func4, Tryz.ntmps4
  go_wp2_with fail
  refine HFIT.out.mono ?_
  rintro e w1 ⟨q, rfl, hq, hb⟩
  have HQ := hide hq
  have B1 := hide (B0.out.trans (hb.mono B0.out.size))
  have X1 := hide (X0.out.below hb X0.out.lt)
  have Q1 := hide (Q0.out.below hb Q0.out.lt)
  have HX := hide hx
  clear hq hb HFIT hx
  cases q with
  | false =>
    have HAL := hide (aalive_any w1)
    go_wp2_with fail
    refine HAL.out.mono ?_
    rintro e w2 ⟨rfl, hb⟩
    have B2 := hide (B1.out.trans (hb.mono B1.out.size))
    clear hb HAL
    go_wp2
    go_ret
    exact ⟨rfl, B2.out⟩
  | true =>
    have q9 := Q1.out.cell 9
    simp at q9
    by_cases h8 : x.shn ≤ 8
    case neg =>
      have h8z : (8 : Int) < (x.shn : Int) := by omega
      have HAL := hide (aalive_any w1)
      go_wp2_with fail
      refine HAL.out.mono ?_
      rintro e w2 ⟨rfl, hb⟩
      have B2 := hide (B1.out.trans (hb.mono B1.out.size))
      clear hb HAL
      go_wp2
      go_ret
      exact ⟨rfl, B2.out⟩
    have h8z : ¬ (8 : Int) < (x.shn : Int) := by omega
    have HXS := hide (HX.out h8)
    clear h8
    obtain ⟨hsm, hok⟩ := HQ.out rfl
    obtain ⟨hvf, hvo, hyr, hnx⟩ := okA_V hok
    obtain ⟨hdf, hhs⟩ := okA_D hok
    have hfn : a.fn ≤ 1000 := by have := hsm.fn; omega
    have hon : a.on ≤ 60 := by have := hsm.on; omega
    have HS1 := hide (((HO.out.st hsm).below B1.out).more B1.out.size)
    have HFM := hide hvf.M
    have HVO := hide hvo
    have HD := hide hdf
    have HH := hide hhs
    have HNX := hide hnx.1
    clear hsm hok hvf hvo hyr hnx hdf hhs HQ
    have t_0 := X1.out.cell 0
    have t_1 := X1.out.cell 1
    have t_2 := X1.out.cell 2
    have t_3 := X1.out.cell 3
    have t_4 := X1.out.cell 4
    have t_5 := X1.out.cell 5
    simp at t_0 t_1 t_2 t_3 t_4 t_5
    have f_0 := Q1.out.cell 0
    have f_1 := Q1.out.cell 1
    have f_2 := Q1.out.cell 2
    have f_3 := Q1.out.cell 3
    have f_4 := Q1.out.cell 4
    have f_5 := Q1.out.cell 5
    have f_6 := Q1.out.cell 6
    have f_7 := Q1.out.cell 7
    have f_8 := Q1.out.cell 8
    have f_9 := Q1.out.cell 9
    simp at f_0 f_1 f_2 f_3 f_4 f_5 f_6 f_7 f_8 f_9
    have hc := pord_any a x _ HS1.out hfn HFM.out hon ((HXS.out.below B1.out).more B1.out.size) HNX.out
    obtain ⟨er1, pa1, hr1⟩ : ∃ er pa, ordA (aqP a) x = (er, pa) := ⟨_, _, rfl⟩
    obtain ⟨m1, hm1⟩ : ∃ m, (if er1 = 0 then a.nx else 0) = m := ⟨_, rfl⟩
    rw [hr1] at hc
    have HR1 := hide hr1
    have HM1 := hide hm1
    clear hr1 hm1
    replace hc := ResB.named hc HM1.out
    unfold aqV odV at hc
    have HC1 := hide hc
    clear hc
    go_wp2_with fail
    clear q9 h8z t_0 t_1 t_2 t_3 t_4 t_5 f_0 f_1 f_2 f_3 f_4 f_5 f_6 f_7 f_8 f_9
    refine HC1.out.mono ?_
    rintro e w2 ⟨z1, rfl, hz, hp, hb⟩
    have B3 := hide (B1.out.trans (hb.mono B1.out.size))
    have X4 := hide (X1.out.below hb X1.out.lt)
    have X5 := hide (Q1.out.below hb Q1.out.lt)
    have S6 := hide ((HS1.out.below hb).more hb.size)
    have S7 := hide hz
    have P8 := hide hp
    clear hz hp hb HC1 
    try unfold aqV
    have t_0 := X4.out.cell 0
    have t_1 := X4.out.cell 1
    have t_2 := X4.out.cell 2
    have t_3 := X4.out.cell 3
    have t_4 := X4.out.cell 4
    have t_5 := X4.out.cell 5
    simp at t_0 t_1 t_2 t_3 t_4 t_5
    have hlt := X4.out.lt
    have tt_0 := fun o => (World.cell?_alloc_lt w2 o ⟨w.heap.size, 0, none⟩ (by exact hlt)).trans t_0
    have tt_1 := fun o => (World.cell?_alloc_lt w2 o ⟨w.heap.size, 1, none⟩ (by exact hlt)).trans t_1
    have tt_2 := fun o => (World.cell?_alloc_lt w2 o ⟨w.heap.size, 2, none⟩ (by exact hlt)).trans t_2
    have tt_3 := fun o => (World.cell?_alloc_lt w2 o ⟨w.heap.size, 3, none⟩ (by exact hlt)).trans t_3
    have tt_4 := fun o => (World.cell?_alloc_lt w2 o ⟨w.heap.size, 4, none⟩ (by exact hlt)).trans t_4
    have tt_5 := fun o => (World.cell?_alloc_lt w2 o ⟨w.heap.size, 5, none⟩ (by exact hlt)).trans t_5
    have f_0 := X5.out.cell 0
    have f_1 := X5.out.cell 1
    have f_2 := X5.out.cell 2
    have f_3 := X5.out.cell 3
    have f_4 := X5.out.cell 4
    have f_5 := X5.out.cell 5
    have f_6 := X5.out.cell 6
    have f_7 := X5.out.cell 7
    have f_8 := X5.out.cell 8
    have f_9 := X5.out.cell 9
    simp at f_0 f_1 f_2 f_3 f_4 f_5 f_6 f_7 f_8 f_9
    have hlf := X5.out.lt
    have ff_0 := fun o => (World.cell?_alloc_lt w2 o ⟨w.heap.size + 1, 0, none⟩ (by exact hlf)).trans f_0
    have ff_1 := fun o => (World.cell?_alloc_lt w2 o ⟨w.heap.size + 1, 1, none⟩ (by exact hlf)).trans f_1
    have ff_2 := fun o => (World.cell?_alloc_lt w2 o ⟨w.heap.size + 1, 2, none⟩ (by exact hlf)).trans f_2
    have ff_3 := fun o => (World.cell?_alloc_lt w2 o ⟨w.heap.size + 1, 3, none⟩ (by exact hlf)).trans f_3
    have ff_4 := fun o => (World.cell?_alloc_lt w2 o ⟨w.heap.size + 1, 4, none⟩ (by exact hlf)).trans f_4
    have ff_5 := fun o => (World.cell?_alloc_lt w2 o ⟨w.heap.size + 1, 5, none⟩ (by exact hlf)).trans f_5
    have ff_6 := fun o => (World.cell?_alloc_lt w2 o ⟨w.heap.size + 1, 6, none⟩ (by exact hlf)).trans f_6
    have ff_7 := fun o => (World.cell?_alloc_lt w2 o ⟨w.heap.size + 1, 7, none⟩ (by exact hlf)).trans f_7
    have ff_8 := fun o => (World.cell?_alloc_lt w2 o ⟨w.heap.size + 1, 8, none⟩ (by exact hlf)).trans f_8
    have ff_9 := fun o => (World.cell?_alloc_lt w2 o ⟨w.heap.size + 1, 9, none⟩ (by exact hlf)).trans f_9
    have B9 := hide (B3.out.alloc B3.out.size (.cells (aqC z1) 27))
    have X10 := hide (X4.out.alloc (.cells (aqC z1) 27))
    have X11 := hide (X5.out.alloc (.cells (aqC z1) 27))
    have S12 := hide ((S6.out.below ((Below.refl w2.heap.size w2).alloc (Nat.le_refl _) (.cells (aqC z1) 27))).more (B' := (w2.alloc (.cells (aqC z1) 27)).heap.size) (by simp))
    have S13 := hide ((S7.out.below ((Below.refl w2.heap.size w2).alloc (Nat.le_refl _) (.cells (aqC z1) 27))).more (B' := (w2.alloc (.cells (aqC z1) 27)).heap.size) (by simp))
    have hlt_X9_A := X4.out.lt
    have hlt_X9_F := X5.out.lt
    have X14 := hide (Box.new w2 27 (aqC z1))
    have hc := rord_any a x _ S12.out hfn HFM.out hon ((HXS.out.below B9.out).more B9.out.size) HNX.out
    rw [HR1.out] at hc
    replace hc := ResB.named hc HM1.out
    unfold aqV odV at hc
    have HC15 := hide hc
    clear hc
    go_wp2_with fail
    clear t_0 t_1 t_2 t_3 t_4 t_5 hlt tt_0 tt_1 tt_2 tt_3 tt_4 tt_5 f_0 f_1 f_2 f_3 f_4 f_5 f_6 f_7 f_8 f_9 hlf ff_0 ff_1 ff_2 ff_3 ff_4 ff_5 ff_6 ff_7 ff_8 ff_9
    refine HC15.out.mono ?_
    rintro e w16 ⟨z2, rfl, hz, hp, hb⟩
    have B17 := hide (B9.out.trans (hb.mono B9.out.size))
    have X18 := hide (X10.out.below hb X10.out.lt)
    have X19 := hide (X11.out.below hb X11.out.lt)
    have X20 := hide (X14.out.below hb X14.out.lt)
    have S21 := hide ((S12.out.below hb).more hb.size)
    have S22 := hide ((S13.out.below hb).more hb.size)
    have S23 := hide hz
    have P24 := hide hp
    clear hz hp hb HC15 
    try unfold aqV
    have t_0 := X18.out.cell 0
    have t_1 := X18.out.cell 1
    have t_2 := X18.out.cell 2
    have t_3 := X18.out.cell 3
    have t_4 := X18.out.cell 4
    have t_5 := X18.out.cell 5
    simp at t_0 t_1 t_2 t_3 t_4 t_5
    have hlt := X18.out.lt
    have tt_0 := fun o => (World.cell?_alloc_lt w16 o ⟨w.heap.size, 0, none⟩ (by exact hlt)).trans t_0
    have tt_1 := fun o => (World.cell?_alloc_lt w16 o ⟨w.heap.size, 1, none⟩ (by exact hlt)).trans t_1
    have tt_2 := fun o => (World.cell?_alloc_lt w16 o ⟨w.heap.size, 2, none⟩ (by exact hlt)).trans t_2
    have tt_3 := fun o => (World.cell?_alloc_lt w16 o ⟨w.heap.size, 3, none⟩ (by exact hlt)).trans t_3
    have tt_4 := fun o => (World.cell?_alloc_lt w16 o ⟨w.heap.size, 4, none⟩ (by exact hlt)).trans t_4
    have tt_5 := fun o => (World.cell?_alloc_lt w16 o ⟨w.heap.size, 5, none⟩ (by exact hlt)).trans t_5
    have B25 := hide (B17.out.alloc B17.out.size (.cells (aqC z2) 27))
    have X26 := hide (X18.out.alloc (.cells (aqC z2) 27))
    have X27 := hide (X19.out.alloc (.cells (aqC z2) 27))
    have X28 := hide (X20.out.alloc (.cells (aqC z2) 27))
    have S29 := hide ((S21.out.below ((Below.refl w16.heap.size w16).alloc (Nat.le_refl _) (.cells (aqC z2) 27))).more (B' := (w16.alloc (.cells (aqC z2) 27)).heap.size) (by simp))
    have S30 := hide ((S22.out.below ((Below.refl w16.heap.size w16).alloc (Nat.le_refl _) (.cells (aqC z2) 27))).more (B' := (w16.alloc (.cells (aqC z2) 27)).heap.size) (by simp))
    have S31 := hide ((S23.out.below ((Below.refl w16.heap.size w16).alloc (Nat.le_refl _) (.cells (aqC z2) 27))).more (B' := (w16.alloc (.cells (aqC z2) 27)).heap.size) (by simp))
    have hlt_X12_A := X18.out.lt
    have hlt_X12_F := X19.out.lt
    have hlt_X12_X9 := X20.out.lt
    have X32 := hide (Box.new w16 27 (aqC z2))
    have hc := prcvA_any a id m _ S29.out HVO.out
    obtain ⟨er2, pa2, hr2⟩ : ∃ er pa, rcvA (aqP a) id m = (er, pa) := ⟨_, _, rfl⟩
    rw [hr2] at hc
    have HR2 := hide hr2
    clear hr2
    unfold aqV at hc
    have HC33 := hide hc
    clear hc
    go_wp2_with fail
    clear t_0 t_1 t_2 t_3 t_4 t_5 hlt tt_0 tt_1 tt_2 tt_3 tt_4 tt_5
    refine HC33.out.mono ?_
    rintro e w34 ⟨z3, rfl, hz, hp, hb⟩
    have B35 := hide (B25.out.trans (hb.mono B25.out.size))
    have X36 := hide (X26.out.below hb X26.out.lt)
    have X37 := hide (X27.out.below hb X27.out.lt)
    have X38 := hide (X28.out.below hb X28.out.lt)
    have X39 := hide (X32.out.below hb X32.out.lt)
    have S40 := hide ((S29.out.below hb).more hb.size)
    have S41 := hide ((S30.out.below hb).more hb.size)
    have S42 := hide ((S31.out.below hb).more hb.size)
    have S43 := hide hz
    have P44 := hide hp
    clear hz hp hb HC33 
    try unfold aqV
    have t_0 := X36.out.cell 0
    have t_1 := X36.out.cell 1
    have t_2 := X36.out.cell 2
    have t_3 := X36.out.cell 3
    have t_4 := X36.out.cell 4
    have t_5 := X36.out.cell 5
    simp at t_0 t_1 t_2 t_3 t_4 t_5
    have hlt := X36.out.lt
    have tt_0 := fun o => (World.cell?_alloc_lt w34 o ⟨w.heap.size, 0, none⟩ (by exact hlt)).trans t_0
    have tt_1 := fun o => (World.cell?_alloc_lt w34 o ⟨w.heap.size, 1, none⟩ (by exact hlt)).trans t_1
    have tt_2 := fun o => (World.cell?_alloc_lt w34 o ⟨w.heap.size, 2, none⟩ (by exact hlt)).trans t_2
    have tt_3 := fun o => (World.cell?_alloc_lt w34 o ⟨w.heap.size, 3, none⟩ (by exact hlt)).trans t_3
    have tt_4 := fun o => (World.cell?_alloc_lt w34 o ⟨w.heap.size, 4, none⟩ (by exact hlt)).trans t_4
    have tt_5 := fun o => (World.cell?_alloc_lt w34 o ⟨w.heap.size, 5, none⟩ (by exact hlt)).trans t_5
    have B45 := hide (B35.out.alloc B35.out.size (.cells (aqC z3) 27))
    have X46 := hide (X36.out.alloc (.cells (aqC z3) 27))
    have X47 := hide (X37.out.alloc (.cells (aqC z3) 27))
    have X48 := hide (X38.out.alloc (.cells (aqC z3) 27))
    have X49 := hide (X39.out.alloc (.cells (aqC z3) 27))
    have S50 := hide ((S40.out.below ((Below.refl w34.heap.size w34).alloc (Nat.le_refl _) (.cells (aqC z3) 27))).more (B' := (w34.alloc (.cells (aqC z3) 27)).heap.size) (by simp))
    have S51 := hide ((S41.out.below ((Below.refl w34.heap.size w34).alloc (Nat.le_refl _) (.cells (aqC z3) 27))).more (B' := (w34.alloc (.cells (aqC z3) 27)).heap.size) (by simp))
    have S52 := hide ((S42.out.below ((Below.refl w34.heap.size w34).alloc (Nat.le_refl _) (.cells (aqC z3) 27))).more (B' := (w34.alloc (.cells (aqC z3) 27)).heap.size) (by simp))
    have S53 := hide ((S43.out.below ((Below.refl w34.heap.size w34).alloc (Nat.le_refl _) (.cells (aqC z3) 27))).more (B' := (w34.alloc (.cells (aqC z3) 27)).heap.size) (by simp))
    have hlt_X15_A := X36.out.lt
    have hlt_X15_F := X37.out.lt
    have hlt_X15_X9 := X38.out.lt
    have hlt_X15_X12 := X39.out.lt
    have X54 := hide (Box.new w34 27 (aqC z3))
    have hc := rrcvA_any a id m _ S50.out HVO.out
    rw [HR2.out] at hc
    unfold aqV at hc
    have HC55 := hide hc
    clear hc
    go_wp2_with fail
    clear t_0 t_1 t_2 t_3 t_4 t_5 hlt tt_0 tt_1 tt_2 tt_3 tt_4 tt_5
    refine HC55.out.mono ?_
    rintro e w56 ⟨z4, rfl, hz, hp, hb⟩
    have B57 := hide (B45.out.trans (hb.mono B45.out.size))
    have X58 := hide (X46.out.below hb X46.out.lt)
    have X59 := hide (X47.out.below hb X47.out.lt)
    have X60 := hide (X48.out.below hb X48.out.lt)
    have X61 := hide (X49.out.below hb X49.out.lt)
    have X62 := hide (X54.out.below hb X54.out.lt)
    have S63 := hide ((S50.out.below hb).more hb.size)
    have S64 := hide ((S51.out.below hb).more hb.size)
    have S65 := hide ((S52.out.below hb).more hb.size)
    have S66 := hide ((S53.out.below hb).more hb.size)
    have S67 := hide hz
    have P68 := hide hp
    clear hz hp hb HC55 
    try unfold aqV
    have B69 := hide (B57.out.alloc B57.out.size (.cells (aqC z4) 27))
    have X70 := hide (X58.out.alloc (.cells (aqC z4) 27))
    have X71 := hide (X59.out.alloc (.cells (aqC z4) 27))
    have X72 := hide (X60.out.alloc (.cells (aqC z4) 27))
    have X73 := hide (X61.out.alloc (.cells (aqC z4) 27))
    have X74 := hide (X62.out.alloc (.cells (aqC z4) 27))
    have S75 := hide ((S63.out.below ((Below.refl w56.heap.size w56).alloc (Nat.le_refl _) (.cells (aqC z4) 27))).more (B' := (w56.alloc (.cells (aqC z4) 27)).heap.size) (by simp))
    have S76 := hide ((S64.out.below ((Below.refl w56.heap.size w56).alloc (Nat.le_refl _) (.cells (aqC z4) 27))).more (B' := (w56.alloc (.cells (aqC z4) 27)).heap.size) (by simp))
    have S77 := hide ((S65.out.below ((Below.refl w56.heap.size w56).alloc (Nat.le_refl _) (.cells (aqC z4) 27))).more (B' := (w56.alloc (.cells (aqC z4) 27)).heap.size) (by simp))
    have S78 := hide ((S66.out.below ((Below.refl w56.heap.size w56).alloc (Nat.le_refl _) (.cells (aqC z4) 27))).more (B' := (w56.alloc (.cells (aqC z4) 27)).heap.size) (by simp))
    have S79 := hide ((S67.out.below ((Below.refl w56.heap.size w56).alloc (Nat.le_refl _) (.cells (aqC z4) 27))).more (B' := (w56.alloc (.cells (aqC z4) 27)).heap.size) (by simp))
    have hlt_X17_A := X58.out.lt
    have hlt_X17_F := X59.out.lt
    have hlt_X17_X9 := X60.out.lt
    have hlt_X17_X12 := X61.out.lt
    have hlt_X17_X15 := X62.out.lt
    have X80 := hide (Box.new w56 27 (aqC z4))
    go_upto_region 7 with fail
    obtain ⟨w81, hw82⟩ : ∃ W, W = (w56.alloc (.cells (aqC z4) 27)) := ⟨_, rfl⟩
    rw [← hw82] at B69  X70 X71 X72 X73 X74 X80 S75 S76 S77 S78 S79 ⊢
    clear hw82
    have gX9_0 := X72.out.cell 0
    have gX9_1 := X72.out.cell 1
    have gX9_2 := X72.out.cell 2
    have gX9_3 := X72.out.cell 3
    have gX9_4 := X72.out.cell 4
    have gX9_5 := X72.out.cell 5
    simp at gX9_0 gX9_1 gX9_2 gX9_3 gX9_4 gX9_5
    have GgX9_0 := Grn.cell gX9_0
    have GgX9_1 := Grn.cell gX9_1
    have GgX9_2 := Grn.cell gX9_2
    have GgX9_3 := Grn.cell gX9_3
    have GgX9_4 := Grn.cell gX9_4
    have GgX9_5 := Grn.cell gX9_5
    clear gX9_0 gX9_1 gX9_2 gX9_3 gX9_4 gX9_5
    have gX12_0 := X73.out.cell 0
    have gX12_1 := X73.out.cell 1
    have gX12_2 := X73.out.cell 2
    have gX12_3 := X73.out.cell 3
    have gX12_4 := X73.out.cell 4
    have gX12_5 := X73.out.cell 5
    simp at gX12_0 gX12_1 gX12_2 gX12_3 gX12_4 gX12_5
    have GgX12_0 := Grn.cell gX12_0
    have GgX12_1 := Grn.cell gX12_1
    have GgX12_2 := Grn.cell gX12_2
    have GgX12_3 := Grn.cell gX12_3
    have GgX12_4 := Grn.cell gX12_4
    have GgX12_5 := Grn.cell gX12_5
    clear gX12_0 gX12_1 gX12_2 gX12_3 gX12_4 gX12_5
    have gX15_0 := X74.out.cell 0
    have gX15_1 := X74.out.cell 1
    have gX15_2 := X74.out.cell 2
    have gX15_3 := X74.out.cell 3
    have gX15_4 := X74.out.cell 4
    have gX15_5 := X74.out.cell 5
    simp at gX15_0 gX15_1 gX15_2 gX15_3 gX15_4 gX15_5
    have GgX15_0 := Grn.cell gX15_0
    have GgX15_1 := Grn.cell gX15_1
    have GgX15_2 := Grn.cell gX15_2
    have GgX15_3 := Grn.cell gX15_3
    have GgX15_4 := Grn.cell gX15_4
    have GgX15_5 := Grn.cell gX15_5
    clear gX15_0 gX15_1 gX15_2 gX15_3 gX15_4 gX15_5
    have gX17_0 := X80.out.cell 0
    have gX17_1 := X80.out.cell 1
    have gX17_2 := X80.out.cell 2
    have gX17_3 := X80.out.cell 3
    have gX17_4 := X80.out.cell 4
    have gX17_5 := X80.out.cell 5
    simp at gX17_0 gX17_1 gX17_2 gX17_3 gX17_4 gX17_5
    have GgX17_0 := Grn.cell gX17_0
    have GgX17_1 := Grn.cell gX17_1
    have GgX17_2 := Grn.cell gX17_2
    have GgX17_3 := Grn.cell gX17_3
    have GgX17_4 := Grn.cell gX17_4
    have GgX17_5 := Grn.cell gX17_5
    clear gX17_0 gX17_1 gX17_2 gX17_3 gX17_4 gX17_5
    have HSM0 := hide (fun W (hW : Below w81.heap.size w81 W) => same40_any z1 z2 W (AqQ.of (P8.out.trans P24.out.symm)) ((S76.out.below hW).more hW.size) ((S77.out.below hW).more hW.size))
    unfold aqV at HSM0
    have HSM1 := hide (fun W (hW : Below w81.heap.size w81 W) => same40_any z3 z4 W (AqQ.of (P44.out.trans P68.out.symm)) ((S78.out.below hW).more hW.size) ((S79.out.below hW).more hW.size))
    unfold aqV at HSM1
    have HAL := hide (fun W (hW : Below w81.heap.size w81 W) => aalive_any W)
    try simp only [List.append]
    refine wp_plain_grn ?_
    repeat (go_big_quiet_step (first
      | (go_at_call 11; exact Calls_grn (HAL.out _ (Grn.h _)))
      | (go_at_call 12; first | with_reducible exact Calls_grn (HSM0.out _ (Grn.h _)) | with_reducible exact Calls_grn (HSM1.out _ (Grn.h _)))))
    refine wpQuiet_nil ?_
    rintro _ ⟨p, rfl⟩
    have BZ := hide (B69.out.trans (p.h.mono B69.out.size))
    go_wp2
    go_ret
    exact ⟨rfl, BZ.out⟩
end Go.Proofs.YtbhndfphegflhaaGreat
