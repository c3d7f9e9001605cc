/- Walks: symMergeCmpFunc where one element stands on the left. Printed by gen_ho_mgs.py. -/
import Derived.Test.YtgjhjabnnhhkbaaHoMgR
import Derived.Test.YtgjhjabnnhhkbaaHoMgP
namespace Go.Proofs.Ytgjhjabnnhhkbaa
open Go.RowKit

def PdR (x : Ho) : Prop := 0 ≤ x.rnk ∧ x.rnk ≤ 9
theorem set_self {S : List Ho} {i : Nat} {x : Ho} (h : S[i]? = some x) : S.set i x = S := by
  obtain ⟨hi, rfl⟩ := List.getElem?_eq_some_iff.1 h
  exact List.set_getElem_self hi
theorem slidP_swapR {Pre P : List Ho} {x : Ho} {R : List Ho} {j J : Nat} (h : j + 1 ≤ P.length) (hJ : J = Pre.length + j) : ((Pre ++ slidh P x R j).set J (P.getD j ho0)).set (J + 1) x = Pre ++ slidh P x R (j + 1) := by
  rw [pre_set hJ, pre_set (j := j + 1) (by omega), ← slidh_swap h]
  have e1 := slidh_at (P := P) (x := x) (R := R) (j := j + 1) h
  have e2 := slidh_prev (P := P) (x := x) (R := R) (j := j) h
  generalize slidh P x R (j + 1) = S at e1 e2 ⊢
  generalize P.getD j ho0 = v at e2 ⊢
  rw [List.set_set, List.set_comm _ _ (show j ≠ j + 1 by omega), List.set_set, set_self e1, set_self e2]
theorem slidP_next {Pre P : List Ho} {x : Ho} {R : List Ho} {j J : Nat} (h : j + 1 ≤ P.length) (hJ : J = Pre.length + j) : (Pre ++ slidh P x R j)[J + 1]? = some (P.getD j ho0) := by
  rw [pre_at (j := j + 1) (by omega)]
  have h2 := slidh_swap (P := P) (x := x) (R := R) h
  have hl := slidh_len (P := P) (x := x) (R := R) (j := j + 1) (by omega)
  rw [← h2, List.getElem?_set, if_neg (by omega), List.getElem?_set, if_pos rfl, if_pos (by omega)]
/-- Where one element is put between two parts of a falling list. -/
theorem put_std {R : List Ho} {x : Ho} {s : Nat} (hR : Std R) (h1 : ∀ q y, q < s → R[q]? = some y → x.rnk ≤ y.rnk) (h2 : ∀ q y, s ≤ q → R[q]? = some y → y.rnk ≤ x.rnk) : Std (R.take s ++ x :: R.drop s) := by
  have hP : Std (R.take s ++ R.drop s) := by rw [List.take_append_drop]; exact hR
  refine hP.left.app (List.pairwise_cons.2 ⟨fun y hy => ?_, hP.right⟩) ?_
  · obtain ⟨i, hi⟩ := List.mem_iff_getElem?.1 hy
    rw [List.getElem?_drop] at hi
    exact h2 _ y (by omega) hi
  · intro u hu v hv
    rcases List.mem_cons.1 hv with rfl | hv
    · obtain ⟨i, hi⟩ := List.mem_iff_getElem?.1 hu
      rw [List.getElem?_take] at hi
      split at hi
      · exact h1 i u (by assumption) hi
      · cases hi
    · exact hP.mid u hu v hv
theorem put_eqvL {R : List Ho} {x : Ho} {s : Nat} (h1 : ∀ q y, q < s → R[q]? = some y → x.rnk < y.rnk) : Eqv (R.take s ++ x :: R.drop s) ([x] ++ R) := by
  have e : [x] ++ R = ([x] ++ R.take s) ++ R.drop s := by rw [List.append_assoc, List.take_append_drop]
  have e2 : R.take s ++ x :: R.drop s = (R.take s ++ [x]) ++ R.drop s := by simp
  rw [e, e2]
  refine Eqv.app (Eqv.symm (Eqv.swap ?_)) (Eqv.refl _)
  intro u hu v hv
  rw [List.mem_singleton.1 hu]
  obtain ⟨i, hi⟩ := List.mem_iff_getElem?.1 hv
  rw [List.getElem?_take] at hi
  split at hi
  · exact h1 i v (by assumption) hi
  · cases hi
theorem put_eqvR {L : List Ho} {x : Ho} {s : Nat} (h2 : ∀ q y, s ≤ q → L[q]? = some y → y.rnk < x.rnk) : Eqv (L.take s ++ x :: L.drop s) (L ++ [x]) := by
  have e : L ++ [x] = L.take s ++ (L.drop s ++ [x]) := by rw [← List.append_assoc, List.take_append_drop]
  have e2 : L.take s ++ x :: L.drop s = L.take s ++ ([x] ++ L.drop s) := by simp
  rw [e, e2]
  refine Eqv.app (Eqv.refl _) (Eqv.symm (Eqv.swap ?_))
  intro u hu v hv
  rw [List.mem_singleton.1 hv]
  obtain ⟨i, hi⟩ := List.mem_iff_getElem?.1 hu
  rw [List.getElem?_drop] at hi
  exact h2 _ u (by omega) hi

set_option maxRecDepth 100000 in
set_option maxHeartbeats 8000000 in
theorem symA_any (f : Nat) (cb : Array Value) (tl : List Value) (g cap N a m b : Nat) (P R Q : List Ho) (x0 : Ho) (w0 w : World) (eg : ∀ args w, (callFunc f args).run Try.prog w = .ok (.enter f args) w) (hcmp : Cmph f cb cfQ PdR g w0)
    (hs : SWh w0 g tl (P ++ ([x0] ++ (R ++ Q))) w) (hd : ∀ y ∈ x0 :: R, PdR y) (hN : (P ++ ([x0] ++ (R ++ Q))).length = N) (ha : P.length = a) (hm : a + 1 = m) (hb : m + R.length = b) (hR : Std R) (hcap : N ≤ cap) (hn : N ≤ 1000) :
    Calls Try.prog 63 #[.slice (some ⟨g, 0, none⟩) N cap, .int .i64 a, .int .i64 m, .int .i64 b, .func (.func f) #[] cb] w fun e w' => e = .returned (.tuple #[]) ∧ ∃ M, Std M ∧ Eqv M ([x0] ++ R) ∧ SWh w0 g tl (P ++ (M ++ Q)) w' := by
  have hN' : a + 1 + R.length + Q.length = N := by rw [← hN, ← ha]; simp; omega
  have hX : (P ++ ([x0] ++ (R ++ Q)))[a]? = some x0 := by rw [List.getElem?_append_right (by omega), ha]; simp
  have hRa : ∀ q y, R[q]? = some y → (P ++ ([x0] ++ (R ++ Q)))[m + q]? = some y := by
    intro q y hq
    have := (List.getElem?_eq_some_iff.1 hq).1
    rw [List.getElem?_append_right (by omega), List.getElem?_append_right (by simp; omega), List.getElem?_append_left (by simp; omega), ← hq]
    congr 1; simp; omega
  have h00 : P ++ ([x0] ++ (R ++ Q)) = P ++ slidh R x0 Q 0 := by unfold slidh; simp
  rw [h00] at hs hX hRa
  have e0 : (m : Int) - (a : Int) = 1 := by omega
  have hbN : b ≤ N := by omega
  have haN : a < N := by omega
  have haC : a < cap := by omega
  have hmb : m ≤ b := by omega
  have HS := hide hs
  have HX := hide hX
  have HRA := hide hRa
  have HC := hide hcmp
  have HD := hide hd
  have HNN := hide hN'
  have HA := hide ha
  have HM := hide hm
  have HB := hide hb
  have HR := hide hR
  clear hs hX hRa hcmp hd hN' ha hm hb hR hN h00
  go_enter Try.func63, Try.ntmps63
  go_wp2
  go_loopw [10, 11] (fun u v wr => ∃ s t I J : Nat, (I = m + s ∧ J = m + t) ∧ u = .int .i64 I ∧ v = .int .i64 J ∧ s ≤ t ∧ t ≤ R.length ∧ (∀ q y, q < s → R[q]? = some y → x0.rnk < y.rnk) ∧ (∀ q y, t ≤ q → R[q]? = some y → y.rnk ≤ x0.rnk) ∧ SWh w0 g tl (P ++ slidh R x0 Q 0) wr) (fun u v _ => (intOf v).toNat - (intOf u).toNat)
  case atStart => exact ⟨0, R.length, m, b, ⟨rfl, HB.out.symm⟩, rfl, rfl, Nat.zero_le _, Nat.le_refl _, (fun q y h => by omega), (fun q y h h2 => by have := (List.getElem?_eq_some_iff.1 h2).1; omega), HS.out⟩
  case round =>
    obtain ⟨s, t, I, J, hIJ, rfl, rfl, hst, htR, hlo, hhi, hsw⟩ := hrel
    have HIJ := hide hIJ
    have HW := hide hsw
    have HLO := hide hlo
    have HHI := hide hhi
    have hIN : (I : Int) ≤ 1000 := by have := HB.out; omega
    have hJN : (J : Int) ≤ 1000 := by have := HB.out; omega
    clear hIJ hsw hlo hhi HS
    by_cases hlt : s < t
    · have hltz : (I : Int) < (J : Int) := by have := HIJ.out; omega
      obtain ⟨H, hH⟩ : ∃ H, (I + J) / 2 = H := ⟨_, rfl⟩
      have eH : ((I : Int) + (J : Int)) / 2 = (H : Int) := by omega
      have wH : IntKind.i64.wrap (H : Int) = (H : Int) := by rw [IntKind.wrap_i64]; omega
      obtain ⟨c, hc⟩ : ∃ c, H = m + c := ⟨H - m, by have := HIJ.out; omega⟩
      have hsc : s ≤ c := by have := HIJ.out; omega
      have hct : c < t := by have := HIJ.out; omega
      have hHN : H < N := by have := HB.out; omega
      have hHC : H < cap := by omega
      have hHz : (H : Int) + 1 ≤ 1000 := by omega
      obtain ⟨y, hy⟩ : ∃ y, R[c]? = some y := ⟨_, List.getElem?_eq_getElem (by omega)⟩
      have hyD := HRA.out c y hy
      rw [← hc] at hyD
      have HMX := hide (show y ∈ x0 :: R from List.mem_cons_of_mem _ (List.mem_of_getElem? hy))
      have HMY := hide (show x0 ∈ x0 :: R from List.mem_cons_self)
      have hxD := HX.out
      have HY := hide hy
      have HCC := hide hc
      have HH := hide hH
      obtain ⟨o, ho⟩ : ∃ o, H * 11 = o := ⟨_, rfl⟩
      obtain ⟨o', ho'⟩ : ∃ o', a * 11 = o' := ⟨_, rfl⟩
      obtain ⟨l0, l1, l2, l3, l4, l5, l6, l7, l8, l9, l10⟩ := HW.out.at1 ho hyD
      obtain ⟨m0, m1, m2, m3, m4, m5, m6, m7, m8, m9, m10⟩ := HW.out.at1 ho' hxD
      have hcall := fun W hW => HC.out W y x0 (HD.out y HMX.out) (HD.out x0 HMY.out) hW
      have HCA := hide hcall
      unfold hoV at HCA
      clear hcall
      clear hyD hxD hy hc hH
      by_cases hv : x0.rnk < y.rnk
      · have hvd : decide (cfQ y x0 < 0) = true := by unfold cfQ; simp; omega
        have HV := hide hv
        clear hv
        have f0 := Grn.cell l0
        have k0 := Grn.cell m0
        have f1 := Grn.cell l1
        have k1 := Grn.cell m1
        have f2 := Grn.cell l2
        have k2 := Grn.cell m2
        have f3 := Grn.cell l3
        have k3 := Grn.cell m3
        have f4 := Grn.cell l4
        have k4 := Grn.cell m4
        have f5 := Grn.cell l5
        have k5 := Grn.cell m5
        have f6 := Grn.cell l6
        have k6 := Grn.cell m6
        have f7 := Grn.cell l7
        have k7 := Grn.cell m7
        have f8 := Grn.cell l8
        have k8 := Grn.cell m8
        have f9 := Grn.cell l9
        have k9 := Grn.cell m9
        have f10 := Grn.cell l10
        have k10 := Grn.cell m10
        go_wp2_with fail
        refine wp_region_grn (by kernel_rfl) (by kernel_rfl) ?_
        repeat (go_big_quiet_step ((go_at_fn f; exact Calls_grn (HCA.out _ (HW.out.below (Grn.h _)).old (HW.out.below (Grn.h _)).box.lt))))
        refine wpQuiet_nil ?_
        rintro _ ⟨p, rfl⟩
        obtain ⟨w2, hw2⟩ : ∃ w2, w2 = p.W := ⟨_, rfl⟩
        have S2 : SWh w0 g tl (P ++ slidh R x0 Q 0) w2 := by rw [hw2]; exact HW.out.below p.h
        rw [← hw2]
        have HS2 := hide S2
        clear hw2 S2 HCA HW l0 l1 l2 l3 l4 l5 l6 l7 l8 l9 l10 m0 m1 m2 m3 m4 m5 m6 m7 m8 m9 m10 f0 f1 f2 f3 f4 f5 f6 f7 f8 f9 f10 k0 k1 k2 k3 k4 k5 k6 k7 k8 k9 k10
        go_wp2
        go_roundw
        case rel =>
          refine ⟨c + 1, t, H + 1, J, ⟨by have := HCC.out; omega, HIJ.out.2⟩, by go_num, rfl, by omega, htR, fun q z hq hz => ?_, HHI.out, HS2.out⟩
          have := HR.out.get (show q ≤ c by omega) hz HY.out
          have := HV.out
          omega
        case measure => have := HCC.out; have := HIJ.out; have e : IntKind.i64.wrap ((H : Int) + 1) = (H : Int) + 1 := (by rw [IntKind.wrap_i64]; omega); simp [intOf, e]; omega
      · have hvd : decide (cfQ y x0 < 0) = false := by unfold cfQ; simp; omega
        have HV := hide hv
        clear hv
        have f0 := Grn.cell l0
        have k0 := Grn.cell m0
        have f1 := Grn.cell l1
        have k1 := Grn.cell m1
        have f2 := Grn.cell l2
        have k2 := Grn.cell m2
        have f3 := Grn.cell l3
        have k3 := Grn.cell m3
        have f4 := Grn.cell l4
        have k4 := Grn.cell m4
        have f5 := Grn.cell l5
        have k5 := Grn.cell m5
        have f6 := Grn.cell l6
        have k6 := Grn.cell m6
        have f7 := Grn.cell l7
        have k7 := Grn.cell m7
        have f8 := Grn.cell l8
        have k8 := Grn.cell m8
        have f9 := Grn.cell l9
        have k9 := Grn.cell m9
        have f10 := Grn.cell l10
        have k10 := Grn.cell m10
        go_wp2_with fail
        refine wp_region_grn (by kernel_rfl) (by kernel_rfl) ?_
        repeat (go_big_quiet_step ((go_at_fn f; exact Calls_grn (HCA.out _ (HW.out.below (Grn.h _)).old (HW.out.below (Grn.h _)).box.lt))))
        refine wpQuiet_nil ?_
        rintro _ ⟨p, rfl⟩
        obtain ⟨w2, hw2⟩ : ∃ w2, w2 = p.W := ⟨_, rfl⟩
        have S2 : SWh w0 g tl (P ++ slidh R x0 Q 0) w2 := by rw [hw2]; exact HW.out.below p.h
        rw [← hw2]
        have HS2 := hide S2
        clear hw2 S2 HCA HW l0 l1 l2 l3 l4 l5 l6 l7 l8 l9 l10 m0 m1 m2 m3 m4 m5 m6 m7 m8 m9 m10 f0 f1 f2 f3 f4 f5 f6 f7 f8 f9 f10 k0 k1 k2 k3 k4 k5 k6 k7 k8 k9 k10
        go_wp2
        go_roundw
        case rel =>
          refine ⟨s, c, I, H, ⟨HIJ.out.1, HCC.out⟩, rfl, rfl, by omega, by omega, HLO.out, fun q z hq hz => ?_, HS2.out⟩
          have := HR.out.get hq HY.out hz
          have := HV.out
          omega
        case measure => have := HCC.out; have := HIJ.out; simp [intOf]; omega
    · have hltz : ¬ (I : Int) < (J : Int) := by have := HIJ.out; omega
      obtain rfl : s = t := by omega
      obtain ⟨I1, hI1⟩ : ∃ I1, I1 = a + s := ⟨_, rfl⟩
      have eI : (I : Int) - 1 = (I1 : Int) := by have := HIJ.out; have := HM.out; omega
      have wI : IntKind.i64.wrap (I1 : Int) = (I1 : Int) := by rw [IntKind.wrap_i64]; omega
      have HI1 := hide hI1
      clear hI1
      go_wp2
      go_loopw [13] (fun u wr => ∃ j K : Nat, K = a + j ∧ u = .int .i64 K ∧ j ≤ s ∧ SWh w0 g tl (P ++ slidh R x0 Q j) wr) (fun u _ => I1 - (intOf u).toNat)
      case atStart => exact ⟨0, a, rfl, rfl, Nat.zero_le _, HW.out⟩
      case round =>
        obtain ⟨j, K, hK, rfl, hjs, hsw⟩ := hrel
        have HW2 := hide hsw
        have HK := hide hK
        clear hsw hK HW
        have hKN : K < N := by have := HB.out; have := HM.out; have := HK.out; have := HNN.out; omega
        have hKC : K < cap := by omega
        by_cases hjs2 : j < s
        · have hkz : (K : Int) < (I1 : Int) := by have := HI1.out; have := HK.out; omega
          have e1 : IntKind.i64.wrap ((K : Int) + 1) = (K : Int) + 1 := by rw [IntKind.wrap_i64]; omega
          have e2 : ((K : Int) + 1).toNat = K + 1 := by omega
          have e3 : (0 : Int) ≤ (K : Int) + 1 := by omega
          have hK2 : K + 1 < N := by have := HB.out; have := HM.out; have := HK.out; have := HNN.out; omega
          have e5 : (K : Int) + 1 < (N : Int) := by omega
          have hKP : K = P.length + j := by rw [HA.out]; exact HK.out
          obtain ⟨y, hy⟩ : ∃ y, y = R.getD j ho0 := ⟨_, rfl⟩
          have hxq := slidP_at (Pre := P) (P := R) (x := x0) (R := Q) (j := j) (by omega) hKP
          have hyq := slidP_next (Pre := P) (P := R) (x := x0) (R := Q) (j := j) (by omega) hKP
          rw [← hy] at hyq
          obtain ⟨o, ho⟩ : ∃ o, K * 11 = o := ⟨_, rfl⟩
          have ho1 : (K + 1) * 11 = o + 11 := by omega
          obtain ⟨l0, l1, l2, l3, l4, l5, l6, l7, l8, l9, l10, l11, l12, l13, l14, l15, l16, l17, l18, l19, l20, l21⟩ := HW2.out.two ho hxq hyq
          have mf := fun j => HW2.out.box.frz j
          have hLn : (P ++ slidh R x0 Q j).length = N := by rw [List.length_append, slidh_len (by omega)]; have := HA.out; have := HNN.out; omega
          have S3 := (HW2.out.set (j := K) (by omega) y).set (j := K + 1) (by rw [List.length_set]; omega) x0
          rw [hy, slidP_swapR (by omega) hKP, ← hy, ho, ho1] at S3
          have HS3 := hide S3
          have HY := hide hy
          clear S3 hy hxq hyq hLn hKP HW2
          go_wp2_with fail
          go_big_region
          clear mf l0 l1 l2 l3 l4 l5 l6 l7 l8 l9 l10 l11 l12 l13 l14 l15 l16 l17 l18 l19 l20 l21
          go_wp2
          go_roundw
          case rel => exact ⟨j + 1, K + 1, by have := HK.out; omega, by go_num, by omega, HS3.out.drew⟩
          case measure => simp [intOf, e1]; omega
        · have hkz : ¬ (K : Int) < (I1 : Int) := by have := HI1.out; have := HK.out; omega
          obtain rfl : j = s := by omega
          go_wp2
          (try simp only [Exit.inBlock, Exit.then])
          refine bodyPost_ret (results_none rfl _ _ _) rfl ?_
          refine ⟨rfl, R.take j ++ x0 :: R.drop j, put_std HR.out (fun q y h1 h2 => by have := HLO.out q y h1 h2; omega) HHI.out, put_eqvL HLO.out, ?_⟩
          exact HW2.out
end Go.Proofs.Ytgjhjabnnhhkbaa
