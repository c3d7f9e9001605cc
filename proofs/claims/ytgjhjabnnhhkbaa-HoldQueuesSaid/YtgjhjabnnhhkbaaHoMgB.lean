/- Walks: symMergeCmpFunc where one element stands on the right. Printed by gen_ho_mgs.py. -/
import Derived.Test.YtgjhjabnnhhkbaaHoMgA
namespace Go.Proofs.Ytgjhjabnnhhkbaa
open Go.RowKit

set_option maxRecDepth 100000 in
set_option maxHeartbeats 8000000 in
theorem symB_any (f : Nat) (cb : Array Value) (tl : List Value) (g cap N a m b : Nat) (P L Q : List Ho) (x0 : Ho) (w0 w : World) (eg : ∀ args w, (callFunc f args).run Try.prog w = .ok (.enter f args) w) (hcmp : Cmph f cb cfQ PdR g w0)
    (hs : SWh w0 g tl (P ++ (L ++ ([x0] ++ Q))) w) (hd : ∀ y ∈ L ++ [x0], PdR y) (hN : (P ++ (L ++ ([x0] ++ Q))).length = N) (ha : P.length = a) (hm : a + L.length = m) (hb : m + 1 = b) (h2 : 2 ≤ L.length) (hL : Std L) (hcap : N ≤ cap) (hn : N ≤ 1000) :
    Calls Try.prog 63 #[.slice (some ⟨g, 0, none⟩) N cap, .int .i64 a, .int .i64 m, .int .i64 b, .func (.func f) #[] cb] w fun e w' => e = .returned (.tuple #[]) ∧ ∃ M, Std M ∧ Eqv M (L ++ [x0]) ∧ SWh w0 g tl (P ++ (M ++ Q)) w' := by
  have hN' : a + L.length + 1 + Q.length = N := by rw [← hN, ← ha]; simp; omega
  have hX : (P ++ (L ++ ([x0] ++ Q)))[m]? = some x0 := by
    rw [List.getElem?_append_right (by omega), List.getElem?_append_right (by omega)]
    rw [show m - P.length - L.length = 0 by omega]; simp
  have hRa : ∀ q y, L[q]? = some y → (P ++ (L ++ ([x0] ++ Q)))[a + q]? = some y := by
    intro q y hq
    have := (List.getElem?_eq_some_iff.1 hq).1
    rw [List.getElem?_append_right (by omega), List.getElem?_append_left (by omega), ← hq]
    congr 1; omega
  have h00 : P ++ (L ++ ([x0] ++ Q)) = P ++ slidh L x0 Q L.length := by unfold slidh; rw [List.take_of_length_le (Nat.le_refl _), List.drop_of_length_le (Nat.le_refl _)]; simp
  rw [h00] at hs hX hRa
  have e0 : (m : Int) - (a : Int) = (L.length : Int) := by omega
  have c0 : ((L.length : Int) == 1) = false := by simp; omega
  have e1 : (b : Int) - (m : Int) = 1 := by omega
  have w1 : IntKind.i64.wrap (L.length : Int) = (L.length : Int) := by rw [IntKind.wrap_i64]; omega
  have hmN : m < N := by omega
  have hmC : m < cap := by omega
  have ham : a ≤ m := by omega
  have hLN : L.length ≤ N := by omega
  have HS := hide hs
  have HX := hide hX
  have HRA := hide hRa
  have HC := hide hcmp
  have HD := hide hd
  have HNN := hide hN'
  have HA := hide ha
  have HM := hide hm
  have HB := hide hb
  have HL := hide hL
  generalize hl : L.length = l at *
  have HLL := hide hl
  clear hs hX hRa hcmp hd hN' ha hm hb hL hN h00 hl
  go_enter Try.func63, Try.ntmps63
  go_wp2
  go_loopw [14, 15] (fun u v wr => ∃ s t I J : Nat, (I = a + s ∧ J = a + t) ∧ u = .int .i64 I ∧ v = .int .i64 J ∧ s ≤ t ∧ t ≤ l ∧ (∀ q y, q < s → L[q]? = some y → x0.rnk ≤ y.rnk) ∧ (∀ q y, t ≤ q → L[q]? = some y → y.rnk < x0.rnk) ∧ SWh w0 g tl (P ++ slidh L x0 Q l) wr) (fun u v _ => (intOf v).toNat - (intOf u).toNat)
  case atStart => exact ⟨0, l, a, m, ⟨rfl, HM.out.symm⟩, rfl, rfl, Nat.zero_le _, Nat.le_refl _, (fun q y h => by omega), (fun q y h h2 => by have := (List.getElem?_eq_some_iff.1 h2).1; have := HLL.out; omega), HS.out⟩
  case round =>
    obtain ⟨s, t, I, J, hIJ, rfl, rfl, hst, htR, hlo, hhi, hsw⟩ := hrel
    have HIJ := hide hIJ
    have HW := hide hsw
    have HLO := hide hlo
    have HHI := hide hhi
    have hIN : (I : Int) ≤ 1000 := by have := HM.out; omega
    have hJN : (J : Int) ≤ 1000 := by have := HM.out; omega
    clear hIJ hsw hlo hhi HS
    by_cases hlt : s < t
    · have hltz : (I : Int) < (J : Int) := by have := HIJ.out; omega
      obtain ⟨H, hH⟩ : ∃ H, (I + J) / 2 = H := ⟨_, rfl⟩
      have eH : ((I : Int) + (J : Int)) / 2 = (H : Int) := by omega
      have wH : IntKind.i64.wrap (H : Int) = (H : Int) := by rw [IntKind.wrap_i64]; omega
      obtain ⟨c, hc⟩ : ∃ c, H = a + c := ⟨H - a, by have := HIJ.out; omega⟩
      have hsc : s ≤ c := by have := HIJ.out; omega
      have hct : c < t := by have := HIJ.out; omega
      have hHN : H < N := by have := HM.out; omega
      have hHC : H < cap := by omega
      have hHz : (H : Int) + 1 ≤ 1000 := by omega
      obtain ⟨y, hy⟩ : ∃ y, L[c]? = some y := ⟨_, List.getElem?_eq_getElem (by have := HLL.out; omega)⟩
      have hyD := HRA.out c y hy
      rw [← hc] at hyD
      have HMY := hide (show y ∈ L ++ [x0] from List.mem_append_left _ (List.mem_of_getElem? hy))
      have HMX := hide (show x0 ∈ L ++ [x0] from List.mem_append_right _ (List.mem_singleton.2 rfl))
      have hxD := HX.out
      have HY := hide hy
      have HCC := hide hc
      have HH := hide hH
      obtain ⟨o, ho⟩ : ∃ o, m * 11 = o := ⟨_, rfl⟩
      obtain ⟨o', ho'⟩ : ∃ o', H * 11 = o' := ⟨_, rfl⟩
      obtain ⟨l0, l1, l2, l3, l4, l5, l6, l7, l8, l9, l10⟩ := HW.out.at1 ho hxD
      obtain ⟨m0, m1, m2, m3, m4, m5, m6, m7, m8, m9, m10⟩ := HW.out.at1 ho' hyD
      have hcall := fun W hW => HC.out W x0 y (HD.out x0 HMX.out) (HD.out y HMY.out) hW
      have HCA := hide hcall
      unfold hoV at HCA
      clear hcall
      clear hyD hxD hy hc hH
      by_cases hv : y.rnk < x0.rnk
      · have hvd : decide (cfQ x0 y < 0) = true := by unfold cfQ; simp; omega
        have HV := hide hv
        clear hv
        have f0 := Grn.cell l0
        have k0 := Grn.cell m0
        have f1 := Grn.cell l1
        have k1 := Grn.cell m1
        have f2 := Grn.cell l2
        have k2 := Grn.cell m2
        have f3 := Grn.cell l3
        have k3 := Grn.cell m3
        have f4 := Grn.cell l4
        have k4 := Grn.cell m4
        have f5 := Grn.cell l5
        have k5 := Grn.cell m5
        have f6 := Grn.cell l6
        have k6 := Grn.cell m6
        have f7 := Grn.cell l7
        have k7 := Grn.cell m7
        have f8 := Grn.cell l8
        have k8 := Grn.cell m8
        have f9 := Grn.cell l9
        have k9 := Grn.cell m9
        have f10 := Grn.cell l10
        have k10 := Grn.cell m10
        go_wp2_with fail
        refine wp_region_grn (by kernel_rfl) (by kernel_rfl) ?_
        repeat (go_big_quiet_step ((go_at_fn f; exact Calls_grn (HCA.out _ (HW.out.below (Grn.h _)).old (HW.out.below (Grn.h _)).box.lt))))
        refine wpQuiet_nil ?_
        rintro _ ⟨p, rfl⟩
        obtain ⟨w2, hw2⟩ : ∃ w2, w2 = p.W := ⟨_, rfl⟩
        have S2 : SWh w0 g tl (P ++ slidh L x0 Q l) w2 := by rw [hw2]; exact HW.out.below p.h
        rw [← hw2]
        have HS2 := hide S2
        clear hw2 S2 HCA HW l0 l1 l2 l3 l4 l5 l6 l7 l8 l9 l10 m0 m1 m2 m3 m4 m5 m6 m7 m8 m9 m10 f0 f1 f2 f3 f4 f5 f6 f7 f8 f9 f10 k0 k1 k2 k3 k4 k5 k6 k7 k8 k9 k10
        go_wp2
        go_roundw
        case rel =>
          refine ⟨s, c, I, H, ⟨HIJ.out.1, HCC.out⟩, rfl, rfl, by omega, by omega, HLO.out, fun q z hq hz => ?_, HS2.out⟩
          have := HL.out.get hq HY.out hz
          have := HV.out
          omega
        case measure => have := HCC.out; have := HIJ.out; simp [intOf]; omega
      · have hvd : decide (cfQ x0 y < 0) = false := by unfold cfQ; simp; omega
        have HV := hide hv
        clear hv
        have f0 := Grn.cell l0
        have k0 := Grn.cell m0
        have f1 := Grn.cell l1
        have k1 := Grn.cell m1
        have f2 := Grn.cell l2
        have k2 := Grn.cell m2
        have f3 := Grn.cell l3
        have k3 := Grn.cell m3
        have f4 := Grn.cell l4
        have k4 := Grn.cell m4
        have f5 := Grn.cell l5
        have k5 := Grn.cell m5
        have f6 := Grn.cell l6
        have k6 := Grn.cell m6
        have f7 := Grn.cell l7
        have k7 := Grn.cell m7
        have f8 := Grn.cell l8
        have k8 := Grn.cell m8
        have f9 := Grn.cell l9
        have k9 := Grn.cell m9
        have f10 := Grn.cell l10
        have k10 := Grn.cell m10
        go_wp2_with fail
        refine wp_region_grn (by kernel_rfl) (by kernel_rfl) ?_
        repeat (go_big_quiet_step ((go_at_fn f; exact Calls_grn (HCA.out _ (HW.out.below (Grn.h _)).old (HW.out.below (Grn.h _)).box.lt))))
        refine wpQuiet_nil ?_
        rintro _ ⟨p, rfl⟩
        obtain ⟨w2, hw2⟩ : ∃ w2, w2 = p.W := ⟨_, rfl⟩
        have S2 : SWh w0 g tl (P ++ slidh L x0 Q l) w2 := by rw [hw2]; exact HW.out.below p.h
        rw [← hw2]
        have HS2 := hide S2
        clear hw2 S2 HCA HW l0 l1 l2 l3 l4 l5 l6 l7 l8 l9 l10 m0 m1 m2 m3 m4 m5 m6 m7 m8 m9 m10 f0 f1 f2 f3 f4 f5 f6 f7 f8 f9 f10 k0 k1 k2 k3 k4 k5 k6 k7 k8 k9 k10
        go_wp2
        go_roundw
        case rel =>
          refine ⟨c + 1, t, H + 1, J, ⟨by have := HCC.out; omega, HIJ.out.2⟩, by go_num, rfl, by omega, htR, fun q z hq hz => ?_, HHI.out, HS2.out⟩
          have := HL.out.get (show q ≤ c by omega) hz HY.out
          have := HV.out
          omega
        case measure => have := HCC.out; have := HIJ.out; simp [intOf]; omega
    · have hltz : ¬ (I : Int) < (J : Int) := by have := HIJ.out; omega
      obtain rfl : s = t := by omega
      go_wp2
      go_loopw [17] (fun u wr => ∃ j K : Nat, K = a + j ∧ u = .int .i64 K ∧ s ≤ j ∧ j ≤ l ∧ SWh w0 g tl (P ++ slidh L x0 Q j) wr) (fun u _ => (intOf u).toNat)
      case atStart => exact ⟨l, m, HM.out.symm, rfl, htR, Nat.le_refl _, HW.out⟩
      case round =>
        obtain ⟨j, K, hK, rfl, hjs, hjl, hsw⟩ := hrel
        have HW2 := hide hsw
        have HK := hide hK
        clear hsw hK HW
        have hKN : K < N := by have := HM.out; have := HK.out; omega
        have hKC : K < cap := by omega
        by_cases hjs2 : s < j
        · obtain ⟨q, rfl⟩ : ∃ q, j = q + 1 := ⟨j - 1, by omega⟩
          obtain ⟨K1, rfl⟩ : ∃ K1, K = K1 + 1 := ⟨K - 1, by have := HK.out; omega⟩
          have hkz : (I : Int) < (K1 : Int) + 1 := by have := HIJ.out; have := HK.out; omega
          have e1 : IntKind.i64.wrap ((K1 : Int) + 1 - 1) = (K1 : Int) := by rw [IntKind.wrap_i64]; omega
          have e2 : ((K1 : Int) + 1).toNat = K1 + 1 := by omega
          have e3 : (0 : Int) ≤ (K1 : Int) + 1 := by omega
          have e5 : (K1 : Int) + 1 < (N : Int) := by omega
          have e6 : K1 < N := by omega
          have e7 : ((K1 : Int) + 1 - 1) = (K1 : Int) := by omega
          have hKP : K1 = P.length + q := by rw [HA.out]; have := HK.out; omega
          have hql : q + 1 ≤ L.length := by rw [HLL.out]; omega
          obtain ⟨y, hy⟩ : ∃ y, y = L.getD q ho0 := ⟨_, rfl⟩
          have hxq := slidP_at (Pre := P) (P := L) (x := x0) (R := Q) (j := q + 1) (J := K1 + 1) hql (by omega)
          have hyq := slidP_prev (Pre := P) (P := L) (x := x0) (R := Q) (j := q) hql hKP
          rw [← hy] at hyq
          obtain ⟨o, ho⟩ : ∃ o, K1 * 11 = o := ⟨_, rfl⟩
          have ho1 : (K1 + 1) * 11 = o + 11 := by omega
          obtain ⟨l0, l1, l2, l3, l4, l5, l6, l7, l8, l9, l10, l11, l12, l13, l14, l15, l16, l17, l18, l19, l20, l21⟩ := HW2.out.two ho hyq hxq
          have mf := fun j => HW2.out.box.frz j
          have hLn : (P ++ slidh L x0 Q (q + 1)).length = N := by rw [List.length_append, slidh_len hql, HLL.out]; have := HA.out; have := HNN.out; omega
          have S3 := (HW2.out.set (j := K1 + 1) (by omega) y).set (j := K1) (by rw [List.length_set]; omega) x0
          rw [hy, slidP_swap hql hKP, ← hy, ho, ho1] at S3
          have HS3 := hide S3
          have HY := hide hy
          clear S3 hy hxq hyq hLn hKP HW2 hql
          go_wp2_with fail
          go_big_region
          clear mf l0 l1 l2 l3 l4 l5 l6 l7 l8 l9 l10 l11 l12 l13 l14 l15 l16 l17 l18 l19 l20 l21
          go_wp2
          go_roundw
          case rel => exact ⟨q, K1, by have := HK.out; omega, by go_num, by omega, by omega, HS3.out.drew⟩
          case measure => simp [intOf]
        · have hkz : ¬ (I : Int) < (K : Int) := by have := HIJ.out; have := HK.out; omega
          obtain rfl : s = j := by omega
          go_wp2
          (try simp only [Exit.inBlock, Exit.then])
          refine bodyPost_ret (results_none rfl _ _ _) rfl ?_
          refine ⟨rfl, L.take s ++ x0 :: L.drop s, put_std HL.out HLO.out (fun q y h1 h2 => by have := HHI.out q y h1 h2; omega), put_eqvR HHI.out, ?_⟩
          exact HW2.out
end Go.Proofs.Ytgjhjabnnhhkbaa
