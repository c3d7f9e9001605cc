/- Walks: symMergeCmpFunc, the longer list on the left. Printed by gen_ho_mgs.py. -/
import Derived.Test.YtgjhjabnnhhkbaaHoMgC
namespace Go.Proofs.Ytgjhjabnnhhkbaa
open Go.RowKit

set_option maxRecDepth 100000 in
set_option maxHeartbeats 32000000 in
theorem symC1_any (f : Nat) (cb : Array Value) (tl : List Value) (g cap N a m b : Nat) (P L R Q : List Ho) (w0 w : World) (eg : ∀ args w, (callFunc f args).run Try.prog w = .ok (.enter f args) w) (hcmp : Cmph f cb cfQ PdR g w0)
    (hs : SWh w0 g tl (P ++ (L ++ (R ++ Q))) w) (hd : ∀ y ∈ L ++ R, PdR y) (hN : (P ++ (L ++ (R ++ Q))).length = N) (ha : P.length = a) (hm : a + L.length = m) (hb : m + R.length = b) (h2 : 2 ≤ L.length) (h3 : 2 ≤ R.length) (hL : Std L) (hR : Std R) (hcap : N ≤ cap) (hn : N ≤ 1000)
    (ih : SymSays f cb tl g cap N w0 (L.length + R.length)) (hk : (L.length + R.length) / 2 < L.length) :
    Calls Try.prog 63 #[.slice (some ⟨g, 0, none⟩) N cap, .int .i64 a, .int .i64 m, .int .i64 b, .func (.func f) #[] cb] w fun e w' => e = .returned (.tuple #[]) ∧ ∃ M, Std M ∧ Eqv M (L ++ R) ∧ SWh w0 g tl (P ++ (M ++ Q)) w' := by
  have hN' : a + L.length + R.length + Q.length = N := by rw [← hN, ← ha]; simp; omega
  have hLa : ∀ q y, L[q]? = some y → (P ++ (L ++ (R ++ Q)))[a + q]? = some y := by
    intro q y hq
    have := (List.getElem?_eq_some_iff.1 hq).1
    rw [List.getElem?_append_right (by omega), List.getElem?_append_left (by omega), ← hq]
    congr 1; omega
  have hRa : ∀ q y, R[q]? = some y → (P ++ (L ++ (R ++ Q)))[m + q]? = some y := by
    intro q y hq
    have := (List.getElem?_eq_some_iff.1 hq).1
    rw [List.getElem?_append_right (by omega), List.getElem?_append_right (by omega), List.getElem?_append_left (by omega), ← hq]
    congr 1; omega
  obtain ⟨l, hl⟩ : ∃ l, L.length = l := ⟨_, rfl⟩
  obtain ⟨r, hr⟩ : ∃ r, R.length = r := ⟨_, rfl⟩
  rw [hl] at hm h2 hN' ih hk
  rw [hr] at hb h3 hN' ih hk
  obtain ⟨h, hh⟩ : ∃ h, (l + r) / 2 = h := ⟨_, rfl⟩
  obtain ⟨d, hd2⟩ : ∃ d, a + h = d := ⟨_, rfl⟩
  obtain ⟨nn, hnn⟩ : ∃ nn, d + m = nn := ⟨_, rfl⟩
  obtain ⟨pp, hpp⟩ : ∃ pp, nn - 1 = pp := ⟨_, rfl⟩
  have e0 : (m : Int) - (a : Int) = (l : Int) := by omega
  have c0 : ((l : Int) == 1) = false := by simp; omega
  have w1 : IntKind.i64.wrap (l : Int) = (l : Int) := by rw [IntKind.wrap_i64]; omega
  have e1 : (b : Int) - (m : Int) = (r : Int) := by omega
  have c1 : ((r : Int) == 1) = false := by simp; omega
  have w2 : IntKind.i64.wrap (r : Int) = (r : Int) := by rw [IntKind.wrap_i64]; omega
  have eD : ((a : Int) + (b : Int)) / 2 = (d : Int) := by omega
  have wD : IntKind.i64.wrap (d : Int) = (d : Int) := by rw [IntKind.wrap_i64]; omega
  have eN : (d : Int) + (m : Int) = (nn : Int) := by omega
  have wN : IntKind.i64.wrap (nn : Int) = (nn : Int) := by rw [IntKind.wrap_i64]; omega
  have eP : (nn : Int) - 1 = (pp : Int) := by omega
  have wP : IntKind.i64.wrap (pp : Int) = (pp : Int) := by rw [IntKind.wrap_i64]; omega
  have haz : (a : Int) ≤ 1000 := by omega
  have hbz : (b : Int) ≤ 1000 := by omega
  have hsc : ∃ s0 r0 S0 : Nat, S0 = a + s0 ∧ s0 ≤ r0 ∧ r0 ≤ l ∧ r0 ≤ h ∧ h ≤ r + s0 ∧ (s0 = 0 ∨ s0 + r = h) ∧ (r0 = l ∨ r0 = h) ∧ ((d : Int) < (m : Int) ∧ (nn : Int) - (b : Int) = (S0 : Int) ∧ d = a + r0) :=
    ⟨h - r, h, a + (h - r), rfl, by omega, by omega, by omega, by omega, by omega, by omega, by omega, by omega, by omega⟩
  obtain ⟨s0, r0, S0, hS0, hsr, hrl, hrh, hhr, hs0, hr0, hcase⟩ := hsc
  have wS : IntKind.i64.wrap (S0 : Int) = (S0 : Int) := by rw [IntKind.wrap_i64]; omega
  have hk' := hk
  rw [hh] at hk'
  have HK := hide hk'
  have HS := hide hs
  have HLA := hide hLa
  have HRA := hide hRa
  have HC := hide hcmp
  have HD := hide hd
  have HL := hide hL
  have HR := hide hR
  have HIH := hide ih
  have HLEN := hide (And.intro hl hr)
  have N0 := hide (show (P.length = a ∧ a + l = m ∧ m + r = b ∧ (l + r) / 2 = h ∧ a + h = d ∧ d + m = nn ∧ nn - 1 = pp ∧ a + l + r + Q.length = N) ∧ 2 ≤ l ∧ 2 ≤ r ∧ N ≤ 1000 from ⟨⟨ha, hm, hb, hh, hd2, hnn, hpp, hN'⟩, h2, h3, hn⟩)
  have N1 := hide (show S0 = a + s0 ∧ s0 ≤ r0 ∧ r0 ≤ l ∧ r0 ≤ h ∧ h ≤ r + s0 ∧ (s0 = 0 ∨ s0 + r = h) ∧ (r0 = l ∨ r0 = h) from ⟨hS0, hsr, hrl, hrh, hhr, hs0, hr0⟩)
  clear hs hLa hRa hcmp hd hL hR ih hl hr ha hm hb hh hd2 hnn hpp hN' hN hS0 hsr hrl hrh hhr hs0 hr0 h2 h3 hk hk'
  obtain ⟨c2, eS, hJ0⟩ := hcase
  all_goals
    have HJ0 := hide hJ0
    clear hJ0
    go_enter Try.func63, Try.ntmps63
    go_wp2
    go_loopw [20, 21] (fun u v wr => ∃ s t I J : Nat, (I = a + s ∧ J = a + t) ∧ u = .int .i64 I ∧ v = .int .i64 J ∧ s0 ≤ s ∧ s ≤ t ∧ t ≤ r0 ∧ (s = s0 ∨ ∀ q x y, s = q + 1 → L[q]? = some x → R[h - s]? = some y → y.rnk ≤ x.rnk) ∧ (t = r0 ∨ ∀ x y, L[t]? = some x → R[h - 1 - t]? = some y → x.rnk < y.rnk) ∧ SWh w0 g tl (P ++ (L ++ (R ++ Q))) wr) (fun u v _ => (intOf v).toNat - (intOf u).toNat)
    case atStart =>
      exact ⟨s0, r0, S0, d, ⟨N1.out.1, HJ0.out⟩, rfl, rfl, Nat.le_refl _, N1.out.2.1, Nat.le_refl _, .inl rfl, .inl rfl, HS.out⟩
    case round =>
      obtain ⟨s, t, I, J, hIJ, rfl, rfl, hs0, hst, htr, hg, hbd, hsw⟩ := hrel
      have HIJ := hide (And.intro hIJ (And.intro hs0 (And.intro hst htr)))
      have HW := hide hsw
      have HG := hide hg
      have HBD := hide hbd
      have hIN : (I : Int) ≤ 1000 := by have := N0.out; have := N1.out; omega
      have hJN : (J : Int) ≤ 1000 := by have := N0.out; have := N1.out; omega
      clear hIJ hsw hg hbd HS hs0 htr
      by_cases hlt : s < t
      · have hltz : (I : Int) < (J : Int) := by have := HIJ.out; omega
        obtain ⟨H, hH⟩ : ∃ H, (I + J) / 2 = H := ⟨_, rfl⟩
        have eH : ((I : Int) + (J : Int)) / 2 = (H : Int) := by omega
        have wH : IntKind.i64.wrap (H : Int) = (H : Int) := by rw [IntKind.wrap_i64]; omega
        obtain ⟨c, hc⟩ : ∃ c, H = a + c := ⟨H - a, by have := HIJ.out; omega⟩
        obtain ⟨K, hK⟩ : ∃ K, K = m + (h - 1 - c) := ⟨_, rfl⟩
        have hcc : s ≤ c ∧ c < t ∧ c < l ∧ h - 1 - c < r ∧ c < h := by have := HIJ.out; have := N1.out; have := N0.out; omega
        have eK : (pp : Int) - (H : Int) = (K : Int) := by have := N0.out; omega
        have wK : IntKind.i64.wrap (K : Int) = (K : Int) := by rw [IntKind.wrap_i64]; have := N0.out; omega
        have hHN : H < N := by have := N0.out; omega
        have hHC : H < cap := by omega
        have hKN : K < N := by have := N0.out; omega
        have hKC : K < cap := by omega
        have hHz : (H : Int) + 1 ≤ 1000 := by omega
        obtain ⟨x, hx⟩ : ∃ x, L[c]? = some x := ⟨_, List.getElem?_eq_getElem (by have := HLEN.out; omega)⟩
        obtain ⟨y, hy⟩ : ∃ y, R[h - 1 - c]? = some y := ⟨_, List.getElem?_eq_getElem (by have := HLEN.out; omega)⟩
        have hxD := HLA.out c x hx
        rw [← hc] at hxD
        have hyD := HRA.out _ y hy
        rw [← hK] at hyD
        have HMY := hide (show x ∈ L ++ R from List.mem_append_left _ (List.mem_of_getElem? hx))
        have HMX := hide (show y ∈ L ++ R from List.mem_append_right _ (List.mem_of_getElem? hy))
        have HX := hide hx
        have HY := hide hy
        have HCC := hide (And.intro hc (And.intro hcc hH))
        obtain ⟨o, ho⟩ : ∃ o, K * 11 = o := ⟨_, rfl⟩
        obtain ⟨o', ho'⟩ : ∃ o', H * 11 = o' := ⟨_, rfl⟩
        obtain ⟨l0, l1, l2, l3, l4, l5, l6, l7, l8, l9, l10⟩ := HW.out.at1 ho hyD
        obtain ⟨m0, m1, m2, m3, m4, m5, m6, m7, m8, m9, m10⟩ := HW.out.at1 ho' hxD
        have hcall := fun W hW => HC.out W y x (HD.out y HMX.out) (HD.out x HMY.out) hW
        have HCA := hide hcall
        unfold hoV at HCA
        clear hcall
        clear hyD hxD hy hx hc hH hK hcc
        by_cases hv : x.rnk < y.rnk
        · have hvd : decide (cfQ y x < 0) = true := by unfold cfQ; simp; omega
          have HV := hide hv
          clear hv
          have f0 := Grn.cell l0
          have k0 := Grn.cell m0
          have f1 := Grn.cell l1
          have k1 := Grn.cell m1
          have f2 := Grn.cell l2
          have k2 := Grn.cell m2
          have f3 := Grn.cell l3
          have k3 := Grn.cell m3
          have f4 := Grn.cell l4
          have k4 := Grn.cell m4
          have f5 := Grn.cell l5
          have k5 := Grn.cell m5
          have f6 := Grn.cell l6
          have k6 := Grn.cell m6
          have f7 := Grn.cell l7
          have k7 := Grn.cell m7
          have f8 := Grn.cell l8
          have k8 := Grn.cell m8
          have f9 := Grn.cell l9
          have k9 := Grn.cell m9
          have f10 := Grn.cell l10
          have k10 := Grn.cell m10
          go_wp2_with fail
          refine wp_region_grn (by kernel_rfl) (by kernel_rfl) ?_
          repeat (go_big_quiet_step ((go_at_fn f; exact Calls_grn (HCA.out _ (HW.out.below (Grn.h _)).old (HW.out.below (Grn.h _)).box.lt))))
          refine wpQuiet_nil ?_
          rintro _ ⟨p, rfl⟩
          obtain ⟨w2, hw2⟩ : ∃ w2, w2 = p.W := ⟨_, rfl⟩
          have S2 : SWh w0 g tl (P ++ (L ++ (R ++ Q))) w2 := by rw [hw2]; exact HW.out.below p.h
          rw [← hw2]
          have HS2 := hide S2
          clear hw2 S2 HCA HW l0 l1 l2 l3 l4 l5 l6 l7 l8 l9 l10 m0 m1 m2 m3 m4 m5 m6 m7 m8 m9 m10 f0 f1 f2 f3 f4 f5 f6 f7 f8 f9 f10 k0 k1 k2 k3 k4 k5 k6 k7 k8 k9 k10
          go_wp2
          go_roundw
          case rel =>
            refine ⟨s, c, I, H, ⟨HIJ.out.1.1, HCC.out.1⟩, rfl, rfl, HIJ.out.2.1, by have := HCC.out; omega, by have := HCC.out; have := HIJ.out; omega, HG.out, .inr (fun x' y' h1 h2 => ?_), HS2.out⟩
            rw [HX.out] at h1
            rw [HY.out] at h2
            cases h1; cases h2
            exact HV.out
          case measure => have := HCC.out; have := HIJ.out; simp [intOf]; omega
        · have hvd : decide (cfQ y x < 0) = false := by unfold cfQ; simp; omega
          have HV := hide hv
          clear hv
          have f0 := Grn.cell l0
          have k0 := Grn.cell m0
          have f1 := Grn.cell l1
          have k1 := Grn.cell m1
          have f2 := Grn.cell l2
          have k2 := Grn.cell m2
          have f3 := Grn.cell l3
          have k3 := Grn.cell m3
          have f4 := Grn.cell l4
          have k4 := Grn.cell m4
          have f5 := Grn.cell l5
          have k5 := Grn.cell m5
          have f6 := Grn.cell l6
          have k6 := Grn.cell m6
          have f7 := Grn.cell l7
          have k7 := Grn.cell m7
          have f8 := Grn.cell l8
          have k8 := Grn.cell m8
          have f9 := Grn.cell l9
          have k9 := Grn.cell m9
          have f10 := Grn.cell l10
          have k10 := Grn.cell m10
          go_wp2_with fail
          refine wp_region_grn (by kernel_rfl) (by kernel_rfl) ?_
          repeat (go_big_quiet_step ((go_at_fn f; exact Calls_grn (HCA.out _ (HW.out.below (Grn.h _)).old (HW.out.below (Grn.h _)).box.lt))))
          refine wpQuiet_nil ?_
          rintro _ ⟨p, rfl⟩
          obtain ⟨w2, hw2⟩ : ∃ w2, w2 = p.W := ⟨_, rfl⟩
          have S2 : SWh w0 g tl (P ++ (L ++ (R ++ Q))) w2 := by rw [hw2]; exact HW.out.below p.h
          rw [← hw2]
          have HS2 := hide S2
          clear hw2 S2 HCA HW l0 l1 l2 l3 l4 l5 l6 l7 l8 l9 l10 m0 m1 m2 m3 m4 m5 m6 m7 m8 m9 m10 f0 f1 f2 f3 f4 f5 f6 f7 f8 f9 f10 k0 k1 k2 k3 k4 k5 k6 k7 k8 k9 k10
          go_wp2
          go_roundw
          case rel =>
            refine ⟨c + 1, t, H + 1, J, ⟨by have := HCC.out; omega, HIJ.out.1.2⟩, by go_num, rfl, by have := HCC.out; have := HIJ.out; omega, by have := HCC.out; omega, HIJ.out.2.2.2, .inr (fun q x' y' h0 h1 h2 => ?_), HBD.out, HS2.out⟩
            obtain rfl : q = c := by omega
            rw [HX.out] at h1
            rw [show h - (q + 1) = h - 1 - q by omega, HY.out] at h2
            cases h1; cases h2
            have := HV.out
            omega
          case measure => have := HCC.out; have := HIJ.out; have e : IntKind.i64.wrap ((H : Int) + 1) = (H : Int) + 1 := (by rw [IntKind.wrap_i64]; omega); simp [intOf, e]; omega
      · have hltz : ¬ (I : Int) < (J : Int) := by have := HIJ.out; omega
        obtain rfl : s = t := by have := HIJ.out; omega
        obtain ⟨e, he⟩ : ∃ e, s + e = h := ⟨h - s, by have := HIJ.out; have := N1.out; omega⟩
        obtain ⟨E, hE⟩ : ∃ E, E = m + e := ⟨_, rfl⟩
        have eE : (nn : Int) - (I : Int) = (E : Int) := by have := HIJ.out; have := N0.out; omega
        have wE : IntKind.i64.wrap (E : Int) = (E : Int) := by rw [IntKind.wrap_i64]; have := N0.out; omega
        obtain ⟨L1, L2, R1, R2, rfl, rfl, q1, q2, q3, q4, hc1, hc2⟩ := mrg_cut HLEN.out.1 HLEN.out.2 HL.out HR.out he N1.out.2.2.2.2.2.1 N1.out.2.2.2.2.2.2 (by have := HIJ.out; have := N1.out; omega) (by have := HIJ.out; have := N1.out; omega) HG.out HBD.out
        have HC1 := hide hc1
        have HC2 := hide hc2
        have NUM := hide (show (P.length = a ∧ a + l = m ∧ m + r = b ∧ (l + r) / 2 = h ∧ a + h = d ∧ a + l + r + Q.length = N ∧ I = a + s ∧ s + e = h ∧ E = m + e) ∧ (L1.length = s ∧ L2.length = l - s ∧ R1.length = e ∧ R2.length = r - e) ∧ (s ≤ l ∧ e ≤ r ∧ 2 ≤ l ∧ 2 ≤ r) ∧ (L1 ++ L2).length = l ∧ (R1 ++ R2).length = r from ⟨⟨N0.out.1.1, N0.out.1.2.1, N0.out.1.2.2.1, N0.out.1.2.2.2.1, N0.out.1.2.2.2.2.1, N0.out.1.2.2.2.2.2.2.2, HIJ.out.1.1, he, hE⟩, ⟨q1, q2, q3, q4⟩, ⟨by have := HIJ.out; have := N1.out; omega, by have := HIJ.out; have := N1.out; omega, N0.out.2.1, N0.out.2.2.1⟩, HLEN.out⟩)
        have HIH2 := hide (show SymSays f cb tl g cap N w0 (l + r) from HIH.out)
        clear he hE q1 q2 q3 q4 hc1 hc2 N0 N1 HIJ HG HBD HLEN HLA HRA hlt hst
        have hss : s = 0 ∨ (0 < s ∧ s < l) ∨ s = l := by have := NUM.out; omega
        have hee : e = 0 ∨ (0 < e ∧ e < r) ∨ e = r := by have := NUM.out; omega
        rcases hss with h1 | h1 | h1 <;> rcases hee with h2 | h2 | h2
        · exfalso
          have := NUM.out
          have := HK.out
          omega
        · exfalso
          have := NUM.out
          have := HK.out
          omega
        · have NU := NUM.out
          have cA : (I : Int) < (m : Int) := by omega
          have cB : (m : Int) < (E : Int) := by omega
          have cC : ¬ (a : Int) < (I : Int) := by omega
          have cD : (I : Int) < (d : Int) := by omega
          have cE : (d : Int) < (E : Int) := by omega
          have cF : ¬ (E : Int) < (b : Int) := by omega
          have NUM := hide (And.intro NU (And.intro h1 h2))
          clear NU h1 h2
          have hA : SWh w0 g tl ((P ++ L1) ++ (L2 ++ (R1 ++ (R2 ++ Q)))) wr := by have h := HW.out; simpa only [List.append_assoc] using h
          have HRO := hide (rotate_any (.func (.func f) #[] cb) tl g cap N I m E (P ++ L1) L2 R1 (R2 ++ Q) w0 wr hA (by simp only [List.length_append]; have := NUM.out; omega) (by simp only [List.length_append]; have := NUM.out; omega) (by have := NUM.out; omega) (by have := NUM.out; omega) (by have := NUM.out; omega) (by have := NUM.out; omega) hcap hn)
          clear hA
          go_wp2_with fail
          refine HRO.out.mono ?_
          rintro e_ w3 ⟨rfl, hs3⟩
          have HWB := hide (show SWh w0 g tl (P ++ (L1 ++ (R1 ++ (L2 ++ (R2 ++ Q))))) w3 by simpa only [List.append_assoc] using hs3)
          clear hs3 HRO HW
          obtain ⟨M1, hM⟩ : ∃ M1, M1 = L1 ++ R1 := ⟨_, rfl⟩
          have HWC := hide (show SWh w0 g tl ((P ++ M1) ++ (L2 ++ (R2 ++ Q))) w3 by rw [hM]; have h := HWB.out; simpa only [List.append_assoc] using h)
          have HM1 := hide (show Std M1 by
            rw [hM]
            refine mrg_nil HL.out.left HR.out.left ?_
            have := NUM.out
            rcases Nat.eq_zero_or_pos L1.length with h | h
            · exact .inl (List.length_eq_zero_iff.1 h)
            · exact .inr (List.length_eq_zero_iff.1 (by omega)))
          have HE1 := hide (show Eqv M1 (L1 ++ R1) by rw [hM]; exact Eqv.refl _)
          clear hM HWB
          obtain ⟨M2, hM⟩ : ∃ M2, M2 = L2 ++ R2 := ⟨_, rfl⟩
          have HWE := hide (show SWh w0 g tl (P ++ ((M1 ++ M2) ++ Q)) w3 by rw [hM]; have h := HWC.out; simpa only [List.append_assoc] using h)
          have HM2 := hide (show Std M2 by
            rw [hM]
            refine mrg_nil HL.out.right HR.out.right ?_
            have := NUM.out
            rcases Nat.eq_zero_or_pos L2.length with h | h
            · exact .inl (List.length_eq_zero_iff.1 h)
            · exact .inr (List.length_eq_zero_iff.1 (by omega)))
          have HE2 := hide (show Eqv M2 (L2 ++ R2) by rw [hM]; exact Eqv.refl _)
          clear hM HWC
          go_wp2
          go_end0
          have hfin := mrg_fin HL.out HR.out HC1.out HC2.out HM1.out HE1.out HM2.out HE2.out
          exact ⟨rfl, M1 ++ M2, hfin.1, (by simpa only [List.append_assoc] using hfin.2), HWE.out⟩
        · have NU := NUM.out
          have cA : (I : Int) < (m : Int) := by omega
          have cB : ¬ (m : Int) < (E : Int) := by omega
          have cC : (a : Int) < (I : Int) := by omega
          have cD : ¬ (I : Int) < (d : Int) := by omega
          have cE : (d : Int) < (E : Int) := by omega
          have cF : (E : Int) < (b : Int) := by omega
          have NUM := hide (And.intro NU (And.intro h1 h2))
          clear NU h1 h2
          have hA : SWh w0 g tl ((P ++ L1) ++ (L2 ++ (R1 ++ (R2 ++ Q)))) wr := by have h := HW.out; simpa only [List.append_assoc] using h
          have HWB := hide (show SWh w0 g tl (P ++ (L1 ++ (R1 ++ (L2 ++ (R2 ++ Q))))) wr by
            have hz : L2 = [] ∨ R1 = [] := by
              have := NUM.out
              rcases Nat.eq_zero_or_pos L2.length with h | h
              · exact .inl (List.length_eq_zero_iff.1 h)
              · exact .inr (List.length_eq_zero_iff.1 (by omega))
            rcases hz with rfl | rfl
            · simpa only [List.append_assoc, List.nil_append, List.append_nil] using hA
            · simpa only [List.append_assoc, List.nil_append, List.append_nil] using hA)
          clear hA HW
          obtain ⟨M1, hM⟩ : ∃ M1, M1 = L1 ++ R1 := ⟨_, rfl⟩
          have HWC := hide (show SWh w0 g tl ((P ++ M1) ++ (L2 ++ (R2 ++ Q))) wr by rw [hM]; have h := HWB.out; simpa only [List.append_assoc] using h)
          have HM1 := hide (show Std M1 by
            rw [hM]
            refine mrg_nil HL.out.left HR.out.left ?_
            have := NUM.out
            rcases Nat.eq_zero_or_pos L1.length with h | h
            · exact .inl (List.length_eq_zero_iff.1 h)
            · exact .inr (List.length_eq_zero_iff.1 (by omega)))
          have HE1 := hide (show Eqv M1 (L1 ++ R1) by rw [hM]; exact Eqv.refl _)
          clear hM HWB
          have hml : M1.length = L1.length + R1.length := by rw [HE1.out.len, List.length_append]
          have HCR := hide (HIH.out (P ++ M1) L2 R2 Q d E b wr (by have := NUM.out; omega) HWC.out (fun y hy => HD.out y (by rcases List.mem_append.1 hy with h | h <;> simp [h])) (by simp only [List.length_append]; have := NUM.out; omega) (by simp only [List.length_append]; have := NUM.out; omega) (by have := NUM.out; omega) (by have := NUM.out; omega) (by have := NUM.out; omega) (by have := NUM.out; omega) HL.out.right HR.out.right)
          clear hml
          go_wp2_with fail
          refine HCR.out.mono ?_
          rintro e_ w5 ⟨rfl, M2, hM2, hE2, hs5⟩
          have HWE := hide (show SWh w0 g tl (P ++ ((M1 ++ M2) ++ Q)) w5 by simpa only [List.append_assoc] using hs5)
          have HM2 := hide hM2
          have HE2 := hide hE2
          clear hM2 hE2 hs5 HCR HWC
          go_wp2
          go_end0
          have hfin := mrg_fin HL.out HR.out HC1.out HC2.out HM1.out HE1.out HM2.out HE2.out
          exact ⟨rfl, M1 ++ M2, hfin.1, (by simpa only [List.append_assoc] using hfin.2), HWE.out⟩
        · have NU := NUM.out
          have cA : (I : Int) < (m : Int) := by omega
          have cB : (m : Int) < (E : Int) := by omega
          have cC : (a : Int) < (I : Int) := by omega
          have cD : (I : Int) < (d : Int) := by omega
          have cE : (d : Int) < (E : Int) := by omega
          have cF : (E : Int) < (b : Int) := by omega
          have NUM := hide (And.intro NU (And.intro h1 h2))
          clear NU h1 h2
          have hA : SWh w0 g tl ((P ++ L1) ++ (L2 ++ (R1 ++ (R2 ++ Q)))) wr := by have h := HW.out; simpa only [List.append_assoc] using h
          have HRO := hide (rotate_any (.func (.func f) #[] cb) tl g cap N I m E (P ++ L1) L2 R1 (R2 ++ Q) w0 wr hA (by simp only [List.length_append]; have := NUM.out; omega) (by simp only [List.length_append]; have := NUM.out; omega) (by have := NUM.out; omega) (by have := NUM.out; omega) (by have := NUM.out; omega) (by have := NUM.out; omega) hcap hn)
          clear hA
          go_wp2_with fail
          refine HRO.out.mono ?_
          rintro e_ w3 ⟨rfl, hs3⟩
          have HWB := hide (show SWh w0 g tl (P ++ (L1 ++ (R1 ++ (L2 ++ (R2 ++ Q))))) w3 by simpa only [List.append_assoc] using hs3)
          clear hs3 HRO HW
          have HCL := hide (HIH.out P L1 R1 (L2 ++ (R2 ++ Q)) a I d w3 (by have := NUM.out; omega) HWB.out (fun y hy => HD.out y (by rcases List.mem_append.1 hy with h | h <;> simp [h])) (by simp only [List.length_append]; have := NUM.out; omega) (by have := NUM.out; omega) (by have := NUM.out; omega) (by have := NUM.out; omega) (by have := NUM.out; omega) (by have := NUM.out; omega) HL.out.left HR.out.left)
          go_wp2_with fail
          refine HCL.out.mono ?_
          rintro e_ w4 ⟨rfl, M1, hM1, hE1, hs4⟩
          have HWC := hide (show SWh w0 g tl ((P ++ M1) ++ (L2 ++ (R2 ++ Q))) w4 by simpa only [List.append_assoc] using hs4)
          have HM1 := hide hM1
          have HE1 := hide hE1
          clear hM1 hE1 hs4 HCL HWB
          have hml : M1.length = L1.length + R1.length := by rw [HE1.out.len, List.length_append]
          have HCR := hide (HIH.out (P ++ M1) L2 R2 Q d E b w4 (by have := NUM.out; omega) HWC.out (fun y hy => HD.out y (by rcases List.mem_append.1 hy with h | h <;> simp [h])) (by simp only [List.length_append]; have := NUM.out; omega) (by simp only [List.length_append]; have := NUM.out; omega) (by have := NUM.out; omega) (by have := NUM.out; omega) (by have := NUM.out; omega) (by have := NUM.out; omega) HL.out.right HR.out.right)
          clear hml
          go_wp2_with fail
          refine HCR.out.mono ?_
          rintro e_ w5 ⟨rfl, M2, hM2, hE2, hs5⟩
          have HWE := hide (show SWh w0 g tl (P ++ ((M1 ++ M2) ++ Q)) w5 by simpa only [List.append_assoc] using hs5)
          have HM2 := hide hM2
          have HE2 := hide hE2
          clear hM2 hE2 hs5 HCR HWC
          go_wp2
          go_end0
          have hfin := mrg_fin HL.out HR.out HC1.out HC2.out HM1.out HE1.out HM2.out HE2.out
          exact ⟨rfl, M1 ++ M2, hfin.1, (by simpa only [List.append_assoc] using hfin.2), HWE.out⟩
        · have NU := NUM.out
          have cA : (I : Int) < (m : Int) := by omega
          have cB : (m : Int) < (E : Int) := by omega
          have cC : (a : Int) < (I : Int) := by omega
          have cD : (I : Int) < (d : Int) := by omega
          have cE : (d : Int) < (E : Int) := by omega
          have cF : ¬ (E : Int) < (b : Int) := by omega
          have NUM := hide (And.intro NU (And.intro h1 h2))
          clear NU h1 h2
          have hA : SWh w0 g tl ((P ++ L1) ++ (L2 ++ (R1 ++ (R2 ++ Q)))) wr := by have h := HW.out; simpa only [List.append_assoc] using h
          have HRO := hide (rotate_any (.func (.func f) #[] cb) tl g cap N I m E (P ++ L1) L2 R1 (R2 ++ Q) w0 wr hA (by simp only [List.length_append]; have := NUM.out; omega) (by simp only [List.length_append]; have := NUM.out; omega) (by have := NUM.out; omega) (by have := NUM.out; omega) (by have := NUM.out; omega) (by have := NUM.out; omega) hcap hn)
          clear hA
          go_wp2_with fail
          refine HRO.out.mono ?_
          rintro e_ w3 ⟨rfl, hs3⟩
          have HWB := hide (show SWh w0 g tl (P ++ (L1 ++ (R1 ++ (L2 ++ (R2 ++ Q))))) w3 by simpa only [List.append_assoc] using hs3)
          clear hs3 HRO HW
          have HCL := hide (HIH.out P L1 R1 (L2 ++ (R2 ++ Q)) a I d w3 (by have := NUM.out; omega) HWB.out (fun y hy => HD.out y (by rcases List.mem_append.1 hy with h | h <;> simp [h])) (by simp only [List.length_append]; have := NUM.out; omega) (by have := NUM.out; omega) (by have := NUM.out; omega) (by have := NUM.out; omega) (by have := NUM.out; omega) (by have := NUM.out; omega) HL.out.left HR.out.left)
          go_wp2_with fail
          refine HCL.out.mono ?_
          rintro e_ w4 ⟨rfl, M1, hM1, hE1, hs4⟩
          have HWC := hide (show SWh w0 g tl ((P ++ M1) ++ (L2 ++ (R2 ++ Q))) w4 by simpa only [List.append_assoc] using hs4)
          have HM1 := hide hM1
          have HE1 := hide hE1
          clear hM1 hE1 hs4 HCL HWB
          obtain ⟨M2, hM⟩ : ∃ M2, M2 = L2 ++ R2 := ⟨_, rfl⟩
          have HWE := hide (show SWh w0 g tl (P ++ ((M1 ++ M2) ++ Q)) w4 by rw [hM]; have h := HWC.out; simpa only [List.append_assoc] using h)
          have HM2 := hide (show Std M2 by
            rw [hM]
            refine mrg_nil HL.out.right HR.out.right ?_
            have := NUM.out
            rcases Nat.eq_zero_or_pos L2.length with h | h
            · exact .inl (List.length_eq_zero_iff.1 h)
            · exact .inr (List.length_eq_zero_iff.1 (by omega)))
          have HE2 := hide (show Eqv M2 (L2 ++ R2) by rw [hM]; exact Eqv.refl _)
          clear hM HWC
          go_wp2
          go_end0
          have hfin := mrg_fin HL.out HR.out HC1.out HC2.out HM1.out HE1.out HM2.out HE2.out
          exact ⟨rfl, M1 ++ M2, hfin.1, (by simpa only [List.append_assoc] using hfin.2), HWE.out⟩
        · exfalso
          have := NUM.out
          have := HK.out
          omega
        · exfalso
          have := NUM.out
          have := HK.out
          omega
        · exfalso
          have := NUM.out
          have := HK.out
          omega
end Go.Proofs.Ytgjhjabnnhhkbaa
