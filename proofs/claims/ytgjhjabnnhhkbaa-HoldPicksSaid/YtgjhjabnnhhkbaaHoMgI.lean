/- Walks: the insertion sort of a block in a row. Printed by gen_ho_mgi.py. -/
import Derived.Test.YtgjhjabnnhhkbaaHoSort
namespace Go.Proofs.Ytgjhjabnnhhkbaa
open Go.RowKit

theorem pre_at {Pre L : List Ho} {j J : Nat} (hJ : J = Pre.length + j) : (Pre ++ L)[J]? = L[j]? := by
  rw [List.getElem?_append_right (by omega)]; congr 1; omega
theorem pre_set {Pre L : List Ho} {j J : Nat} {y : Ho} (hJ : J = Pre.length + j) : (Pre ++ L).set J y = Pre ++ L.set j y := by
  rw [List.set_append_right _ _ (by omega)]; congr 2; omega
theorem slidP_at {Pre P : List Ho} {x : Ho} {R : List Ho} {j J : Nat} (h : j ≤ P.length) (hJ : J = Pre.length + j) : (Pre ++ slidh P x R j)[J]? = some x := by
  rw [pre_at hJ]; exact slidh_at h
theorem slidP_prev {Pre P : List Ho} {x : Ho} {R : List Ho} {j J : Nat} (h : j + 1 ≤ P.length) (hJ : J = Pre.length + j) : (Pre ++ slidh P x R (j + 1))[J]? = some (P.getD j ho0) := by
  rw [pre_at hJ]; exact slidh_prev h
theorem slidP_swap {Pre P : List Ho} {x : Ho} {R : List Ho} {j J : Nat} (h : j + 1 ≤ P.length) (hJ : J = Pre.length + j) : ((Pre ++ slidh P x R (j + 1)).set (J + 1) (P.getD j ho0)).set J x = Pre ++ slidh P x R j := by
  rw [pre_set (j := j + 1) (by omega), pre_set hJ, slidh_swap h]

set_option maxRecDepth 100000 in
set_option maxHeartbeats 4000000 in
theorem insertionAt_any (f : Nat) (cb : Array Value) (cf : Ho → Ho → Int) (Pd : Ho → Prop) (tl : List Value) (g cap N a b : Nat) (Pre d Post : List Ho) (w0 w : World) (eg : ∀ args w, (callFunc f args).run Try.prog w = .ok (.enter f args) w)
    (hcmp : Cmph f cb cf Pd g w0) (hs : SWh w0 g tl (Pre ++ (d ++ Post)) w) (hd : ∀ x ∈ d, Pd x) (hN : (Pre ++ (d ++ Post)).length = N) (ha : a = Pre.length) (hb : b = a + d.length) (hcap : N ≤ cap) (hn : N ≤ 1000) :
    Calls Try.prog 62 #[.slice (some ⟨g, 0, none⟩) N cap, .int .i64 a, .int .i64 b, .func (.func f) #[] cb] w fun e w' => e = .returned (.tuple #[]) ∧ SWh w0 g tl (Pre ++ (isorth cf d ++ Post)) w' := by
  have hN' : a + d.length + Post.length = N := by rw [← hN, ha]; simp; omega
  clear hN
  have HA := hide ha
  have HN := hide hN'
  have HB := hide hb
  have haN : (a : Int) + 1 ≤ 1001 := by omega
  have hbN : b ≤ N := by omega
  clear ha hN' hb
  have HC := hide hcmp
  have HS := hide hs
  have HD := hide hd
  clear hcmp hs hd
  go_enter Try.func62, Try.ntmps62
  go_wp2
  go_loopw [8] (fun s8 wr => ∃ i : Nat, 1 ≤ i ∧ i ≤ d.length + 1 ∧ (∃ I : Nat, I = a + i ∧ s8 = .int .i64 I) ∧ SWh w0 g tl (Pre ++ ((isorth cf (d.take i) ++ d.drop i) ++ Post)) wr) (fun s8 _ => b + 1 - (intOf s8).toNat)
  case atStart =>
    refine ⟨1, Nat.le_refl _, by omega, ⟨a + 1, rfl, by go_num⟩, ?_⟩
    have : isorth cf (d.take 1) ++ d.drop 1 = d := by
      match d with
      | [] => rfl
      | [a] => rfl
      | a :: b :: r => rfl
    rw [this]; exact HS.out
  case round =>
    obtain ⟨i, hi1, hi2, ⟨I, hI, rfl⟩, hsw⟩ := hrel
    have HI := hide hI
    clear hI
    have HW := hide hsw
    clear hsw HS
    by_cases hlt : i < d.length
    · have hltz : (I : Int) < (b : Int) := by have := HI.out; have := HB.out; omega
      have hIb : I < b := by omega
      have hIN : (I : Int) + 1 ≤ 1000 := by omega
      obtain ⟨x, hx⟩ : ∃ x, d[i]? = some x := ⟨_, List.getElem?_eq_getElem hlt⟩
      obtain ⟨P, hP⟩ : ∃ P, P = isorth cf (d.take i) := ⟨_, rfl⟩
      obtain ⟨R, hR⟩ : ∃ R, R = d.drop (i + 1) ++ Post := ⟨_, rfl⟩
      have hPl : P.length = i := by rw [hP, isorth_len, List.length_take]; omega
      have hRl : R.length = d.length - (i + 1) + Post.length := by rw [hR, List.length_append, List.length_drop]
      have hst : (isorth cf (d.take i) ++ d.drop i) ++ Post = slidh P x R i := by
        have t1 : P.take i = P := List.take_of_length_le (by omega)
        have t2 : P.drop i = [] := List.drop_of_length_le (by omega)
        obtain ⟨_, rfl⟩ := List.getElem?_eq_some_iff.1 hx
        unfold slidh
        rw [← hP, t1, t2, hR, List.drop_eq_getElem_cons hlt]
        simp only [List.append_assoc, List.cons_append, List.nil_append, List.append_nil]
      have hend : (isorth cf (d.take (i + 1)) ++ d.drop (i + 1)) ++ Post = slidh P x R (insKh cf x P i) := by
        rw [take_step hx, isorth_snoc]
        unfold slidh insFh
        rw [← hP, hPl, hR]
        simp
      have hPd : ∀ y ∈ P, Pd y := fun y hy => HD.out y (List.mem_of_mem_take (isorth_mem.1 (hP ▸ hy)))
      have hxd : Pd x := HD.out x (List.mem_of_getElem? hx)
      have HST := hide hst
      have HEND := hide hend
      have HPD := hide hPd
      have HXD := hide hxd
      have HPL := hide hPl
      have HRL := hide hRl
      have hW2 : SWh w0 g tl (Pre ++ slidh P x R i) wr := by rw [← HST.out]; exact HW.out
      have HW2 := hide hW2
      clear hx hP hR hst hend hPd hxd hPl hRl hW2 HW
      go_wp2
      go_loopw [9] (fun s9 wr => ∃ j : Nat, j ≤ i ∧ (∃ J : Nat, J = a + j ∧ s9 = .int .i64 J) ∧ SWh w0 g tl (Pre ++ slidh P x R j) wr ∧ insKh cf x P i = insKh cf x P j) (fun s9 _ => (intOf s9).toNat)
      case atStart => exact ⟨i, Nat.le_refl _, ⟨I, HI.out, rfl⟩, HW2.out, rfl⟩
      case round =>
        obtain ⟨j, hj, ⟨J, hJ, rfl⟩, hsw, hk⟩ := hrel
        have HJ := hide hJ
        clear hJ
        have HW := hide hsw
        have HK := hide hk
        clear hsw hk HW2
        have hjn : J < N := by have := HI.out; have := HB.out; have := HN.out; have := HJ.out; omega
        have hjc : J < cap := by omega
        by_cases hj0 : 0 < j
        · obtain ⟨q, rfl⟩ : ∃ q, j = q + 1 := ⟨j - 1, by omega⟩
          obtain ⟨Q, rfl⟩ : ∃ Q, J = Q + 1 := ⟨J - 1, by have := HJ.out; omega⟩
          have e1 : IntKind.i64.wrap ((Q : Int) + 1 - 1) = (Q : Int) := by rw [IntKind.wrap_i64]; omega
          have e2 : ((Q : Int) + 1).toNat = Q + 1 := by omega
          have e3 : (0 : Int) ≤ (Q : Int) + 1 := by omega
          have e4 : (a : Int) < (Q : Int) + 1 := by have := HJ.out; omega
          have e5 : (Q : Int) + 1 < (N : Int) := by omega
          have e6 : Q < N := by omega
          have e7 : ((Q : Int) + 1 - 1) = (Q : Int) := by omega
          have hQ : Q = Pre.length + q := by have := HA.out; have := HJ.out; omega
          have HQ := hide hQ
          clear hQ
          have hxq := slidP_at (Pre := Pre) (P := P) (x := x) (R := R) (j := q + 1) (J := Q + 1) (by rw [HPL.out]; omega) (by have := HQ.out; omega)
          have hyq := slidP_prev (Pre := Pre) (P := P) (x := x) (R := R) (j := q) (by rw [HPL.out]; omega) HQ.out
          obtain ⟨o, ho⟩ : ∃ o, Q * 11 = o := ⟨_, rfl⟩
          have ho1 : (Q + 1) * 11 = o + 11 := by omega
          obtain ⟨y, hy⟩ : ∃ y, y = P.getD q ho0 := ⟨_, rfl⟩
          rw [← hy] at hyq
          obtain ⟨l0, l1, l2, l3, l4, l5, l6, l7, l8, l9, l10, l11, l12, l13, l14, l15, l16, l17, l18, l19, l20, l21⟩ := HW.out.two ho hyq hxq
          have HXQ := hide hxq
          have HYQ := hide hyq
          have hyP : Pd y := by
            rw [hy, List.getD_eq_getElem?_getD, List.getElem?_eq_getElem (by rw [HPL.out]; omega)]
            exact HPD.out _ (List.getElem_mem _)
          have hcall := fun W hW => HC.out W x y HXD.out hyP hW
          have HY := hide hy
          have HCA := hide hcall
          unfold hoV at HCA
          clear hy hyP hcall hxq hyq
          have hjd : decide ((Q : Int) + 1 > (a : Int)) = true := decide_eq_true e4
          by_cases hv : cf x y < 0
          · have hvd : decide (cf x y < 0) = true := by simpa using hv
            have HV := hide hv
            clear hv
            have f0 := Grn.cell l0
            have f1 := Grn.cell l1
            have f2 := Grn.cell l2
            have f3 := Grn.cell l3
            have f4 := Grn.cell l4
            have f5 := Grn.cell l5
            have f6 := Grn.cell l6
            have f7 := Grn.cell l7
            have f8 := Grn.cell l8
            have f9 := Grn.cell l9
            have f10 := Grn.cell l10
            have f11 := Grn.cell l11
            have f12 := Grn.cell l12
            have f13 := Grn.cell l13
            have f14 := Grn.cell l14
            have f15 := Grn.cell l15
            have f16 := Grn.cell l16
            have f17 := Grn.cell l17
            have f18 := Grn.cell l18
            have f19 := Grn.cell l19
            have f20 := Grn.cell l20
            have f21 := Grn.cell l21
            go_wp2_with fail
            refine wp_region_grn (by kernel_rfl) (by kernel_rfl) ?_
            repeat (go_big_quiet_step ((go_at_fn f; exact Calls_grn (HCA.out _ (HW.out.below (Grn.h _)).old (HW.out.below (Grn.h _)).box.lt))))
            refine wpQuiet_nil ?_
            rintro _ ⟨p, rfl⟩
            obtain ⟨w2, hw2⟩ : ∃ w2, w2 = p.W := ⟨_, rfl⟩
            have S2 : SWh w0 g tl (Pre ++ slidh P x R (q + 1)) w2 := by rw [hw2]; exact HW.out.below p.h
            rw [← hw2]
            have HS2 := hide S2
            clear hw2 l0 l1 l2 l3 l4 l5 l6 l7 l8 l9 l10 l11 l12 l13 l14 l15 l16 l17 l18 l19 l20 l21 f0 f1 f2 f3 f4 f5 f6 f7 f8 f9 f10 f11 f12 f13 f14 f15 f16 f17 f18 f19 f20 f21
            obtain ⟨m0, m1, m2, m3, m4, m5, m6, m7, m8, m9, m10, m11, m12, m13, m14, m15, m16, m17, m18, m19, m20, m21⟩ := S2.two ho HYQ.out HXQ.out
            have mf := fun j => S2.box.frz j
            clear S2 HCA HW
            go_wp2_with fail
            go_big_region
            have hLn : (Pre ++ slidh P x R (q + 1)).length = N := by rw [List.length_append, slidh_len (by rw [HPL.out]; omega)]; have := HPL.out; have := HA.out; have := HN.out; rw [HRL.out]; omega
            have S3 := (HS2.out.set (j := Q + 1) (by omega) y).set (j := Q) (by rw [List.length_set]; omega) x
            clear hLn
            rw [HY.out, slidP_swap (by rw [HPL.out]; omega) HQ.out, ← HY.out, ho, ho1] at S3
            have HS3 := hide S3
            clear S3 HS2 mf m0 m1 m2 m3 m4 m5 m6 m7 m8 m9 m10 m11 m12 m13 m14 m15 m16 m17 m18 m19 m20 m21
            go_wp2
            go_roundw
            case rel => exact ⟨q, by omega, ⟨Q, by have := HJ.out; omega, by go_num⟩, HS3.out.drew, by rw [HK.out, insKh, if_pos (by rw [← HY.out]; exact HV.out)]⟩
            case measure => simp [intOf]
          · have hvd : decide (cf x y < 0) = false := by simpa using hv
            have HV := hide hv
            clear hv
            have f0 := Grn.cell l0
            have f1 := Grn.cell l1
            have f2 := Grn.cell l2
            have f3 := Grn.cell l3
            have f4 := Grn.cell l4
            have f5 := Grn.cell l5
            have f6 := Grn.cell l6
            have f7 := Grn.cell l7
            have f8 := Grn.cell l8
            have f9 := Grn.cell l9
            have f10 := Grn.cell l10
            have f11 := Grn.cell l11
            have f12 := Grn.cell l12
            have f13 := Grn.cell l13
            have f14 := Grn.cell l14
            have f15 := Grn.cell l15
            have f16 := Grn.cell l16
            have f17 := Grn.cell l17
            have f18 := Grn.cell l18
            have f19 := Grn.cell l19
            have f20 := Grn.cell l20
            have f21 := Grn.cell l21
            go_wp2_with fail
            refine wp_region_grn (by kernel_rfl) (by kernel_rfl) ?_
            repeat (go_big_quiet_step ((go_at_fn f; exact Calls_grn (HCA.out _ (HW.out.below (Grn.h _)).old (HW.out.below (Grn.h _)).box.lt))))
            refine wpQuiet_nil ?_
            rintro _ ⟨p, rfl⟩
            obtain ⟨w2, hw2⟩ : ∃ w2, w2 = p.W := ⟨_, rfl⟩
            have S2 : SWh w0 g tl (Pre ++ slidh P x R (q + 1)) w2 := by rw [hw2]; exact HW.out.below p.h
            rw [← hw2]
            have HS2 := hide S2
            clear hw2 l0 l1 l2 l3 l4 l5 l6 l7 l8 l9 l10 l11 l12 l13 l14 l15 l16 l17 l18 l19 l20 l21 f0 f1 f2 f3 f4 f5 f6 f7 f8 f9 f10 f11 f12 f13 f14 f15 f16 f17 f18 f19 f20 f21
            clear S2 HCA HW
            go_wp2
            go_roundw
            case rel => exact ⟨i + 1, by omega, by omega, ⟨I + 1, by have := HI.out; omega, by go_num⟩, by rw [HEND.out, HK.out, insKh, if_neg (by rw [← HY.out]; have := HV.out; omega)]; exact HS2.out⟩
            case measure => have := HI.out; have := HB.out; have e : IntKind.i64.wrap ((I : Int) + 1) = (I : Int) + 1 := (by rw [IntKind.wrap_i64]; omega); simp [intOf, e]; omega
        · obtain rfl : j = 0 := by omega
          obtain rfl : J = a := by have := HJ.out; omega
          have hjd : decide ((J : Int) > (J : Int)) = false := by simp
          go_wp2_with fail
          refine wp_region_grn (by kernel_rfl) (by kernel_rfl) ?_
          repeat (go_big_quiet_step (fail))
          refine wpQuiet_nil ?_
          rintro _ ⟨p, rfl⟩
          obtain ⟨w2, hw2⟩ : ∃ w2, w2 = p.W := ⟨_, rfl⟩
          have HS2 := hide (show SWh w0 g tl (Pre ++ slidh P x R 0) w2 by rw [hw2]; exact HW.out.below p.h)
          rw [← hw2]
          clear HW hw2
          go_wp2
          go_roundw
          case rel => exact ⟨i + 1, by omega, by omega, ⟨I + 1, by have := HI.out; omega, by go_num⟩, by rw [HEND.out, HK.out]; exact HS2.out⟩
          case measure => have := HI.out; have := HB.out; have e : IntKind.i64.wrap ((I : Int) + 1) = (I : Int) + 1 := (by rw [IntKind.wrap_i64]; omega); simp [intOf, e]; omega
    · have hltz : ¬ (I : Int) < (b : Int) := by have := HI.out; have := HB.out; omega
      go_wp2
      go_end0
      refine ⟨rfl, ?_⟩
      have := HW.out
      rwa [List.take_of_length_le (by omega), List.drop_of_length_le (by omega), List.append_nil] at this

end Go.Proofs.Ytgjhjabnnhhkbaa
