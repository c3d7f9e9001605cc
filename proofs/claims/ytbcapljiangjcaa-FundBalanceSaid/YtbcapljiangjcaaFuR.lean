/- Walks: the chapter's examples. -/
import Derived.Test.YtbcapljiangjcaaFuQ
import Derived.Test.YtbcapljiangjcaaFuG
namespace Go.Proofs.Ytbcapljiangjcaa
open Go.RowKit Go.Maps

def exL : List Fu := [⟨1, 0, 1000, 200, 300⟩, ⟨2, 1, 500, 0, 0⟩]
theorem exM : ∀ x ∈ exL, FuM x := by
  intro x hx
  simp only [exL, List.mem_cons, List.not_mem_nil, or_false] at hx
  rcases hx with rfl | rfl <;> exact ⟨⟨by decide, by decide⟩, ⟨by decide, by decide⟩, ⟨by decide, by decide⟩⟩
theorem exW : ∀ x ∈ exL, FuW x := by
  intro x hx
  simp only [exL, List.mem_cons, List.not_mem_nil, or_false] at hx
  rcases hx with rfl | rfl <;> exact ⟨⟨by decide, by decide⟩, ⟨by decide, by decide⟩, ⟨by decide, by decide⟩, ⟨by decide, by decide⟩, ⟨by decide, by decide⟩⟩
theorem ex1 : chR (spdF 200 700) exL 1 = (0, [⟨1, 0, 1000, 0, 1000⟩, ⟨2, 1, 500, 0, 0⟩]) := by decide +kernel
theorem ex2 : chR (spdF 200 701) exL 1 = (17, []) := by decide +kernel
theorem ex3 : chR (spdF 201 0) exL 1 = (17, []) := by decide +kernel
theorem ex4 : trR exL 1 2 501 = (17, []) := by decide +kernel
theorem ex5 : trR exL 1 1 0 = (1, []) := by decide +kernel
theorem ex6 : trR exL 1 3 0 = (9, []) := by decide +kernel
theorem ex7 : freeF (getF exL 1).1 = 500 := by decide +kernel
theorem ex8 : totP exL 1 = ⟨1, 0, 1500, 200, 300⟩ := by decide +kernel

/-- A literal slice of two funds. -/
theorem two_funds (w : World) (x y : Fu) : Fs (w.alloc (.cells #[.int .i64 x.id, .int .i64 x.parent, .int .i64 x.budget, .int .i64 x.enc, .int .i64 x.spent, .int .i64 y.id, .int .i64 y.parent, .int .i64 y.budget, .int .i64 y.enc, .int .i64 y.spent] 26)) (w.heap.size + 1) (some ⟨w.heap.size, 0, none⟩) 2 2 [x, y] := by
  refine ⟨rfl, Nat.le_refl _, by omega, by simp, fun _ => ⟨w.heap.size, 0, rfl, by omega, ?_⟩⟩
  have hb := Box.new w 26 #[.int .i64 x.id, .int .i64 x.parent, .int .i64 x.budget, .int .i64 x.enc, .int .i64 x.spent, .int .i64 y.id, .int .i64 y.parent, .int .i64 y.budget, .int .i64 y.enc, .int .i64 y.spent]
  intro i z hz j u hu
  rw [Nat.zero_add, hb.cell]
  have hj : j < 5 := by have := (List.getElem?_eq_some_iff.1 hu).1; simpa [fuE] using this
  match i, hz with
  | 0, hz =>
    simp at hz; subst hz
    rw [← hu]
    match j, hj with
    | 0, _ => rfl
    | 1, _ => rfl
    | 2, _ => rfl
    | 3, _ => rfl
    | 4, _ => rfl
  | 1, hz =>
    simp at hz; subst hz
    rw [← hu]
    match j, hj with
    | 0, _ => rfl
    | 1, _ => rfl
    | 2, _ => rfl
    | 3, _ => rfl
    | 4, _ => rfl

set_option maxRecDepth 100000 in
set_option maxHeartbeats 2000000 in
theorem alive_any (w : World) : Calls Try.prog 11 #[] w fun e w' => e = .returned (.bool true) ∧ Below w.heap.size w w' := by
  have hgd := fu_guard
  have h0 : ∀ W, Below (w.heap.size + 1) (w.alloc (.cells #[.int .i64 1, .int .i64 0, .int .i64 1000, .int .i64 200, .int .i64 300, .int .i64 2, .int .i64 1, .int .i64 500, .int .i64 0, .int .i64 0] 26)) W → Fs W W.heap.size (some ⟨w.heap.size, 0, none⟩) 2 2 exL := fun W hW =>
    ((two_funds w ⟨1, 0, 1000, 200, 300⟩ ⟨2, 1, 500, 0, 0⟩).below hW).more (by have := hW.size; simpa using this)
  have hcell : ∀ W, Below (w.heap.size + 1) (w.alloc (.cells #[.int .i64 1, .int .i64 0, .int .i64 1000, .int .i64 200, .int .i64 300, .int .i64 2, .int .i64 1, .int .i64 500, .int .i64 0, .int .i64 0] 26)) W → (W.cell? ⟨w.heap.size, 5, none⟩ = some (.int .i64 2) ∧ W.cell? ⟨w.heap.size, 6, none⟩ = some (.int .i64 1) ∧ W.cell? ⟨w.heap.size, 7, none⟩ = some (.int .i64 500) ∧ W.cell? ⟨w.heap.size, 8, none⟩ = some (.int .i64 0) ∧ W.cell? ⟨w.heap.size, 9, none⟩ = some (.int .i64 0)) := fun W hW =>
    have hb := (Box.new w 26 #[.int .i64 1, .int .i64 0, .int .i64 1000, .int .i64 200, .int .i64 300, .int .i64 2, .int .i64 1, .int .i64 500, .int .i64 0, .int .i64 0]).below hW (by omega)
    ⟨hb.cell 5, hb.cell 6, hb.cell 7, hb.cell 8, hb.cell 9⟩
  have hr0 : Below (w.heap.size + 1) (w.alloc (.cells #[.int .i64 1, .int .i64 0, .int .i64 1000, .int .i64 200, .int .i64 300, .int .i64 2, .int .i64 1, .int .i64 500, .int .i64 0, .int .i64 0] 26)) (w.alloc (.cells #[.int .i64 1, .int .i64 0, .int .i64 1000, .int .i64 200, .int .i64 300, .int .i64 2, .int .i64 1, .int .i64 500, .int .i64 0, .int .i64 0] 26)) := Below.refl _ _
  have H0 := hide h0
  have HC := hide hcell
  have B1 := hide hr0
  clear h0 hr0 hcell
  go_enter Try.func11, Try.ntmps11
  have hc := pspd_any (some ⟨w.heap.size, 0, none⟩) 2 2 exL 1 200 700 _ (H0.out _ B1.out) (by omega) exM
  rw [ex1] at hc
  have HCC := hide hc
  clear hc
  go_wp2_with fail
  refine HCC.out.mono ?_
  rintro e w2 ⟨v, rfl, hown, hb⟩
  have B2 := hide (B1.out.trans (hb.mono (by simp)))
  obtain ⟨ga, ca, hva, hgb, hgl⟩ := hown.form (by decide)
  subst hva
  have hsl := Sl.of_own (xs := [(⟨1, 0, 1000, 0, 1000⟩ : Fu), ⟨2, 1, 500, 0, 0⟩]) fuE_len hown rfl (by decide)
  have HSL := hide hsl
  have hz2 : w.heap.size + 1 ≤ w2.heap.size := by have := B2.out.size; simpa using this
  clear hown hb HCC hsl hgb
  have hc := pspd_any (some ⟨w.heap.size, 0, none⟩) 2 2 exL 1 200 701 _ (H0.out _ B2.out) (by omega) exM
  rw [ex2] at hc
  have HCC := hide hc
  clear hc
  go_wp2_with fail
  refine HCC.out.mono ?_
  rintro e w3 ⟨v, rfl, hown, hb⟩
  have B3 := hide (B2.out.trans (hb.mono (by have := B2.out.size; simpa using this)))
  have K3 := hide (Below.trans (Below.refl w2.heap.size w2) hb)
  clear hb HCC hown
  have hc := pspd_any (some ⟨w.heap.size, 0, none⟩) 2 2 exL 1 201 0 _ (H0.out _ B3.out) (by omega) exM
  rw [ex3] at hc
  have HCC := hide hc
  clear hc
  go_wp2_with fail
  refine HCC.out.mono ?_
  rintro e w4 ⟨v, rfl, hown, hb⟩
  have B4 := hide (B3.out.trans (hb.mono (by have := B3.out.size; simpa using this)))
  have K4 := hide (K3.out.trans (hb.mono K3.out.size))
  clear hb HCC hown
  have hc := ptr_any (some ⟨w.heap.size, 0, none⟩) 2 2 exL 1 2 501 _ (H0.out _ B4.out) (by omega) exM ⟨by decide, by decide⟩
  rw [ex4] at hc
  have HCC := hide hc
  clear hc
  go_wp2_with fail
  refine HCC.out.mono ?_
  rintro e w5 ⟨v, rfl, hown, hb⟩
  have B5 := hide (B4.out.trans (hb.mono (by have := B4.out.size; simpa using this)))
  have K5 := hide (K4.out.trans (hb.mono K4.out.size))
  clear hb HCC hown
  have hc := ptr_any (some ⟨w.heap.size, 0, none⟩) 2 2 exL 1 1 0 _ (H0.out _ B5.out) (by omega) exM ⟨by decide, by decide⟩
  rw [ex5] at hc
  have HCC := hide hc
  clear hc
  go_wp2_with fail
  refine HCC.out.mono ?_
  rintro e w6 ⟨v, rfl, hown, hb⟩
  have B6 := hide (B5.out.trans (hb.mono (by have := B5.out.size; simpa using this)))
  have K6 := hide (K5.out.trans (hb.mono K5.out.size))
  clear hb HCC hown
  have hc := ptr_any (some ⟨w.heap.size, 0, none⟩) 2 2 exL 1 3 0 _ (H0.out _ B6.out) (by omega) exM ⟨by decide, by decide⟩
  rw [ex6] at hc
  have HCC := hide hc
  clear hc
  go_wp2_with fail
  refine HCC.out.mono ?_
  rintro e w7 ⟨v, rfl, hown, hb⟩
  have B7 := hide (B6.out.trans (hb.mono (by have := B6.out.size; simpa using this)))
  have K7 := hide (K6.out.trans (hb.mono K6.out.size))
  clear hb HCC hown
  have hc := pfree_any (some ⟨w.heap.size, 0, none⟩) 2 2 exL 1 _ (H0.out _ B7.out) exM
  rw [ex7] at hc
  have HCC := hide hc
  clear hc
  go_wp2_with fail
  refine HCC.out.mono ?_
  rintro e w8 ⟨rfl, hb⟩
  have B8 := hide (B7.out.trans (hb.mono (by have := B7.out.size; simpa using this)))
  have K8 := hide (K7.out.trans (hb.mono K7.out.size))
  clear hb HCC
  have hc := ptotal_any (some ⟨w.heap.size, 0, none⟩) 2 2 exL 1 _ (H0.out _ B8.out) (by omega) exM exW
  rw [ex8] at hc
  unfold fuV at hc
  have HCC := hide hc
  clear hc
  go_wp2_with fail
  refine HCC.out.mono ?_
  rintro e w9 ⟨rfl, hb⟩
  have B9 := hide (B8.out.trans (hb.mono (by have := B8.out.size; simpa using this)))
  have K9 := hide (K8.out.trans (hb.mono K8.out.size))
  have heq := fu_eql ⟨1, 0, 1500, 200, 300⟩ ⟨1, 0, 1500, 200, 300⟩
  rw [decide_eq_true rfl] at heq
  unfold fuV at heq
  obtain ⟨q5, q6, q7, q8, q9⟩ := HC.out _ B9.out
  clear hb HCC
  go_wp2_with fail
  have hsA := ((HSL.out.below K9.out).more K9.out.size).alloc (Nat.le_refl _) (.cells #[.int .i64 1, .int .i64 0, .int .i64 1000, .int .i64 0, .int .i64 1000, .int .i64 2, .int .i64 1, .int .i64 500, .int .i64 0, .int .i64 0] 26)
  have hsame := same_any _ _ 2 ca 2 2 _ _ _ (hsA.more (Nat.le_of_lt (by rw [World.size_alloc]; omega))) ((two_funds w9 ⟨1, 0, 1000, 0, 1000⟩ ⟨2, 1, 500, 0, 0⟩).more (by rw [World.size_alloc]; omega))
  rw [decide_eq_true rfl] at hsame
  have HSA := hide hsame
  clear hsA hsame
  refine HSA.out.mono ?_
  rintro e w10 ⟨rfl, hb⟩
  have B10 := hide (B9.out.trans ((below_call hb).mono (by have := B9.out.size; simpa using this)))
  clear hb HSA
  go_wp2
  go_ret
  have hfin := ((Below.refl w.heap.size w).alloc (Nat.le_refl _) (.cells #[.int .i64 1, .int .i64 0, .int .i64 1000, .int .i64 200, .int .i64 300, .int .i64 2, .int .i64 1, .int .i64 500, .int .i64 0, .int .i64 0] 26)).trans (B10.out.mono (by omega))
  exact ⟨rfl, hfin⟩
end Go.Proofs.Ytbcapljiangjcaa
