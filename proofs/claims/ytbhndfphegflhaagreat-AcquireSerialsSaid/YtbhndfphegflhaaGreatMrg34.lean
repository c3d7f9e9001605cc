/- Texts laid together by merge.py: SeC, SeP. -/
import Derived.Test.YtbhndfphegflhaaGreatMrg33
import Derived.Test.YtbhndfphegflhaaGreatMrg29
import Derived.Test.YtbhndfphegflhaaGreatMrg32
set_option linter.unusedSimpArgs false
set_option linter.unusedVariables false
/- Walks: Right of the reference (subscriptions). -/
namespace Go.Proofs.YtbhndfphegflhaaGreat
open Go.RowKit

set_option maxRecDepth 100000 in
set_option maxHeartbeats 4000000 in
theorem rright37_any (s : Se) (w : World) (hs : SeS w w.heap.size s) :
    Calls Tryz.prog 58 #[seV s] w fun e w' => e = .returned (.int .i64 (seErr s)) ∧ Below w.heap.size w w' := by
  have B0 := hide ((Below.refl w.heap.size w).alloc (Nat.le_refl _) (.cells (seC s) 76))
  have X0 := hide (Box.new w 76 (seC s))
  have HS := hide hs
  have hlen := hs.iu.len
  have hbig := hs.iu.big
  have HP := hide (rright36_any (sePt s) _ ((hs.pt.below B0.out).more B0.out.size))
  unfold ptV sePt at HP
  clear hs
  by_cases h1 : 1 ≤ s.rcd ∧ s.rcd ≤ 9999
  · have H1 := hide (winB_iff.2 h1)
    obtain ⟨a1, a2⟩ := h1
    obtain ⟨m1, hm1⟩ : ∃ m, ptErr (sePt s) = m := ⟨_, rfl⟩
    have HM1 := hide hm1
    unfold sePt at hm1
    rw [hm1] at HP
    clear hm1
    unfold seV
    go_enter Tryz.func58, Tryz.ntmps58
    go_wp2_with fail
    refine HP.out.mono ?_
    rintro e w1 ⟨rfl, hb⟩
    have B1 := hide (B0.out.trans (hb.mono B0.out.size))
    have X1 := hide (X0.out.below hb (by simp))
    have q0 := X1.out.cell 0
    have q1 := X1.out.cell 1
    have q2 := X1.out.cell 2
    have q3 := X1.out.cell 3
    have q4 := X1.out.cell 4
    have q5 := X1.out.cell 5
    have q6 := X1.out.cell 6
    have q7 := X1.out.cell 7
    have q8 := X1.out.cell 8
    simp at q0 q1 q2 q3 q4 q5 q6 q7 q8
    clear hb HP
    by_cases hz1 : (m1 != 0) = true
    · have HR := hide (show seErr s = m1 by
        unfold seErr
        rw [H1.out, if_neg (by decide), HM1.out, if_pos hz1])
      go_wp2
      go_ret
      exact ⟨ret_int HR.out.symm, B1.out⟩
    have hz1' : (m1 != 0) = false := by simpa using hz1
    have hM : PtM (sePt s) := ptErr_M (by rw [HM1.out]; simpa using hz1)
    have HM := hide hM
    have HE := hide (show seErr s = if 128 < s.iu.length then 13 else if winB s.nx 0 5000 = false then 2 else if okSe s = true then 0 else 1 by
      unfold seErr
      rw [H1.out, if_neg (by decide), HM1.out, hz1', if_neg (by decide)])
    clear hz1 hM
    by_cases h128 : 128 < s.iun
    · have HR := hide (show seErr s = 13 by rw [HE.out, if_pos (by omega)])
      have hz : (128 : Int) < (s.iun : Int) := by omega
      clear HE hlen
      go_wp2
      go_ret
      exact ⟨ret_int HR.out.symm, B1.out⟩
    have hz : ¬ (128 : Int) < (s.iun : Int) := by omega
    have HE2 := hide (show seErr s = if winB s.nx 0 5000 = false then 2 else if okSe s = true then 0 else 1 by rw [HE.out, if_neg (by omega)])
    clear HE h128 hlen
    by_cases hn : 0 ≤ s.nx ∧ s.nx ≤ 5000
    · obtain ⟨m, hm⟩ : ∃ m : Nat, s.nx = (m : Int) := ⟨s.nx.toNat, by omega⟩
      have HE3 := hide (show seErr s = if okSe s = true then 0 else 1 by rw [HE2.out, winB_iff.2 hn, if_neg (by decide)])
      have HI := hide (fun W (hW : Below w.heap.size w W) => rissB_any s m W ((HS.out.below hW).more hW.size) HM.out hm (by omega))
      have HI1 := hide (HI.out w1 B1.out)
      obtain ⟨n1, n2⟩ := hn
      unfold seV at HI1
      obtain ⟨q, hq⟩ : ∃ q, okSe s = q := ⟨_, rfl⟩
      rw [hq] at HI1 HE3
      clear hq hm HI
      go_wp2_with fail
      refine HI1.out.mono ?_
      rintro e w2 ⟨rfl, hb⟩
      have B2 := hide (B1.out.trans (hb.mono B1.out.size))
      clear hb HI1
      cases q with
      | true =>
        go_wp2
        go_ret
        exact ⟨ret_int (by rw [HE3.out]; rfl), B2.out⟩
      | false =>
        go_wp2
        go_ret
        exact ⟨ret_int (by rw [HE3.out]; rfl), B2.out⟩
    · have HR := hide (show seErr s = 2 by
        rw [HE2.out, if_pos]
        cases hq : winB s.nx 0 5000 with
        | false => rfl
        | true => exact absurd (winB_iff.1 hq) hn)
      clear HE2
      go_wp2
      all_goals first | (exfalso; omega) | (go_ret; exact ⟨ret_int HR.out.symm, B1.out⟩)
  · have HR := hide (show seErr s = 2 by
      unfold seErr
      rw [if_pos]
      cases hq : winB s.rcd 1 9999 with
      | false => rfl
      | true => exact absurd (winB_iff.1 hq) h1)
    unfold seV
    go_enter Tryz.func58, Tryz.ntmps58
    go_wp2
    all_goals first | (exfalso; omega) | (go_ret; exact ⟨ret_int HR.out.symm, B0.out⟩)
end Go.Proofs.YtbhndfphegflhaaGreat

/- Plain facts and small contracts for Right of a subscription (program). -/
namespace Go.Proofs.YtbhndfphegflhaaGreat
open Go.RowKit

theorem isL_take (p : Pt) (u : Int) : ∀ (n m : Nat) (s : Ps), m ≤ n → isL p u m s = (isL p u n s).take m
  | n, 0, s, _ => by simp [isL]
  | 0, m + 1, s, h => by omega
  | n + 1, m + 1, s, h => by
    rw [isL, isL]
    split
    · rw [List.take_succ_cons, ← isL_take p u n m _ (by omega)]
    · simp
theorem isL_new (p : Pt) (u : Int) : ∀ (n : Nat) (s : Ps), ∀ y ∈ isL p u n s, y.st = 1 ∧ y.itm = 0
  | 0, s => by simp [isL]
  | n + 1, s => by
    rw [isL]
    split
    · intro y hy
      rcases List.mem_cons.1 hy with rfl | hy
      · exact ⟨rfl, rfl⟩
      · exact isL_new p u n _ y hy
    · simp
/-- The issue as it was foreseen. -/
def forI (x : Iu) : Iu := ⟨x.vol, x.num, x.last, x.day, 1, 0⟩
theorem forI_eq {x y : Iu} (h : y.st = 1 ∧ y.itm = 0) : decide (forI x = y) = lstI x y := by
  obtain ⟨v, n, l, d, st, it⟩ := y
  obtain ⟨h1, h2⟩ := h
  simp only at h1 h2
  subst h1 h2
  simp only [forI, lstI, Iu.mk.injEq, and_true, Bool.decide_and, Bool.and_assoc]
  rfl
/-- What the program asks of an issue's item. -/
def itmB (x : Iu) : Bool := (hasI x && !winB x.itm 1 9999) || (!hasI x && (x.itm != 0))
theorem itmB_iff (x : Iu) : ((hasI x == decide (0 < x.itm)) && winB x.itm 0 9999) = !itmB x := by
  unfold itmB winB
  cases hasI x
  · by_cases h : x.itm = 0
    · simp [h]
    · by_cases h1 : 0 < x.itm
      · simp [h, h1]
      · have h2 : ¬ 0 ≤ x.itm := by omega
        simp [h, h1, h2]
  · simp
    by_cases h : 0 < x.itm
    · have h1 : 1 ≤ x.itm := by omega
      have h2 : 0 ≤ x.itm := by omega
      simp [h, h1, h2]
    · have h1 : ¬ 1 ≤ x.itm := by omega
      simp [h, h1]
theorem okI_prog {P : List Iu} {x y : Iu} (h : y.st = 1 ∧ y.itm = 0) : okI P x y = (decide (forI x = y) && winB x.st 1 5 && !itmB x && !(P.any (twoI x))) := by
  rw [forI_eq h, ← itmB_iff]
  unfold okI
  simp only [Bool.and_assoc]
theorem itm_pos {x : Iu} (h : itmB x = false) : 0 ≤ x.itm := by
  have := itmB_iff x
  rw [h] at this
  unfold winB at this
  simp at this
  exact this.2.1
theorem twoI_prog {x z : Iu} (h : itmB x = false) : twoI x z = ((x.itm != 0) && (x.itm == z.itm) && !((x.st == 4) && (z.st == 4) && (x.vol == z.vol))) := by
  have h0 := itm_pos h
  unfold twoI
  have e1 : decide (0 < x.itm) = (x.itm != 0) := by
    rw [Bool.eq_iff_iff, decide_eq_true_iff, bne_iff_ne]
    omega
  have e2 : (z.itm == x.itm) = (x.itm == z.itm) := by
    rw [Bool.eq_iff_iff, beq_iff_eq, beq_iff_eq]
    exact eq_comm
  rw [e1, e2]
theorem col_zero (m : Nat) (xs : List Iu) : colL 0 m xs = xs.take m := rfl

theorem swin_any (n lo hi : Int) (w : World) : Calls Tryz.prog 110 #[.int .i64 n, .int .i64 lo, .int .i64 hi] w fun e w' => e = .returned (.bool (winB n lo hi)) ∧ w = w' := by
  go_enter Tryz.func110, Tryz.ntmps110
  by_cases h : lo ≤ n
  · go_wp2
    go_ret
    exact ⟨ret_bool (by simp [winB, h]), rfl⟩
  · go_wp2
    go_ret
    exact ⟨ret_bool (by simp [winB]; omega), rfl⟩
set_option maxRecDepth 100000 in
theorem shas_any (x : Iu) (w : World) : Calls Tryz.prog 113 #[iuV x] w fun e w' => e = .returned (.bool (hasI x)) ∧ w' = w.alloc (.cells (iuC x) 122) := by
  unfold iuV
  obtain ⟨q, hq⟩ : ∃ q, hasI x = q := ⟨_, rfl⟩
  have HQ := hide hq
  unfold hasI at hq
  cases h2 : (x.st == 2) with
  | true =>
    rw [h2] at hq
    have HR := hide (show hasI x = true by rw [HQ.out, ← hq]; rfl)
    clear hq
    go_enter Tryz.func113, Tryz.ntmps113
    go_wp2
    go_ret
    exact ⟨ret_bool HR.out.symm, rfl⟩
  | false =>
    rw [h2] at hq
    have HR := hide (show hasI x = (x.st == 4) by rw [HQ.out, ← hq]; simp)
    clear hq
    go_enter Tryz.func113, Tryz.ntmps113
    go_wp2
    go_ret
    exact ⟨ret_bool HR.out.symm, rfl⟩
/-- List from the start: so many issues as there are, at most m. -/
theorem slist_any (p : Pt) (m : Nat) (w : World) (hp : PtM p) (hs : PtS w w.heap.size p) (hm : m ≤ 6000) :
    Calls Tryz.prog 112 #[ptV p, .int .i64 0, .int .i64 m] w fun e w' => ∃ A c, e = .returned (.slice A ((isL p 109572 5000 (ps0 p)).take m).length c) ∧ Ius w' w'.heap.size A ((isL p 109572 5000 (ps0 p)).take m).length c ((isL p 109572 5000 (ps0 p)).take m) ∧ Below w.heap.size w w' := by
  by_cases h0 : m = 0
  · subst h0
    refine (plist0_any p 0 0 (by omega) w).mono ?_
    rintro e w' ⟨rfl, hb⟩
    exact ⟨none, 0, rfl, by
      have := (Iuo_sl (w := w') (B := w'.heap.size) (v := .slice none 0 0) (xs := []) (World.ownsRow_nil _ _ _ _) (by simp))
      obtain ⟨A, c, he, hsl⟩ := this
      cases he
      exact hsl, hb⟩
  · refine (plist_any p 0 m w hp hs (by omega) (by omega) hm).mono ?_
    rintro e w' ⟨v, rfl, ho, hb⟩
    rw [col_zero] at ho
    obtain ⟨A, c, rfl, hsl⟩ := Iuo_sl ho (by rw [List.length_take]; omega)
    exact ⟨A, c, rfl, hsl, hb⟩
end Go.Proofs.YtbhndfphegflhaaGreat
