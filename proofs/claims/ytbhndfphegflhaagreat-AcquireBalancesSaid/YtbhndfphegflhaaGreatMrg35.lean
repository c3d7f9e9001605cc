/- Texts laid together by merge.py: SeC. -/
import Derived.Test.YtbhndfphegflhaaGreatMrg34
set_option linter.unusedSimpArgs false
set_option linter.unusedVariables false
/- Walks: Right of the reference (subscriptions). -/
namespace Go.Proofs.YtbhndfphegflhaaGreat
open Go.RowKit

set_option maxRecDepth 100000 in
set_option maxHeartbeats 4000000 in
theorem rright37_any (s : Se) (w : World) (hs : SeS w w.heap.size s) :
    Calls Tryz.prog 58 #[seV s] w fun e w' => e = .returned (.int .i64 (seErr s)) ∧ Below w.heap.size w w' := by
  have B0 := hide ((Below.refl w.heap.size w).alloc (Nat.le_refl _) (.cells (seC s) 76))
  have X0 := hide (Box.new w 76 (seC s))
  have HS := hide hs
  have hlen := hs.iu.len
  have hbig := hs.iu.big
  have HP := hide (rright36_any (sePt s) _ ((hs.pt.below B0.out).more B0.out.size))
  unfold ptV sePt at HP
  clear hs
  by_cases h1 : 1 ≤ s.rcd ∧ s.rcd ≤ 9999
  · have H1 := hide (winB_iff.2 h1)
    obtain ⟨a1, a2⟩ := h1
    obtain ⟨m1, hm1⟩ : ∃ m, ptErr (sePt s) = m := ⟨_, rfl⟩
    have HM1 := hide hm1
    unfold sePt at hm1
    rw [hm1] at HP
    clear hm1
    unfold seV
    go_enter Tryz.func58, Tryz.ntmps58
    go_wp2_with fail
    refine HP.out.mono ?_
    rintro e w1 ⟨rfl, hb⟩
    have B1 := hide (B0.out.trans (hb.mono B0.out.size))
    have X1 := hide (X0.out.below hb (by simp))
    have q0 := X1.out.cell 0
    have q1 := X1.out.cell 1
    have q2 := X1.out.cell 2
    have q3 := X1.out.cell 3
    have q4 := X1.out.cell 4
    have q5 := X1.out.cell 5
    have q6 := X1.out.cell 6
    have q7 := X1.out.cell 7
    have q8 := X1.out.cell 8
    simp at q0 q1 q2 q3 q4 q5 q6 q7 q8
    clear hb HP
    by_cases hz1 : (m1 != 0) = true
    · have HR := hide (show seErr s = m1 by
        unfold seErr
        rw [H1.out, if_neg (by decide), HM1.out, if_pos hz1])
      go_wp2
      go_ret
      exact ⟨ret_int HR.out.symm, B1.out⟩
    have hz1' : (m1 != 0) = false := by simpa using hz1
    have hM : PtM (sePt s) := ptErr_M (by rw [HM1.out]; simpa using hz1)
    have HM := hide hM
    have HE := hide (show seErr s = if 128 < s.iu.length then 13 else if winB s.nx 0 5000 = false then 2 else if okSe s = true then 0 else 1 by
      unfold seErr
      rw [H1.out, if_neg (by decide), HM1.out, hz1', if_neg (by decide)])
    clear hz1 hM
    by_cases h128 : 128 < s.iun
    · have HR := hide (show seErr s = 13 by rw [HE.out, if_pos (by omega)])
      have hz : (128 : Int) < (s.iun : Int) := by omega
      clear HE hlen
      go_wp2
      go_ret
      exact ⟨ret_int HR.out.symm, B1.out⟩
    have hz : ¬ (128 : Int) < (s.iun : Int) := by omega
    have HE2 := hide (show seErr s = if winB s.nx 0 5000 = false then 2 else if okSe s = true then 0 else 1 by rw [HE.out, if_neg (by omega)])
    clear HE h128 hlen
    by_cases hn : 0 ≤ s.nx ∧ s.nx ≤ 5000
    · obtain ⟨m, hm⟩ : ∃ m : Nat, s.nx = (m : Int) := ⟨s.nx.toNat, by omega⟩
      have HE3 := hide (show seErr s = if okSe s = true then 0 else 1 by rw [HE2.out, winB_iff.2 hn, if_neg (by decide)])
      have HI := hide (fun W (hW : Below w.heap.size w W) => rissB_any s m W ((HS.out.below hW).more hW.size) HM.out hm (by omega))
      have HI1 := hide (HI.out w1 B1.out)
      obtain ⟨n1, n2⟩ := hn
      unfold seV at HI1
      obtain ⟨q, hq⟩ : ∃ q, okSe s = q := ⟨_, rfl⟩
      rw [hq] at HI1 HE3
      clear hq hm HI
      go_wp2_with fail
      refine HI1.out.mono ?_
      rintro e w2 ⟨rfl, hb⟩
      have B2 := hide (B1.out.trans (hb.mono B1.out.size))
      clear hb HI1
      cases q with
      | true =>
        go_wp2
        go_ret
        exact ⟨ret_int (by rw [HE3.out]; rfl), B2.out⟩
      | false =>
        go_wp2
        go_ret
        exact ⟨ret_int (by rw [HE3.out]; rfl), B2.out⟩
    · have HR := hide (show seErr s = 2 by
        rw [HE2.out, if_pos]
        cases hq : winB s.nx 0 5000 with
        | false => rfl
        | true => exact absurd (winB_iff.1 hq) hn)
      clear HE2
      go_wp2
      all_goals first | (exfalso; omega) | (go_ret; exact ⟨ret_int HR.out.symm, B1.out⟩)
  · have HR := hide (show seErr s = 2 by
      unfold seErr
      rw [if_pos]
      cases hq : winB s.rcd 1 9999 with
      | false => rfl
      | true => exact absurd (winB_iff.1 hq) h1)
    unfold seV
    go_enter Tryz.func58, Tryz.ntmps58
    go_wp2
    all_goals first | (exfalso; omega) | (go_ret; exact ⟨ret_int HR.out.symm, B0.out⟩)
end Go.Proofs.YtbhndfphegflhaaGreat
