/- Walks: the law LoanFinds. Printed by gen_lo_laws.py. -/
import Derived.Test.YtelkidhgbjhboaaLoT1
import Derived.Test.YtelkidhgbjhboaaLoLaw
namespace Go.Proofs.Ytelkidhgbjhboaa
open Go.RowKit

set_option maxRecDepth 100000 in
set_option maxHeartbeats 2000000 in
theorem loanFinds_any (A : Option Addr) (n c : Nat) (xs : List Lo) (item day : Int) (w : World) (hs : Los w w.heap.size A n c xs) :
    Law 7 #[.slice A n c, .int .i64 item, .int .i64 day] w := by
  unfold Law
  obtain rfl := hs.len
  have hbig := hs.big
  have hle := hs.le
  have hsl : ∀ W, Below w.heap.size w W → Los W W.heap.size A xs.length c xs := fun W hW => (hs.below hW).more hW.size
  have B0 := hide (Below.refl w.heap.size w)
  by_cases h100 : 100 < xs.length
  · clear hsl hs
    go_enter Try.func7, Try.ntmps7
    go_wp2_with fail
    refine (lalive_any _).mono ?_
    rintro e w1 ⟨rfl, hb⟩
    have B1 := hide (B0.out.trans (hb.mono (Nat.le_trans (by simp) B0.out.size)))
    clear hb 
    go_wp2
    go_ret
    exact ⟨rfl, B1.out⟩
  · have hn : xs.length ≤ 1000 := by omega
    have h1 := fun W hW => lfind_any A xs.length c xs item W (hsl W hW)
    have h2 := fun W hW => rlfind_any A xs.length c xs item W (hsl W hW)
    have h3 := fun W hW => lof_any A xs.length c xs item W (hsl W hW) hn
    have h4 := fun W hW => rof_any A xs.length c xs item W (hsl W hW) hn
    have h5 := fun W hW => llate_any A xs.length c xs item day W (hsl W hW) hn
    have h6 := fun W hW => rlate_any A xs.length c xs item day W _ (hsl W hW)
    have hol : (ofL xs item).length ≤ 140737488355328 := Nat.le_trans (List.length_filter_le _ _) (by omega)
    generalize ofL xs item = ys at h3 h4 hol
    generalize lateL xs item day = lt at h5 h6
    generalize findL xs item = r at h1 h2
    obtain ⟨⟨x0, x1, x2, x3, x4, x5⟩, is⟩ := r
    have hgd := lo_guard
    have heq := fun w => lo_eql ⟨x0, x1, x2, x3, x4, x5⟩ ⟨x0, x1, x2, x3, x4, x5⟩ w
    rw [decide_eq_true rfl] at heq
    unfold loV at heq h1 h2
    have H1 := hide h1
    have H2 := hide h2
    have H3 := hide h3
    have H4 := hide h4
    have H5 := hide h5
    have H6 := hide h6
    clear h1 h2 h3 h4 h5 h6 hsl hs
    go_enter Try.func7, Try.ntmps7
    go_wp2_with fail
    refine (lalive_any _).mono ?_
    rintro e w1 ⟨rfl, hb⟩
    have B1 := hide (B0.out.trans (hb.mono (Nat.le_trans (by simp) B0.out.size)))
    clear hb 
    go_wp2_with fail
    refine (H1.out _ B1.out).mono ?_
    rintro e w2 ⟨rfl, hb⟩
    have B2 := hide (B1.out.trans (hb.mono (Nat.le_trans (by simp) B1.out.size)))
    clear hb B1
    clear H1
    have HB1 : Hid (Box (w2.alloc (.cells #[.int .i64 x0, .int .i64 x1, .int .i64 x2, .int .i64 x3, .int .i64 x4, .bool x5] 28)) w2.heap.size 28 (loC ⟨x0, x1, x2, x3, x4, x5⟩)) := hide (Box.new w2 28 _)
    have hz1 : w.heap.size ≤ w2.heap.size := B2.out.size
    have B3 := hide (B2.out.alloc (Nat.le_trans (by simp) B2.out.size) (.cells #[.int .i64 x0, .int .i64 x1, .int .i64 x2, .int .i64 x3, .int .i64 x4, .bool x5] 28))
    clear B2
    have M13 := hide (Below.refl (w2.alloc (.cells #[.int .i64 x0, .int .i64 x1, .int .i64 x2, .int .i64 x3, .int .i64 x4, .bool x5] 28)).heap.size (w2.alloc (.cells #[.int .i64 x0, .int .i64 x1, .int .i64 x2, .int .i64 x3, .int .i64 x4, .bool x5] 28)))
    go_wp2_with fail
    refine (H2.out _ B3.out).mono ?_
    rintro e w4 ⟨rfl, hb⟩
    have B4 := hide (B3.out.trans (hb.mono (Nat.le_trans (by simp) B3.out.size)))
    have M14 := hide (M13.out.trans (hb.mono (Nat.le_trans (by simp) M13.out.size)))
    clear hb B3 M13
    clear H2
    have HB2 : Hid (Box (w4.alloc (.cells #[.int .i64 x0, .int .i64 x1, .int .i64 x2, .int .i64 x3, .int .i64 x4, .bool x5] 28)) w4.heap.size 28 (loC ⟨x0, x1, x2, x3, x4, x5⟩)) := hide (Box.new w4 28 _)
    have hz2 : w.heap.size ≤ w4.heap.size := B4.out.size
    have B5 := hide (B4.out.alloc (Nat.le_trans (by simp) B4.out.size) (.cells #[.int .i64 x0, .int .i64 x1, .int .i64 x2, .int .i64 x3, .int .i64 x4, .bool x5] 28))
    have M15 := hide (M14.out.alloc (Nat.le_trans (by simp) M14.out.size) (.cells #[.int .i64 x0, .int .i64 x1, .int .i64 x2, .int .i64 x3, .int .i64 x4, .bool x5] 28))
    clear B4 M14
    have M25 := hide (Below.refl (w4.alloc (.cells #[.int .i64 x0, .int .i64 x1, .int .i64 x2, .int .i64 x3, .int .i64 x4, .bool x5] 28)).heap.size (w4.alloc (.cells #[.int .i64 x0, .int .i64 x1, .int .i64 x2, .int .i64 x3, .int .i64 x4, .bool x5] 28)))
    have hb1 := HB1.out.below M15.out (by simp)
    have p0 := hb1.cell 0
    have p1 := hb1.cell 1
    have p2 := hb1.cell 2
    have p3 := hb1.cell 3
    have p4 := hb1.cell 4
    have p5 := hb1.cell 5
    (try simp only at p0 p1 p2 p3 p4 p5)
    clear hb1
    have hb2 := HB2.out.below M25.out (by simp)
    have q0 := hb2.cell 0
    have q1 := hb2.cell 1
    have q2 := hb2.cell 2
    have q3 := hb2.cell 3
    have q4 := hb2.cell 4
    have q5 := hb2.cell 5
    (try simp only at q0 q1 q2 q3 q4 q5)
    clear hb2
    go_wp2_with fail
    refine (H3.out _ B5.out).mono ?_
    rintro e w6 ⟨v3, rfl, hown, hb⟩
    have B6 := hide (B5.out.trans (hb.mono (Nat.le_trans (by simp) B5.out.size)))
    have M16 := hide (M15.out.trans (hb.mono (Nat.le_trans (by simp) M15.out.size)))
    have M26 := hide (M25.out.trans (hb.mono (Nat.le_trans (by simp) M25.out.size)))
    clear hb B5 M15 M25
    obtain ⟨A3, c3, hv, hsl3⟩ := Loo_sl hown hol
    subst hv
    have S3 := hide hsl3
    clear hown hsl3 H3
    have K36 := hide (Below.refl w6.heap.size w6)
    clear p0 p1 p2 p3 p4 p5 q0 q1 q2 q3 q4 q5
    go_wp2_with fail
    refine (H4.out _ B6.out).mono ?_
    rintro e w7 ⟨v4, rfl, hown, hb⟩
    have B7 := hide (B6.out.trans (hb.mono (Nat.le_trans (by simp) B6.out.size)))
    have M17 := hide (M16.out.trans (hb.mono (Nat.le_trans (by simp) M16.out.size)))
    have M27 := hide (M26.out.trans (hb.mono (Nat.le_trans (by simp) M26.out.size)))
    have K37 := hide (K36.out.trans (hb.mono (Nat.le_trans (by simp) K36.out.size)))
    clear hb B6 M16 M26 K36
    obtain ⟨A4, c4, hv, hsl4⟩ := Loo_sl hown hol
    subst hv
    have S4 := hide hsl4
    clear hown hsl4 H4
    have K47 := hide (Below.refl w7.heap.size w7)
    have hq := lo_same _ _ _ _ _ _ _ _ _ ((S3.out.below K37.out).more K37.out.size) ((S4.out.below K47.out).more K47.out.size)
    rw [decide_eq_true rfl] at hq
    have HQ := hide hq
    clear hq
    go_wp2_with fail
    refine (HQ.out).mono ?_
    rintro e w8 ⟨rfl, hb⟩
    have B8 := hide (B7.out.trans (hb.mono (Nat.le_trans (by simp) B7.out.size)))
    have M18 := hide (M17.out.trans (hb.mono (Nat.le_trans (by simp) M17.out.size)))
    have M28 := hide (M27.out.trans (hb.mono (Nat.le_trans (by simp) M27.out.size)))
    have K38 := hide (K37.out.trans (hb.mono (Nat.le_trans (by simp) K37.out.size)))
    have K48 := hide (K47.out.trans (hb.mono (Nat.le_trans (by simp) K47.out.size)))
    clear hb B7 M17 M27 K37 K47
    go_wp2_with fail
    refine (H5.out _ B8.out).mono ?_
    rintro e w9 ⟨rfl, hb⟩
    have B9 := hide (B8.out.trans (hb.mono (Nat.le_trans (by simp) B8.out.size)))
    have M19 := hide (M18.out.trans (hb.mono (Nat.le_trans (by simp) M18.out.size)))
    have M29 := hide (M28.out.trans (hb.mono (Nat.le_trans (by simp) M28.out.size)))
    have K39 := hide (K38.out.trans (hb.mono (Nat.le_trans (by simp) K38.out.size)))
    have K49 := hide (K48.out.trans (hb.mono (Nat.le_trans (by simp) K48.out.size)))
    clear hb B8 M18 M28 K38 K48
    go_wp2_with fail
    refine (H6.out _ B9.out).mono ?_
    rintro e w_ ⟨rfl, rfl⟩
    go_wp2
    go_ret
    exact ⟨rfl, B9.out⟩
end Go.Proofs.Ytelkidhgbjhboaa
