/- Walks: the law LoanRound. Printed by gen_lo_laws.py. -/
import Derived.Test.YtelkidhgbjhboaaLoT1
import Derived.Test.YtelkidhgbjhboaaLoLaw
namespace Go.Proofs.Ytelkidhgbjhboaa
open Go.RowKit

set_option maxRecDepth 100000 in
set_option maxHeartbeats 2000000 in
theorem loanRound_any (A : Option Addr) (n c : Nat) (xs : List Lo) (y : Lo) (w : World) (hs : Los w w.heap.size A n c xs) :
    Law 10 #[.slice A n c, loV y] w := by
  unfold Law
  obtain rfl := hs.len
  have hbig := hs.big
  have hle := hs.le
  have hsl : ∀ W, Below w.heap.size w W → Los W W.heap.size A xs.length c xs := fun W hW => (hs.below hW).more hW.size
  obtain ⟨y0, y1, y2, y3, y4, y5⟩ := y
  have B0 := hide ((Below.refl w.heap.size w).alloc (Nat.le_refl _) (.cells #[.int .i64 y0, .int .i64 y1, .int .i64 y2, .int .i64 y3, .int .i64 y4, .bool y5] 28))
  have Z0 := hide (Below.refl (w.heap.size + 1) (w.alloc (.cells #[.int .i64 y0, .int .i64 y1, .int .i64 y2, .int .i64 y3, .int .i64 y4, .bool y5] 28)))
  have HZ : Hid (∀ W, Below (w.heap.size + 1) (w.alloc (.cells #[.int .i64 y0, .int .i64 y1, .int .i64 y2, .int .i64 y3, .int .i64 y4, .bool y5] 28)) W → Box W w.heap.size 28 (loC ⟨y0, y1, y2, y3, y4, y5⟩)) := hide (fun W hW => (Box.new w 28 (loC ⟨y0, y1, y2, y3, y4, y5⟩)).below hW (by omega))
  by_cases hv : rightL xs = 0
  · have hV := VldL.of hv
    have hl64 := hV.len
    have HV := hide (fun W hW => lvalid_any A xs.length c xs W (hsl W hW))
    have hvb : (rightL xs == 0) = true := by simpa using hv
    rw [hvb] at HV
    have h1 := fun W hW => lout_any A xs.length c xs ⟨y0, y1, y2, y3, y4, y5⟩ W (hsl W hW) (by omega)
    have hcs := out_cases (xs := xs) ⟨y0, y1, y2, y3, y4, y5⟩
    generalize outL xs ⟨y0, y1, y2, y3, y4, y5⟩ = r at h1 hcs
    obtain ⟨r1, r2⟩ := r
    unfold loV at h1
    simp only at h1 hcs
    have H1 := hide h1
    have HSL := hide hsl
    clear h1
    rcases hcs with ⟨e1, e2⟩ | ⟨e1, e2, e3, e4, e5⟩
    · skip
      subst e2
      have e1b : (r1 != 0) = true := by simpa using e1
      clear e1 hsl hs hvb hv hV
      unfold loV
      go_enter Try.func10, Try.ntmps10
      go_wp2_with fail
      refine (lalive_any _).mono ?_
      rintro e w1 ⟨rfl, hb⟩
      have B1 := hide (B0.out.trans (hb.mono (Nat.le_trans (by simp) B0.out.size)))
      have Z1 := hide (Z0.out.trans (hb.mono (Nat.le_trans (by simp) Z0.out.size)))
      clear hb 
      go_wp2_with fail
      refine (HV.out _ B1.out).mono ?_
      rintro e w2 ⟨rfl, hb⟩
      have B2 := hide (B1.out.trans (hb.mono (Nat.le_trans (by simp) B1.out.size)))
      have Z2 := hide (Z1.out.trans (hb.mono (Nat.le_trans (by simp) Z1.out.size)))
      clear hb B1 Z1
      clear HV
      have hbx := HZ.out _ Z2.out
      have q0 := hbx.cell 0
      have q1 := hbx.cell 1
      have q2 := hbx.cell 2
      have q3 := hbx.cell 3
      have q4 := hbx.cell 4
      have q5 := hbx.cell 5
      (try simp only at q0 q1 q2 q3 q4 q5)
      go_wp2_with fail
      refine (H1.out _ B2.out).mono ?_
      rintro e w3 ⟨A1, n1, c1, rfl, hsl1, hb⟩
      have B3 := hide (B2.out.trans (hb.mono (Nat.le_trans (by simp) B2.out.size)))
      have Z3 := hide (Z2.out.trans (hb.mono (Nat.le_trans (by simp) Z2.out.size)))
      clear hb B2 Z2
      have S1 := hide hsl1
      clear hsl1 H1
      have K13 := hide (Below.refl w3.heap.size w3)
      clear hbx q0 q1 q2 q3 q4 q5
      obtain rfl : n1 = 0 := S1.out.len.symm
      go_wp2
      go_ret
      exact ⟨rfl, B3.out⟩
    · skip
      subst e1
      have hn2 : r2.length ≤ 1000 := by omega
      have h2 := fun A1 n1 c1 W hs => lfind_any A1 n1 c1 r2 y0 W hs
      have h3 := fun A1 n1 c1 W hs hn => lback_any A1 n1 c1 r2 y0 W hs hn
      have h4 := fun A1 n1 c1 W hs => lright_any A1 n1 c1 r2 W hs
      rw [e4] at h2
      rw [e5] at h3
      rw [e2] at h4
      unfold loV at h2
      simp only at h2
      have H2 := hide h2
      have H3 := hide h3
      have H4 := hide h4
      have E3 := hide e3
      have hgd := lo_guard
      have heq := fun w => lo_eql ⟨y0, y1, y2, y3, y4, y5⟩ ⟨y0, y1, y2, y3, y4, y5⟩ w
      rw [decide_eq_true rfl] at heq
      unfold loV at heq
      clear h2 h3 h4 e2 e3 e4 e5 hsl hs hvb hv hV
      unfold loV
      go_enter Try.func10, Try.ntmps10
      go_wp2_with fail
      refine (lalive_any _).mono ?_
      rintro e w1 ⟨rfl, hb⟩
      have B1 := hide (B0.out.trans (hb.mono (Nat.le_trans (by simp) B0.out.size)))
      have Z1 := hide (Z0.out.trans (hb.mono (Nat.le_trans (by simp) Z0.out.size)))
      clear hb 
      go_wp2_with fail
      refine (HV.out _ B1.out).mono ?_
      rintro e w2 ⟨rfl, hb⟩
      have B2 := hide (B1.out.trans (hb.mono (Nat.le_trans (by simp) B1.out.size)))
      have Z2 := hide (Z1.out.trans (hb.mono (Nat.le_trans (by simp) Z1.out.size)))
      clear hb B1 Z1
      clear HV
      have hbx := HZ.out _ Z2.out
      have q0 := hbx.cell 0
      have q1 := hbx.cell 1
      have q2 := hbx.cell 2
      have q3 := hbx.cell 3
      have q4 := hbx.cell 4
      have q5 := hbx.cell 5
      (try simp only at q0 q1 q2 q3 q4 q5)
      go_wp2_with fail
      refine (H1.out _ B2.out).mono ?_
      rintro e w3 ⟨A1, n1, c1, rfl, hsl1, hb⟩
      have B3 := hide (B2.out.trans (hb.mono (Nat.le_trans (by simp) B2.out.size)))
      have Z3 := hide (Z2.out.trans (hb.mono (Nat.le_trans (by simp) Z2.out.size)))
      clear hb B2 Z2
      have S1 := hide hsl1
      clear hsl1 H1
      have K13 := hide (Below.refl w3.heap.size w3)
      clear hbx q0 q1 q2 q3 q4 q5
      obtain rfl : n1 = xs.length + 1 := by rw [← E3.out]; exact S1.out.len.symm
      have hbx := HZ.out _ Z3.out
      have q0 := hbx.cell 0
      have q1 := hbx.cell 1
      have q2 := hbx.cell 2
      have q3 := hbx.cell 3
      have q4 := hbx.cell 4
      have q5 := hbx.cell 5
      (try simp only at q0 q1 q2 q3 q4 q5)
      go_wp2_with fail
      refine (H2.out _ _ _ _ ((S1.out.below K13.out).more K13.out.size)).mono ?_
      rintro e w4 ⟨rfl, hb⟩
      have B4 := hide (B3.out.trans (hb.mono (Nat.le_trans (by simp) B3.out.size)))
      have Z4 := hide (Z3.out.trans (hb.mono (Nat.le_trans (by simp) Z3.out.size)))
      have K14 := hide (K13.out.trans (hb.mono (Nat.le_trans (by simp) K13.out.size)))
      clear hb B3 Z3 K13
      clear H2
      clear hbx q0 q1 q2 q3 q4 q5
      have HB2 : Hid (Box (w4.alloc (.cells #[.int .i64 y0, .int .i64 y1, .int .i64 y2, .int .i64 y3, .int .i64 y4, .bool y5] 28)) w4.heap.size 28 (loC ⟨y0, y1, y2, y3, y4, y5⟩)) := hide (Box.new w4 28 _)
      have hz2 : w.heap.size ≤ w4.heap.size := B4.out.size
      have B5 := hide (B4.out.alloc (Nat.le_trans (by simp) B4.out.size) (.cells #[.int .i64 y0, .int .i64 y1, .int .i64 y2, .int .i64 y3, .int .i64 y4, .bool y5] 28))
      have Z5 := hide (Z4.out.alloc (Nat.le_trans (by simp) Z4.out.size) (.cells #[.int .i64 y0, .int .i64 y1, .int .i64 y2, .int .i64 y3, .int .i64 y4, .bool y5] 28))
      have K15 := hide (K14.out.alloc (Nat.le_trans (by simp) K14.out.size) (.cells #[.int .i64 y0, .int .i64 y1, .int .i64 y2, .int .i64 y3, .int .i64 y4, .bool y5] 28))
      clear B4 Z4 K14
      have M25 := hide (Below.refl (w4.alloc (.cells #[.int .i64 y0, .int .i64 y1, .int .i64 y2, .int .i64 y3, .int .i64 y4, .bool y5] 28)).heap.size (w4.alloc (.cells #[.int .i64 y0, .int .i64 y1, .int .i64 y2, .int .i64 y3, .int .i64 y4, .bool y5] 28)))
      have hbx := HZ.out _ Z5.out
      have q0 := hbx.cell 0
      have q1 := hbx.cell 1
      have q2 := hbx.cell 2
      have q3 := hbx.cell 3
      have q4 := hbx.cell 4
      have q5 := hbx.cell 5
      (try simp only at q0 q1 q2 q3 q4 q5)
      go_wp2_with fail
      refine (H3.out _ _ _ _ ((S1.out.below K15.out).more K15.out.size) (by omega)).mono ?_
      rintro e w6 ⟨A3, n3, c3, rfl, hsl3, hb⟩
      have B6 := hide (B5.out.trans (hb.mono (Nat.le_trans (by simp) B5.out.size)))
      have Z6 := hide (Z5.out.trans (hb.mono (Nat.le_trans (by simp) Z5.out.size)))
      have K16 := hide (K15.out.trans (hb.mono (Nat.le_trans (by simp) K15.out.size)))
      have M26 := hide (M25.out.trans (hb.mono (Nat.le_trans (by simp) M25.out.size)))
      clear hb B5 Z5 K15 M25
      have S3 := hide hsl3
      clear hsl3 H3
      simp only [loV]
      have K36 := hide (Below.refl w6.heap.size w6)
      clear hbx q0 q1 q2 q3 q4 q5
      obtain rfl : n3 = xs.length := S3.out.len.symm
      have HB3 : Hid (Box (w6.alloc (.cells #[.int .i64 y0, .int .i64 y1, .int .i64 y2, .int .i64 y3, .int .i64 y4, .bool y5] 28)) w6.heap.size 28 (loC ⟨y0, y1, y2, y3, y4, y5⟩)) := hide (Box.new w6 28 _)
      have hz3 : w.heap.size ≤ w6.heap.size := B6.out.size
      have B7 := hide (B6.out.alloc (Nat.le_trans (by simp) B6.out.size) (.cells #[.int .i64 y0, .int .i64 y1, .int .i64 y2, .int .i64 y3, .int .i64 y4, .bool y5] 28))
      have Z7 := hide (Z6.out.alloc (Nat.le_trans (by simp) Z6.out.size) (.cells #[.int .i64 y0, .int .i64 y1, .int .i64 y2, .int .i64 y3, .int .i64 y4, .bool y5] 28))
      have K17 := hide (K16.out.alloc (Nat.le_trans (by simp) K16.out.size) (.cells #[.int .i64 y0, .int .i64 y1, .int .i64 y2, .int .i64 y3, .int .i64 y4, .bool y5] 28))
      have M27 := hide (M26.out.alloc (Nat.le_trans (by simp) M26.out.size) (.cells #[.int .i64 y0, .int .i64 y1, .int .i64 y2, .int .i64 y3, .int .i64 y4, .bool y5] 28))
      have K37 := hide (K36.out.alloc (Nat.le_trans (by simp) K36.out.size) (.cells #[.int .i64 y0, .int .i64 y1, .int .i64 y2, .int .i64 y3, .int .i64 y4, .bool y5] 28))
      clear B6 Z6 K16 M26 K36
      have M37 := hide (Below.refl (w6.alloc (.cells #[.int .i64 y0, .int .i64 y1, .int .i64 y2, .int .i64 y3, .int .i64 y4, .bool y5] 28)).heap.size (w6.alloc (.cells #[.int .i64 y0, .int .i64 y1, .int .i64 y2, .int .i64 y3, .int .i64 y4, .bool y5] 28)))
      go_wp2_with fail
      refine (H4.out _ _ _ _ ((S1.out.below K17.out).more K17.out.size)).mono ?_
      rintro e w8 ⟨rfl, hb⟩
      have B8 := hide (B7.out.trans (hb.mono (Nat.le_trans (by simp) B7.out.size)))
      have Z8 := hide (Z7.out.trans (hb.mono (Nat.le_trans (by simp) Z7.out.size)))
      have K18 := hide (K17.out.trans (hb.mono (Nat.le_trans (by simp) K17.out.size)))
      have M28 := hide (M27.out.trans (hb.mono (Nat.le_trans (by simp) M27.out.size)))
      have K38 := hide (K37.out.trans (hb.mono (Nat.le_trans (by simp) K37.out.size)))
      have M38 := hide (M37.out.trans (hb.mono (Nat.le_trans (by simp) M37.out.size)))
      clear hb B7 Z7 K17 M27 K37 M37
      clear H4
      have hbx := HZ.out _ Z8.out
      have q0 := hbx.cell 0
      have q1 := hbx.cell 1
      have q2 := hbx.cell 2
      have q3 := hbx.cell 3
      have q4 := hbx.cell 4
      have q5 := hbx.cell 5
      (try simp only at q0 q1 q2 q3 q4 q5)
      have hb2 := HB2.out.below M28.out (by simp)
      have p0 := hb2.cell 0
      have p1 := hb2.cell 1
      have p2 := hb2.cell 2
      have p3 := hb2.cell 3
      have p4 := hb2.cell 4
      have p5 := hb2.cell 5
      (try simp only at p0 p1 p2 p3 p4 p5)
      clear hb2
      have hb3 := HB3.out.below M38.out (by simp)
      have s0 := hb3.cell 0
      have s1 := hb3.cell 1
      have s2 := hb3.cell 2
      have s3 := hb3.cell 3
      have s4 := hb3.cell 4
      have s5 := hb3.cell 5
      (try simp only at s0 s1 s2 s3 s4 s5)
      clear hb3
      have hq := lo_same _ _ _ _ _ _ _ _ _ ((S3.out.below K38.out).more K38.out.size) (HSL.out _ B8.out)
      rw [decide_eq_true rfl] at hq
      have HQ := hide hq
      clear hq
      go_wp2_with fail
      refine (HQ.out).mono ?_
      rintro e w9 ⟨rfl, hb⟩
      have B9 := hide (B8.out.trans (hb.mono (Nat.le_trans (by simp) B8.out.size)))
      have Z9 := hide (Z8.out.trans (hb.mono (Nat.le_trans (by simp) Z8.out.size)))
      have K19 := hide (K18.out.trans (hb.mono (Nat.le_trans (by simp) K18.out.size)))
      have M29 := hide (M28.out.trans (hb.mono (Nat.le_trans (by simp) M28.out.size)))
      have K39 := hide (K38.out.trans (hb.mono (Nat.le_trans (by simp) K38.out.size)))
      have M39 := hide (M38.out.trans (hb.mono (Nat.le_trans (by simp) M38.out.size)))
      clear hb B8 Z8 K18 M28 K38 M38
      go_wp2
      go_ret
      exact ⟨rfl, B9.out⟩
  · have HV := hide (fun W hW => lvalid_any A xs.length c xs W (hsl W hW))
    have hvb : (rightL xs == 0) = false := by simpa using hv
    rw [hvb] at HV
    clear hsl hs hvb hv
    unfold loV
    go_enter Try.func10, Try.ntmps10
    go_wp2_with fail
    refine (lalive_any _).mono ?_
    rintro e w1 ⟨rfl, hb⟩
    have B1 := hide (B0.out.trans (hb.mono (Nat.le_trans (by simp) B0.out.size)))
    have Z1 := hide (Z0.out.trans (hb.mono (Nat.le_trans (by simp) Z0.out.size)))
    clear hb 
    go_wp2_with fail
    refine (HV.out _ B1.out).mono ?_
    rintro e w2 ⟨rfl, hb⟩
    have B2 := hide (B1.out.trans (hb.mono (Nat.le_trans (by simp) B1.out.size)))
    have Z2 := hide (Z1.out.trans (hb.mono (Nat.le_trans (by simp) Z1.out.size)))
    clear hb B1 Z1
    go_wp2
    go_ret
    exact ⟨rfl, B2.out⟩
end Go.Proofs.Ytelkidhgbjhboaa
