/- Walks: the law LoanBack. Printed by gen_lo_laws.py. -/
import Derived.Test.YtelkidhgbjhboaaLoT1
import Derived.Test.YtelkidhgbjhboaaLoLaw
namespace Go.Proofs.Ytelkidhgbjhboaa
open Go.RowKit

set_option maxRecDepth 100000 in
set_option maxHeartbeats 2000000 in
theorem loanBack_any (A : Option Addr) (n c : Nat) (xs : List Lo) (item : Int) (w : World) (hs : Los w w.heap.size A n c xs) :
    Law 9 #[.slice A n c, .int .i64 item] w := by
  unfold Law
  obtain rfl := hs.len
  have hbig := hs.big
  have hle := hs.le
  have hsl : ∀ W, Below w.heap.size w W → Los W W.heap.size A xs.length c xs := fun W hW => (hs.below hW).more hW.size
  have B0 := hide (Below.refl w.heap.size w)
  by_cases hv : rightL xs = 0
  · have hV := VldL.of hv
    have hl64 := hV.len
    have HV := hide (fun W hW => lvalid_any A xs.length c xs W (hsl W hW))
    have hvb : (rightL xs == 0) = true := by simpa using hv
    rw [hvb] at HV
    have h1 := fun W hW => lback_any A xs.length c xs item W (hsl W hW) (by omega)
    have h2 := fun W hW => rback_any A xs.length c xs item W (hsl W hW) (by omega)
    generalize backL xs item = r at h1 h2
    obtain ⟨r1, r2, x0, x1, x2, x3, x4, x5⟩ := r
    have hgd := lo_guard
    have heq := fun w => lo_eql ⟨x0, x1, x2, x3, x4, x5⟩ ⟨x0, x1, x2, x3, x4, x5⟩ w
    rw [decide_eq_true rfl] at heq
    unfold loV at heq
    have H1 := hide h1
    have H2 := hide h2
    clear h1 h2
    clear hsl hs hvb hv hV
    go_enter Try.func9, Try.ntmps9
    go_wp2_with fail
    refine (lalive_any _).mono ?_
    rintro e w1 ⟨rfl, hb⟩
    have B1 := hide (B0.out.trans (hb.mono (Nat.le_trans (by simp) B0.out.size)))
    clear hb 
    go_wp2_with fail
    refine (HV.out _ B1.out).mono ?_
    rintro e w2 ⟨rfl, hb⟩
    have B2 := hide (B1.out.trans (hb.mono (Nat.le_trans (by simp) B1.out.size)))
    clear hb B1
    clear HV
    go_wp2_with fail
    refine (H1.out _ B2.out).mono ?_
    rintro e w3 ⟨A1, n1, c1, rfl, hsl1, hb⟩
    have B3 := hide (B2.out.trans (hb.mono (Nat.le_trans (by simp) B2.out.size)))
    clear hb B2
    have S1 := hide hsl1
    clear hsl1 H1
    simp only [loV]
    have K13 := hide (Below.refl w3.heap.size w3)
    have HB1 : Hid (Box (w3.alloc (.cells #[.int .i64 x0, .int .i64 x1, .int .i64 x2, .int .i64 x3, .int .i64 x4, .bool x5] 28)) w3.heap.size 28 (loC ⟨x0, x1, x2, x3, x4, x5⟩)) := hide (Box.new w3 28 _)
    have hz1 : w.heap.size ≤ w3.heap.size := B3.out.size
    have B4 := hide (B3.out.alloc (Nat.le_trans (by simp) B3.out.size) (.cells #[.int .i64 x0, .int .i64 x1, .int .i64 x2, .int .i64 x3, .int .i64 x4, .bool x5] 28))
    have K14 := hide (K13.out.alloc (Nat.le_trans (by simp) K13.out.size) (.cells #[.int .i64 x0, .int .i64 x1, .int .i64 x2, .int .i64 x3, .int .i64 x4, .bool x5] 28))
    clear B3 K13
    have M14 := hide (Below.refl (w3.alloc (.cells #[.int .i64 x0, .int .i64 x1, .int .i64 x2, .int .i64 x3, .int .i64 x4, .bool x5] 28)).heap.size (w3.alloc (.cells #[.int .i64 x0, .int .i64 x1, .int .i64 x2, .int .i64 x3, .int .i64 x4, .bool x5] 28)))
    go_wp2_with fail
    refine (H2.out _ B4.out).mono ?_
    rintro e w5 ⟨A2, n2, c2, rfl, hsl2, hb⟩
    have B5 := hide (B4.out.trans (hb.mono (Nat.le_trans (by simp) B4.out.size)))
    have K15 := hide (K14.out.trans (hb.mono (Nat.le_trans (by simp) K14.out.size)))
    have M15 := hide (M14.out.trans (hb.mono (Nat.le_trans (by simp) M14.out.size)))
    clear hb B4 K14 M14
    have S2 := hide hsl2
    clear hsl2 H2
    simp only [loV]
    have K25 := hide (Below.refl w5.heap.size w5)
    have HB2 : Hid (Box (w5.alloc (.cells #[.int .i64 x0, .int .i64 x1, .int .i64 x2, .int .i64 x3, .int .i64 x4, .bool x5] 28)) w5.heap.size 28 (loC ⟨x0, x1, x2, x3, x4, x5⟩)) := hide (Box.new w5 28 _)
    have hz2 : w.heap.size ≤ w5.heap.size := B5.out.size
    have B6 := hide (B5.out.alloc (Nat.le_trans (by simp) B5.out.size) (.cells #[.int .i64 x0, .int .i64 x1, .int .i64 x2, .int .i64 x3, .int .i64 x4, .bool x5] 28))
    have K16 := hide (K15.out.alloc (Nat.le_trans (by simp) K15.out.size) (.cells #[.int .i64 x0, .int .i64 x1, .int .i64 x2, .int .i64 x3, .int .i64 x4, .bool x5] 28))
    have M16 := hide (M15.out.alloc (Nat.le_trans (by simp) M15.out.size) (.cells #[.int .i64 x0, .int .i64 x1, .int .i64 x2, .int .i64 x3, .int .i64 x4, .bool x5] 28))
    have K26 := hide (K25.out.alloc (Nat.le_trans (by simp) K25.out.size) (.cells #[.int .i64 x0, .int .i64 x1, .int .i64 x2, .int .i64 x3, .int .i64 x4, .bool x5] 28))
    clear B5 K15 M15 K25
    have M26 := hide (Below.refl (w5.alloc (.cells #[.int .i64 x0, .int .i64 x1, .int .i64 x2, .int .i64 x3, .int .i64 x4, .bool x5] 28)).heap.size (w5.alloc (.cells #[.int .i64 x0, .int .i64 x1, .int .i64 x2, .int .i64 x3, .int .i64 x4, .bool x5] 28)))
    have hb1 := HB1.out.below M16.out (by simp)
    have p0 := hb1.cell 0
    have p1 := hb1.cell 1
    have p2 := hb1.cell 2
    have p3 := hb1.cell 3
    have p4 := hb1.cell 4
    have p5 := hb1.cell 5
    (try simp only at p0 p1 p2 p3 p4 p5)
    clear hb1
    have hb2 := HB2.out.below M26.out (by simp)
    have q0 := hb2.cell 0
    have q1 := hb2.cell 1
    have q2 := hb2.cell 2
    have q3 := hb2.cell 3
    have q4 := hb2.cell 4
    have q5 := hb2.cell 5
    (try simp only at q0 q1 q2 q3 q4 q5)
    clear hb2
    have hq := lo_same _ _ _ _ _ _ _ _ _ ((S1.out.below K16.out).more K16.out.size) ((S2.out.below K26.out).more K26.out.size)
    rw [decide_eq_true rfl] at hq
    have HQ := hide hq
    clear hq
    go_wp2_with fail
    refine (HQ.out).mono ?_
    rintro e w7 ⟨rfl, hb⟩
    have B7 := hide (B6.out.trans (hb.mono (Nat.le_trans (by simp) B6.out.size)))
    have K17 := hide (K16.out.trans (hb.mono (Nat.le_trans (by simp) K16.out.size)))
    have M17 := hide (M16.out.trans (hb.mono (Nat.le_trans (by simp) M16.out.size)))
    have K27 := hide (K26.out.trans (hb.mono (Nat.le_trans (by simp) K26.out.size)))
    have M27 := hide (M26.out.trans (hb.mono (Nat.le_trans (by simp) M26.out.size)))
    clear hb B6 K16 M16 K26 M26
    go_wp2
    go_ret
    exact ⟨rfl, B7.out⟩
  · have HV := hide (fun W hW => lvalid_any A xs.length c xs W (hsl W hW))
    have hvb : (rightL xs == 0) = false := by simpa using hv
    rw [hvb] at HV
    clear hsl hs hvb hv
    go_enter Try.func9, Try.ntmps9
    go_wp2_with fail
    refine (lalive_any _).mono ?_
    rintro e w1 ⟨rfl, hb⟩
    have B1 := hide (B0.out.trans (hb.mono (Nat.le_trans (by simp) B0.out.size)))
    clear hb 
    go_wp2_with fail
    refine (HV.out _ B1.out).mono ?_
    rintro e w2 ⟨rfl, hb⟩
    have B2 := hide (B1.out.trans (hb.mono (Nat.le_trans (by simp) B1.out.size)))
    clear hb B1
    go_wp2
    go_ret
    exact ⟨rfl, B2.out⟩
end Go.Proofs.Ytelkidhgbjhboaa
