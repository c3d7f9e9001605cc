/- Walks: the law LoanOthers. Printed by gen_lo_laws.py. -/
import Derived.Test.YtelkidhgbjhboaaLoT1
import Derived.Test.YtelkidhgbjhboaaLoLaw
namespace Go.Proofs.Ytelkidhgbjhboaa
open Go.RowKit

set_option maxHeartbeats 1000000 in
theorem lothers_any (A A' : Option Addr) (n c n' c' : Nat) (xs ys : List Lo) (item : Int) (w : World) (hs : Los w w.heap.size A n c xs) (ht : Los w w.heap.size A' n' c' ys) (h : Oth xs ys item) :
    Calls Try.prog 28 #[.slice A n c, .slice A' n' c', .int .i64 item] w fun e w' => e = .returned (.bool true) ∧ Below w.heap.size w w' := by
  have hbig := hs.big
  obtain rfl : n' = n := by rw [← hs.len, ← ht.len, h.1]
  have HS := hide hs
  have HT := hide ht
  have HO := hide h.2
  have hgd := lo_guard
  clear hs ht h
  go_enter Try.func28, Try.ntmps28
  go_wp2
  go_loopw [7] (fun i wr => ∃ k : Nat, k ≤ n' ∧ i = .int .i64 k ∧ Below w.heap.size w wr) (fun i _ => n' - (intOf i).toNat)
  case atStart => exact ⟨0, Nat.zero_le _, rfl, Below.refl _ _⟩
  case round =>
    obtain ⟨k, hk, rfl, hb⟩ := hrel
    have HB := hide hb
    clear hb
    by_cases hlt : k < n'
    · obtain ⟨b, off, x, rfl, hbB, hx, c0, c1, c2, c3, c4, c5⟩ := Los_at (HS.out.below HB.out) hlt
      obtain ⟨b', off', y, rfl, hbB', hy, d0, d1, d2, d3, d4, d5⟩ := Los_at (HT.out.below HB.out) hlt
      obtain ⟨he, hne⟩ := HO.out k x y hx hy
      have hkk : (k : Int) < (n' : Int) := by omega
      rw [← he] at d0
      by_cases hi : x.item = item
      · have hib : (x.item != item) = false := by simpa using hi
        clear hx hy hne he hi
        go_wp2
        go_quiet (fail)
        go_wp2
        go_roundw
        case rel => exact ⟨k + 1, by omega, by go_num, below_drewN HB.out _⟩
        case measure => simp [intOf]; omega
      · have hib : (x.item != item) = true := by simpa using hi
        obtain rfl := hne hi
        have hq := fun w => lo_neq x x w
        simp only [decide_true, Bool.not_true] at hq
        unfold loV at hq
        clear hx hy hne he hi
        go_wp2
        go_quiet (fail)
        go_wp2
        go_roundw
        case rel => exact ⟨k + 1, by omega, by go_num, below_drewN HB.out _⟩
        case measure => simp [intOf]; omega
    · go_wp2
      go_ret
      exact ⟨rfl, HB.out⟩

set_option maxRecDepth 100000 in
set_option maxHeartbeats 2000000 in
theorem loanOthers_any (A : Option Addr) (n c : Nat) (xs : List Lo) (item due : Int) (w : World) (hs : Los w w.heap.size A n c xs) :
    Law 8 #[.slice A n c, .int .i64 item, .int .i64 due] w := by
  unfold Law
  obtain rfl := hs.len
  have hbig := hs.big
  have hle := hs.le
  have hsl : ∀ W, Below w.heap.size w W → Los W W.heap.size A xs.length c xs := fun W hW => (hs.below hW).more hW.size
  have B0 := hide (Below.refl w.heap.size w)
  by_cases hv : rightL xs = 0
  · have hV := VldL.of hv
    have hl64 := hV.len
    have HV := hide (fun W hW => lvalid_any A xs.length c xs W (hsl W hW))
    have hvb : (rightL xs == 0) = true := by simpa using hv
    rw [hvb] at HV
    have h1 := fun W hW => lrenew_any A xs.length c xs item due W (hsl W hW) (by omega) hV.M
    have hc1 := renew_cases hV item due
    generalize renewL xs item due = r at h1 hc1
    obtain ⟨r1, r2⟩ := r
    have h2 := fun W hW => lrecall_any A xs.length c xs item due W (hsl W hW) (by omega)
    have hc2 := recall_cases hV item due
    generalize recallL xs item due = s at h2 hc2
    obtain ⟨s1, s2⟩ := s
    have h3 := fun W hW => lfind_any A xs.length c xs item W (hsl W hW)
    have HSL := hide hsl
    have hgd := lo_guard
    have H1 := hide h1
    have H2 := hide h2
    simp only at hc1 hc2
    clear h1 h2 hsl hs hvb hv
    rcases hc1 with ⟨rfl, e2, e3⟩ | e1
    · rcases hc2 with ⟨g1, g2⟩ | ⟨x, rfl, g2, g3, g4, g5, gM⟩
      · skip
        have h4 := fun A1 n1 c1 W hs => lright_any A1 n1 c1 r2 W hs
        rw [e3] at h4
        have E2 := hide e2
        have H4 := hide h4
        clear h4 e2 e3
        subst g2
        have g1b : (s1 != 0) = true := by simpa using g1
        clear g1 h3
        clear hV
        go_enter Try.func8, Try.ntmps8
        go_wp2_with fail
        refine (lalive_any _).mono ?_
        rintro e w1 ⟨rfl, hb⟩
        have B1 := hide (B0.out.trans (hb.mono (Nat.le_trans (by simp) B0.out.size)))
        clear hb 
        go_wp2_with fail
        refine (HV.out _ B1.out).mono ?_
        rintro e w2 ⟨rfl, hb⟩
        have B2 := hide (B1.out.trans (hb.mono (Nat.le_trans (by simp) B1.out.size)))
        clear hb B1
        clear HV
        go_wp2_with fail
        refine (H1.out _ B2.out).mono ?_
        rintro e w3 ⟨A1, n1, c1, rfl, hsl1, hb⟩
        have B3 := hide (B2.out.trans (hb.mono (Nat.le_trans (by simp) B2.out.size)))
        clear hb B2
        have S1 := hide hsl1
        clear hsl1 H1
        have K13 := hide (Below.refl w3.heap.size w3)
        have hq := lothers_any _ _ _ _ _ _ _ _ item _ ((S1.out.below K13.out).more K13.out.size) (HSL.out _ B3.out) E2.out
        have HQ := hide hq
        clear hq
        go_wp2_with fail
        refine (HQ.out).mono ?_
        rintro e w4 ⟨rfl, hb⟩
        have B4 := hide (B3.out.trans (hb.mono (Nat.le_trans (by simp) B3.out.size)))
        have K14 := hide (K13.out.trans (hb.mono (Nat.le_trans (by simp) K13.out.size)))
        clear hb B3 K13
        go_wp2_with fail
        refine (H4.out _ _ _ _ ((S1.out.below K14.out).more K14.out.size)).mono ?_
        rintro e w5 ⟨rfl, hb⟩
        have B5 := hide (B4.out.trans (hb.mono (Nat.le_trans (by simp) B4.out.size)))
        have K15 := hide (K14.out.trans (hb.mono (Nat.le_trans (by simp) K14.out.size)))
        clear hb B4 K14
        go_wp2_with fail
        refine (H2.out _ B5.out).mono ?_
        rintro e w6 ⟨A2, n2, c2, rfl, hsl2, hb⟩
        have B6 := hide (B5.out.trans (hb.mono (Nat.le_trans (by simp) B5.out.size)))
        have K16 := hide (K15.out.trans (hb.mono (Nat.le_trans (by simp) K15.out.size)))
        clear hb B5 K15
        have S2 := hide hsl2
        clear hsl2 H2
        have K26 := hide (Below.refl w6.heap.size w6)
        obtain rfl : n2 = 0 := S2.out.len.symm
        go_wp2
        go_ret
        exact ⟨rfl, B6.out⟩
      · skip
        have h4 := fun A1 n1 c1 W hs => lright_any A1 n1 c1 r2 W hs
        rw [e3] at h4
        have E2 := hide e2
        have H4 := hide h4
        clear h4 e2 e3
        have h6 := fun A1 n1 c1 W hs => lright_any A1 n1 c1 s2 W hs
        rw [g3] at h6
        have h7 := fun A1 n1 c1 W hs => lfind_any A1 n1 c1 s2 item W hs
        rw [g5] at h7
        rw [g4] at h3
        have G2 := hide g2
        have H6 := hide h6
        obtain ⟨x0, x1, x2, x3, x4, x5⟩ := x
        have u1 := gM.od
        simp only at u1
        obtain ⟨D, hD⟩ : ∃ D, D = max (min x3 due) x2 := ⟨_, rfl⟩
        unfold loV recF at h7
        unfold loV at h3
        simp only at h3 h7
        rw [← hD] at h7
        have v1 : D ≤ x3 := by omega
        have v2 : x2 ≤ D := by omega
        have H3 := hide h3
        have H7 := hide h7
        clear h3 h6 h7 g2 g3 g4 g5 gM hD u1
        clear hV
        go_enter Try.func8, Try.ntmps8
        go_wp2_with fail
        refine (lalive_any _).mono ?_
        rintro e w1 ⟨rfl, hb⟩
        have B1 := hide (B0.out.trans (hb.mono (Nat.le_trans (by simp) B0.out.size)))
        clear hb 
        go_wp2_with fail
        refine (HV.out _ B1.out).mono ?_
        rintro e w2 ⟨rfl, hb⟩
        have B2 := hide (B1.out.trans (hb.mono (Nat.le_trans (by simp) B1.out.size)))
        clear hb B1
        clear HV
        go_wp2_with fail
        refine (H1.out _ B2.out).mono ?_
        rintro e w3 ⟨A1, n1, c1, rfl, hsl1, hb⟩
        have B3 := hide (B2.out.trans (hb.mono (Nat.le_trans (by simp) B2.out.size)))
        clear hb B2
        have S1 := hide hsl1
        clear hsl1 H1
        have K13 := hide (Below.refl w3.heap.size w3)
        have hq := lothers_any _ _ _ _ _ _ _ _ item _ ((S1.out.below K13.out).more K13.out.size) (HSL.out _ B3.out) E2.out
        have HQ := hide hq
        clear hq
        go_wp2_with fail
        refine (HQ.out).mono ?_
        rintro e w4 ⟨rfl, hb⟩
        have B4 := hide (B3.out.trans (hb.mono (Nat.le_trans (by simp) B3.out.size)))
        have K14 := hide (K13.out.trans (hb.mono (Nat.le_trans (by simp) K13.out.size)))
        clear hb B3 K13
        go_wp2_with fail
        refine (H4.out _ _ _ _ ((S1.out.below K14.out).more K14.out.size)).mono ?_
        rintro e w5 ⟨rfl, hb⟩
        have B5 := hide (B4.out.trans (hb.mono (Nat.le_trans (by simp) B4.out.size)))
        have K15 := hide (K14.out.trans (hb.mono (Nat.le_trans (by simp) K14.out.size)))
        clear hb B4 K14
        go_wp2_with fail
        refine (H2.out _ B5.out).mono ?_
        rintro e w6 ⟨A2, n2, c2, rfl, hsl2, hb⟩
        have B6 := hide (B5.out.trans (hb.mono (Nat.le_trans (by simp) B5.out.size)))
        have K16 := hide (K15.out.trans (hb.mono (Nat.le_trans (by simp) K15.out.size)))
        clear hb B5 K15
        have S2 := hide hsl2
        clear hsl2 H2
        have K26 := hide (Below.refl w6.heap.size w6)
        go_wp2_with fail
        refine (H3.out _ B6.out).mono ?_
        rintro e w7 ⟨rfl, hb⟩
        have B7 := hide (B6.out.trans (hb.mono (Nat.le_trans (by simp) B6.out.size)))
        have K17 := hide (K16.out.trans (hb.mono (Nat.le_trans (by simp) K16.out.size)))
        have K27 := hide (K26.out.trans (hb.mono (Nat.le_trans (by simp) K26.out.size)))
        clear hb B6 K16 K26
        clear H3
        have HB3 : Hid (Box (w7.alloc (.cells #[.int .i64 x0, .int .i64 x1, .int .i64 x2, .int .i64 x3, .int .i64 x4, .bool x5] 28)) w7.heap.size 28 #[.int .i64 x0, .int .i64 x1, .int .i64 x2, .int .i64 x3, .int .i64 x4, .bool x5]) := hide (Box.new w7 28 _)
        have hz3 : w.heap.size ≤ w7.heap.size := B7.out.size
        have B8 := hide (B7.out.alloc (Nat.le_trans (by simp) B7.out.size) (.cells #[.int .i64 x0, .int .i64 x1, .int .i64 x2, .int .i64 x3, .int .i64 x4, .bool x5] 28))
        have K18 := hide (K17.out.alloc (Nat.le_trans (by simp) K17.out.size) (.cells #[.int .i64 x0, .int .i64 x1, .int .i64 x2, .int .i64 x3, .int .i64 x4, .bool x5] 28))
        have K28 := hide (K27.out.alloc (Nat.le_trans (by simp) K27.out.size) (.cells #[.int .i64 x0, .int .i64 x1, .int .i64 x2, .int .i64 x3, .int .i64 x4, .bool x5] 28))
        clear B7 K17 K27
        have M38 := hide (Below.refl (w7.alloc (.cells #[.int .i64 x0, .int .i64 x1, .int .i64 x2, .int .i64 x3, .int .i64 x4, .bool x5] 28)).heap.size (w7.alloc (.cells #[.int .i64 x0, .int .i64 x1, .int .i64 x2, .int .i64 x3, .int .i64 x4, .bool x5] 28)))
        go_wp2_with fail
        refine (H7.out _ _ _ _ ((S2.out.below K28.out).more K28.out.size)).mono ?_
        rintro e w9 ⟨rfl, hb⟩
        have B9 := hide (B8.out.trans (hb.mono (Nat.le_trans (by simp) B8.out.size)))
        have K19 := hide (K18.out.trans (hb.mono (Nat.le_trans (by simp) K18.out.size)))
        have K29 := hide (K28.out.trans (hb.mono (Nat.le_trans (by simp) K28.out.size)))
        have M39 := hide (M38.out.trans (hb.mono (Nat.le_trans (by simp) M38.out.size)))
        clear hb B8 K18 K28 M38
        clear H7
        have HB7 : Hid (Box (w9.alloc (.cells #[.int .i64 x0, .int .i64 x1, .int .i64 x2, .int .i64 D, .int .i64 x4, .bool true] 28)) w9.heap.size 28 #[.int .i64 x0, .int .i64 x1, .int .i64 x2, .int .i64 D, .int .i64 x4, .bool true]) := hide (Box.new w9 28 _)
        have hz7 : w.heap.size ≤ w9.heap.size := B9.out.size
        have B10 := hide (B9.out.alloc (Nat.le_trans (by simp) B9.out.size) (.cells #[.int .i64 x0, .int .i64 x1, .int .i64 x2, .int .i64 D, .int .i64 x4, .bool true] 28))
        have K110 := hide (K19.out.alloc (Nat.le_trans (by simp) K19.out.size) (.cells #[.int .i64 x0, .int .i64 x1, .int .i64 x2, .int .i64 D, .int .i64 x4, .bool true] 28))
        have K210 := hide (K29.out.alloc (Nat.le_trans (by simp) K29.out.size) (.cells #[.int .i64 x0, .int .i64 x1, .int .i64 x2, .int .i64 D, .int .i64 x4, .bool true] 28))
        have M310 := hide (M39.out.alloc (Nat.le_trans (by simp) M39.out.size) (.cells #[.int .i64 x0, .int .i64 x1, .int .i64 x2, .int .i64 D, .int .i64 x4, .bool true] 28))
        clear B9 K19 K29 M39
        have M710 := hide (Below.refl (w9.alloc (.cells #[.int .i64 x0, .int .i64 x1, .int .i64 x2, .int .i64 D, .int .i64 x4, .bool true] 28)).heap.size (w9.alloc (.cells #[.int .i64 x0, .int .i64 x1, .int .i64 x2, .int .i64 D, .int .i64 x4, .bool true] 28)))
        have hq := lothers_any _ _ _ _ _ _ _ _ item _ ((S2.out.below K210.out).more K210.out.size) (HSL.out _ B10.out) G2.out
        have HQ := hide hq
        clear hq
        go_wp2_with fail
        refine (HQ.out).mono ?_
        rintro e w11 ⟨rfl, hb⟩
        have B11 := hide (B10.out.trans (hb.mono (Nat.le_trans (by simp) B10.out.size)))
        have K111 := hide (K110.out.trans (hb.mono (Nat.le_trans (by simp) K110.out.size)))
        have K211 := hide (K210.out.trans (hb.mono (Nat.le_trans (by simp) K210.out.size)))
        have M311 := hide (M310.out.trans (hb.mono (Nat.le_trans (by simp) M310.out.size)))
        have M711 := hide (M710.out.trans (hb.mono (Nat.le_trans (by simp) M710.out.size)))
        clear hb B10 K110 K210 M310 M710
        go_wp2_with fail
        refine (H6.out _ _ _ _ ((S2.out.below K211.out).more K211.out.size)).mono ?_
        rintro e w12 ⟨rfl, hb⟩
        have B12 := hide (B11.out.trans (hb.mono (Nat.le_trans (by simp) B11.out.size)))
        have K112 := hide (K111.out.trans (hb.mono (Nat.le_trans (by simp) K111.out.size)))
        have K212 := hide (K211.out.trans (hb.mono (Nat.le_trans (by simp) K211.out.size)))
        have M312 := hide (M311.out.trans (hb.mono (Nat.le_trans (by simp) M311.out.size)))
        have M712 := hide (M711.out.trans (hb.mono (Nat.le_trans (by simp) M711.out.size)))
        clear hb B11 K111 K211 M311 M711
        have hb3 := HB3.out.below M312.out (by simp)
        have p0 := hb3.cell 0
        have p1 := hb3.cell 1
        have p2 := hb3.cell 2
        have p3 := hb3.cell 3
        have p4 := hb3.cell 4
        have p5 := hb3.cell 5
        simp at p0 p1 p2 p3 p4 p5
        clear hb3
        have hb7 := HB7.out.below M712.out (by simp)
        have q0 := hb7.cell 0
        have q1 := hb7.cell 1
        have q2 := hb7.cell 2
        have q3 := hb7.cell 3
        have q4 := hb7.cell 4
        have q5 := hb7.cell 5
        simp at q0 q1 q2 q3 q4 q5
        clear hb7
        go_wp2
        go_ret
        exact ⟨rfl, B12.out⟩
    · have e1b : (r1 == 0) = false := by simpa using e1
      rcases hc2 with ⟨g1, g2⟩ | ⟨x, rfl, g2, g3, g4, g5, gM⟩
      · skip
        subst g2
        have g1b : (s1 != 0) = true := by simpa using g1
        clear g1 h3
        clear hV
        go_enter Try.func8, Try.ntmps8
        go_wp2_with fail
        refine (lalive_any _).mono ?_
        rintro e w1 ⟨rfl, hb⟩
        have B1 := hide (B0.out.trans (hb.mono (Nat.le_trans (by simp) B0.out.size)))
        clear hb 
        go_wp2_with fail
        refine (HV.out _ B1.out).mono ?_
        rintro e w2 ⟨rfl, hb⟩
        have B2 := hide (B1.out.trans (hb.mono (Nat.le_trans (by simp) B1.out.size)))
        clear hb B1
        clear HV
        go_wp2_with fail
        refine (H1.out _ B2.out).mono ?_
        rintro e w3 ⟨A1, n1, c1, rfl, hsl1, hb⟩
        have B3 := hide (B2.out.trans (hb.mono (Nat.le_trans (by simp) B2.out.size)))
        clear hb B2
        have S1 := hide hsl1
        clear hsl1 H1
        have K13 := hide (Below.refl w3.heap.size w3)
        go_wp2_with fail
        refine (H2.out _ B3.out).mono ?_
        rintro e w4 ⟨A2, n2, c2, rfl, hsl2, hb⟩
        have B4 := hide (B3.out.trans (hb.mono (Nat.le_trans (by simp) B3.out.size)))
        have K14 := hide (K13.out.trans (hb.mono (Nat.le_trans (by simp) K13.out.size)))
        clear hb B3 K13
        have S2 := hide hsl2
        clear hsl2 H2
        have K24 := hide (Below.refl w4.heap.size w4)
        obtain rfl : n2 = 0 := S2.out.len.symm
        go_wp2
        go_ret
        exact ⟨rfl, B4.out⟩
      · skip
        have h6 := fun A1 n1 c1 W hs => lright_any A1 n1 c1 s2 W hs
        rw [g3] at h6
        have h7 := fun A1 n1 c1 W hs => lfind_any A1 n1 c1 s2 item W hs
        rw [g5] at h7
        rw [g4] at h3
        have G2 := hide g2
        have H6 := hide h6
        obtain ⟨x0, x1, x2, x3, x4, x5⟩ := x
        have u1 := gM.od
        simp only at u1
        obtain ⟨D, hD⟩ : ∃ D, D = max (min x3 due) x2 := ⟨_, rfl⟩
        unfold loV recF at h7
        unfold loV at h3
        simp only at h3 h7
        rw [← hD] at h7
        have v1 : D ≤ x3 := by omega
        have v2 : x2 ≤ D := by omega
        have H3 := hide h3
        have H7 := hide h7
        clear h3 h6 h7 g2 g3 g4 g5 gM hD u1
        clear hV
        go_enter Try.func8, Try.ntmps8
        go_wp2_with fail
        refine (lalive_any _).mono ?_
        rintro e w1 ⟨rfl, hb⟩
        have B1 := hide (B0.out.trans (hb.mono (Nat.le_trans (by simp) B0.out.size)))
        clear hb 
        go_wp2_with fail
        refine (HV.out _ B1.out).mono ?_
        rintro e w2 ⟨rfl, hb⟩
        have B2 := hide (B1.out.trans (hb.mono (Nat.le_trans (by simp) B1.out.size)))
        clear hb B1
        clear HV
        go_wp2_with fail
        refine (H1.out _ B2.out).mono ?_
        rintro e w3 ⟨A1, n1, c1, rfl, hsl1, hb⟩
        have B3 := hide (B2.out.trans (hb.mono (Nat.le_trans (by simp) B2.out.size)))
        clear hb B2
        have S1 := hide hsl1
        clear hsl1 H1
        have K13 := hide (Below.refl w3.heap.size w3)
        go_wp2_with fail
        refine (H2.out _ B3.out).mono ?_
        rintro e w4 ⟨A2, n2, c2, rfl, hsl2, hb⟩
        have B4 := hide (B3.out.trans (hb.mono (Nat.le_trans (by simp) B3.out.size)))
        have K14 := hide (K13.out.trans (hb.mono (Nat.le_trans (by simp) K13.out.size)))
        clear hb B3 K13
        have S2 := hide hsl2
        clear hsl2 H2
        have K24 := hide (Below.refl w4.heap.size w4)
        go_wp2_with fail
        refine (H3.out _ B4.out).mono ?_
        rintro e w5 ⟨rfl, hb⟩
        have B5 := hide (B4.out.trans (hb.mono (Nat.le_trans (by simp) B4.out.size)))
        have K15 := hide (K14.out.trans (hb.mono (Nat.le_trans (by simp) K14.out.size)))
        have K25 := hide (K24.out.trans (hb.mono (Nat.le_trans (by simp) K24.out.size)))
        clear hb B4 K14 K24
        clear H3
        have HB3 : Hid (Box (w5.alloc (.cells #[.int .i64 x0, .int .i64 x1, .int .i64 x2, .int .i64 x3, .int .i64 x4, .bool x5] 28)) w5.heap.size 28 #[.int .i64 x0, .int .i64 x1, .int .i64 x2, .int .i64 x3, .int .i64 x4, .bool x5]) := hide (Box.new w5 28 _)
        have hz3 : w.heap.size ≤ w5.heap.size := B5.out.size
        have B6 := hide (B5.out.alloc (Nat.le_trans (by simp) B5.out.size) (.cells #[.int .i64 x0, .int .i64 x1, .int .i64 x2, .int .i64 x3, .int .i64 x4, .bool x5] 28))
        have K16 := hide (K15.out.alloc (Nat.le_trans (by simp) K15.out.size) (.cells #[.int .i64 x0, .int .i64 x1, .int .i64 x2, .int .i64 x3, .int .i64 x4, .bool x5] 28))
        have K26 := hide (K25.out.alloc (Nat.le_trans (by simp) K25.out.size) (.cells #[.int .i64 x0, .int .i64 x1, .int .i64 x2, .int .i64 x3, .int .i64 x4, .bool x5] 28))
        clear B5 K15 K25
        have M36 := hide (Below.refl (w5.alloc (.cells #[.int .i64 x0, .int .i64 x1, .int .i64 x2, .int .i64 x3, .int .i64 x4, .bool x5] 28)).heap.size (w5.alloc (.cells #[.int .i64 x0, .int .i64 x1, .int .i64 x2, .int .i64 x3, .int .i64 x4, .bool x5] 28)))
        go_wp2_with fail
        refine (H7.out _ _ _ _ ((S2.out.below K26.out).more K26.out.size)).mono ?_
        rintro e w7 ⟨rfl, hb⟩
        have B7 := hide (B6.out.trans (hb.mono (Nat.le_trans (by simp) B6.out.size)))
        have K17 := hide (K16.out.trans (hb.mono (Nat.le_trans (by simp) K16.out.size)))
        have K27 := hide (K26.out.trans (hb.mono (Nat.le_trans (by simp) K26.out.size)))
        have M37 := hide (M36.out.trans (hb.mono (Nat.le_trans (by simp) M36.out.size)))
        clear hb B6 K16 K26 M36
        clear H7
        have HB7 : Hid (Box (w7.alloc (.cells #[.int .i64 x0, .int .i64 x1, .int .i64 x2, .int .i64 D, .int .i64 x4, .bool true] 28)) w7.heap.size 28 #[.int .i64 x0, .int .i64 x1, .int .i64 x2, .int .i64 D, .int .i64 x4, .bool true]) := hide (Box.new w7 28 _)
        have hz7 : w.heap.size ≤ w7.heap.size := B7.out.size
        have B8 := hide (B7.out.alloc (Nat.le_trans (by simp) B7.out.size) (.cells #[.int .i64 x0, .int .i64 x1, .int .i64 x2, .int .i64 D, .int .i64 x4, .bool true] 28))
        have K18 := hide (K17.out.alloc (Nat.le_trans (by simp) K17.out.size) (.cells #[.int .i64 x0, .int .i64 x1, .int .i64 x2, .int .i64 D, .int .i64 x4, .bool true] 28))
        have K28 := hide (K27.out.alloc (Nat.le_trans (by simp) K27.out.size) (.cells #[.int .i64 x0, .int .i64 x1, .int .i64 x2, .int .i64 D, .int .i64 x4, .bool true] 28))
        have M38 := hide (M37.out.alloc (Nat.le_trans (by simp) M37.out.size) (.cells #[.int .i64 x0, .int .i64 x1, .int .i64 x2, .int .i64 D, .int .i64 x4, .bool true] 28))
        clear B7 K17 K27 M37
        have M78 := hide (Below.refl (w7.alloc (.cells #[.int .i64 x0, .int .i64 x1, .int .i64 x2, .int .i64 D, .int .i64 x4, .bool true] 28)).heap.size (w7.alloc (.cells #[.int .i64 x0, .int .i64 x1, .int .i64 x2, .int .i64 D, .int .i64 x4, .bool true] 28)))
        have hq := lothers_any _ _ _ _ _ _ _ _ item _ ((S2.out.below K28.out).more K28.out.size) (HSL.out _ B8.out) G2.out
        have HQ := hide hq
        clear hq
        go_wp2_with fail
        refine (HQ.out).mono ?_
        rintro e w9 ⟨rfl, hb⟩
        have B9 := hide (B8.out.trans (hb.mono (Nat.le_trans (by simp) B8.out.size)))
        have K19 := hide (K18.out.trans (hb.mono (Nat.le_trans (by simp) K18.out.size)))
        have K29 := hide (K28.out.trans (hb.mono (Nat.le_trans (by simp) K28.out.size)))
        have M39 := hide (M38.out.trans (hb.mono (Nat.le_trans (by simp) M38.out.size)))
        have M79 := hide (M78.out.trans (hb.mono (Nat.le_trans (by simp) M78.out.size)))
        clear hb B8 K18 K28 M38 M78
        go_wp2_with fail
        refine (H6.out _ _ _ _ ((S2.out.below K29.out).more K29.out.size)).mono ?_
        rintro e w10 ⟨rfl, hb⟩
        have B10 := hide (B9.out.trans (hb.mono (Nat.le_trans (by simp) B9.out.size)))
        have K110 := hide (K19.out.trans (hb.mono (Nat.le_trans (by simp) K19.out.size)))
        have K210 := hide (K29.out.trans (hb.mono (Nat.le_trans (by simp) K29.out.size)))
        have M310 := hide (M39.out.trans (hb.mono (Nat.le_trans (by simp) M39.out.size)))
        have M710 := hide (M79.out.trans (hb.mono (Nat.le_trans (by simp) M79.out.size)))
        clear hb B9 K19 K29 M39 M79
        have hb3 := HB3.out.below M310.out (by simp)
        have p0 := hb3.cell 0
        have p1 := hb3.cell 1
        have p2 := hb3.cell 2
        have p3 := hb3.cell 3
        have p4 := hb3.cell 4
        have p5 := hb3.cell 5
        simp at p0 p1 p2 p3 p4 p5
        clear hb3
        have hb7 := HB7.out.below M710.out (by simp)
        have q0 := hb7.cell 0
        have q1 := hb7.cell 1
        have q2 := hb7.cell 2
        have q3 := hb7.cell 3
        have q4 := hb7.cell 4
        have q5 := hb7.cell 5
        simp at q0 q1 q2 q3 q4 q5
        clear hb7
        go_wp2
        go_ret
        exact ⟨rfl, B10.out⟩
  · have HV := hide (fun W hW => lvalid_any A xs.length c xs W (hsl W hW))
    have hvb : (rightL xs == 0) = false := by simpa using hv
    rw [hvb] at HV
    clear hsl hs hvb hv
    go_enter Try.func8, Try.ntmps8
    go_wp2_with fail
    refine (lalive_any _).mono ?_
    rintro e w1 ⟨rfl, hb⟩
    have B1 := hide (B0.out.trans (hb.mono (Nat.le_trans (by simp) B0.out.size)))
    clear hb 
    go_wp2_with fail
    refine (HV.out _ B1.out).mono ?_
    rintro e w2 ⟨rfl, hb⟩
    have B2 := hide (B1.out.trans (hb.mono (Nat.le_trans (by simp) B1.out.size)))
    clear hb B1
    go_wp2
    go_ret
    exact ⟨rfl, B2.out⟩
end Go.Proofs.Ytelkidhgbjhboaa
