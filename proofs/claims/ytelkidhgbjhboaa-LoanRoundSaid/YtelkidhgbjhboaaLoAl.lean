/- Walks: the chapter's examples; valid. Printed by gen_lo_al.py. -/
import Derived.Test.YtelkidhgbjhboaaLoF
import Derived.Test.YtelkidhgbjhboaaLoI
import Derived.Test.YtelkidhgbjhboaaLoK
import Derived.Test.YtelkidhgbjhboaaLoN
import Derived.Test.YtelkidhgbjhboaaLoSame
namespace Go.Proofs.Ytelkidhgbjhboaa
open Go.RowKit

abbrev exL : List Lo := [⟨2, 5, 10, 24, 0, false⟩, ⟨4, 5, 10, 30, 0, false⟩]
theorem exLM : ∀ x ∈ exL, LoM x := fun x hx => badL_ok (chkL_ok exL none (by decide +kernel) x hx)
theorem exMM : ∀ x ∈ ([⟨2, 5, 10, 17, 0, true⟩, ⟨4, 5, 10, 30, 0, false⟩] : List Lo), LoM x := fun x hx => badL_ok (chkL_ok [⟨2, 5, 10, 17, 0, true⟩, ⟨4, 5, 10, 30, 0, false⟩] none (by decide +kernel) x hx)
theorem ex1 : recallL exL 2 17 = (0, [⟨2, 5, 10, 17, 0, true⟩, ⟨4, 5, 10, 30, 0, false⟩]) := by decide +kernel
theorem ex2 : recallL exL 2 5 = (0, [⟨2, 5, 10, 10, 0, true⟩, ⟨4, 5, 10, 30, 0, false⟩]) := by decide +kernel
theorem ex3 : recallL exL 2 40 = (0, [⟨2, 5, 10, 24, 0, true⟩, ⟨4, 5, 10, 30, 0, false⟩]) := by decide +kernel
theorem ex4 : recallL [⟨2, 5, 10, 17, 0, true⟩, ⟨4, 5, 10, 30, 0, false⟩] 2 17 = (12, []) := by decide +kernel
theorem ex5 : renewL [⟨2, 5, 10, 17, 0, true⟩, ⟨4, 5, 10, 30, 0, false⟩] 2 40 = (12, []) := by decide +kernel
theorem ex6 : outL exL ⟨3, 6, 9, 9, 0, false⟩ = (0, [⟨2, 5, 10, 24, 0, false⟩, ⟨3, 6, 9, 9, 0, false⟩, ⟨4, 5, 10, 30, 0, false⟩]) := by decide +kernel
theorem ex7 : outL exL ⟨4, 5, 10, 30, 0, false⟩ = (7, []) := by decide +kernel
theorem ex8 : renewL exL 2 9 = (2, []) := by decide +kernel
theorem ex9 : lateL exL 5 25 = 1 := by decide +kernel
theorem ex10 : lateL exL 5 24 = 0 := by decide +kernel

theorem lvalid_any (A : Option Addr) (n c : Nat) (xs : List Lo) (w : World) (hs : Los w w.heap.size A n c xs) :
    Calls Try.prog 14 #[.slice A n c] w fun e w' => e = .returned (.bool (rightL xs == 0)) ∧ Below w.heap.size w w' := by
  have HR := hide (rright_any A n c xs w hs)
  clear hs
  go_enter Try.func14, Try.ntmps14
  go_wp2_with fail
  refine HR.out.mono ?_
  rintro e w1 ⟨rfl, hb⟩
  go_wp2
  go_ret
  exact ⟨rfl, hb⟩

set_option maxRecDepth 100000 in
set_option maxHeartbeats 4000000 in
theorem lalive_any (w : World) : Calls Try.prog 11 #[] w fun e w' => e = .returned (.bool true) ∧ Below w.heap.size w w' := by
  have X1 := hide (Box.new w 28 #[.int .i64 2, .int .i64 5, .int .i64 10, .int .i64 24, .int .i64 0, .bool false])
  have h0 : ∀ W, Below (w.heap.size + 4) ((((w.alloc (.cells #[.int .i64 2, .int .i64 5, .int .i64 10, .int .i64 24, .int .i64 0, .bool false] 28)).alloc (.cells #[.int .i64 4, .int .i64 5, .int .i64 10, .int .i64 30, .int .i64 0, .bool false] 28)).alloc (.cells #[.int .i64 3, .int .i64 6, .int .i64 9, .int .i64 9, .int .i64 0, .bool false] 28)).alloc (.cells #[.int .i64 2, .int .i64 5, .int .i64 10, .int .i64 24, .int .i64 0, .bool false, .int .i64 4, .int .i64 5, .int .i64 10, .int .i64 30, .int .i64 0, .bool false] 28)) W → Los W W.heap.size (some ⟨w.heap.size + 3, 0, none⟩) 2 2 exL := fun W hW => by
    have hb := (Box.new (((w.alloc (.cells #[.int .i64 2, .int .i64 5, .int .i64 10, .int .i64 24, .int .i64 0, .bool false] 28)).alloc (.cells #[.int .i64 4, .int .i64 5, .int .i64 10, .int .i64 30, .int .i64 0, .bool false] 28)).alloc (.cells #[.int .i64 3, .int .i64 6, .int .i64 9, .int .i64 9, .int .i64 0, .bool false] 28)) 28 #[.int .i64 2, .int .i64 5, .int .i64 10, .int .i64 24, .int .i64 0, .bool false, .int .i64 4, .int .i64 5, .int .i64 10, .int .i64 30, .int .i64 0, .bool false]).below hW (by simp)
    simp only [World.size_alloc] at hb
    exact ((Sl.of_box (xs := exL) loE_len hb rfl (Nat.le_refl _) (by simp)).more (by have := hW.size; simpa using this))
  have H0 := hide h0
  have ha : ∀ W, Below (w.heap.size + 4) ((((w.alloc (.cells #[.int .i64 2, .int .i64 5, .int .i64 10, .int .i64 24, .int .i64 0, .bool false] 28)).alloc (.cells #[.int .i64 4, .int .i64 5, .int .i64 10, .int .i64 30, .int .i64 0, .bool false] 28)).alloc (.cells #[.int .i64 3, .int .i64 6, .int .i64 9, .int .i64 9, .int .i64 0, .bool false] 28)).alloc (.cells #[.int .i64 2, .int .i64 5, .int .i64 10, .int .i64 24, .int .i64 0, .bool false, .int .i64 4, .int .i64 5, .int .i64 10, .int .i64 30, .int .i64 0, .bool false] 28)) W → Box W w.heap.size 28 #[.int .i64 2, .int .i64 5, .int .i64 10, .int .i64 24, .int .i64 0, .bool false] ∧ Box W (w.heap.size + 1) 28 #[.int .i64 4, .int .i64 5, .int .i64 10, .int .i64 30, .int .i64 0, .bool false] ∧ Box W (w.heap.size + 2) 28 #[.int .i64 3, .int .i64 6, .int .i64 9, .int .i64 9, .int .i64 0, .bool false] := fun W hW => by
    have h1 := ((((Box.new w 28 #[.int .i64 2, .int .i64 5, .int .i64 10, .int .i64 24, .int .i64 0, .bool false]).alloc (.cells #[.int .i64 4, .int .i64 5, .int .i64 10, .int .i64 30, .int .i64 0, .bool false] 28)).alloc (.cells #[.int .i64 3, .int .i64 6, .int .i64 9, .int .i64 9, .int .i64 0, .bool false] 28)).alloc (.cells #[.int .i64 2, .int .i64 5, .int .i64 10, .int .i64 24, .int .i64 0, .bool false, .int .i64 4, .int .i64 5, .int .i64 10, .int .i64 30, .int .i64 0, .bool false] 28)).below hW (by omega)
    have h2 := (((Box.new (w.alloc (.cells #[.int .i64 2, .int .i64 5, .int .i64 10, .int .i64 24, .int .i64 0, .bool false] 28)) 28 #[.int .i64 4, .int .i64 5, .int .i64 10, .int .i64 30, .int .i64 0, .bool false]).alloc (.cells #[.int .i64 3, .int .i64 6, .int .i64 9, .int .i64 9, .int .i64 0, .bool false] 28)).alloc (.cells #[.int .i64 2, .int .i64 5, .int .i64 10, .int .i64 24, .int .i64 0, .bool false, .int .i64 4, .int .i64 5, .int .i64 10, .int .i64 30, .int .i64 0, .bool false] 28)).below hW (by simp)
    have h3 := ((Box.new ((w.alloc (.cells #[.int .i64 2, .int .i64 5, .int .i64 10, .int .i64 24, .int .i64 0, .bool false] 28)).alloc (.cells #[.int .i64 4, .int .i64 5, .int .i64 10, .int .i64 30, .int .i64 0, .bool false] 28)) 28 #[.int .i64 3, .int .i64 6, .int .i64 9, .int .i64 9, .int .i64 0, .bool false]).alloc (.cells #[.int .i64 2, .int .i64 5, .int .i64 10, .int .i64 24, .int .i64 0, .bool false, .int .i64 4, .int .i64 5, .int .i64 10, .int .i64 30, .int .i64 0, .bool false] 28)).below hW (by simp)
    simp only [World.size_alloc] at h1 h2 h3
    exact ⟨h1, h2, h3⟩
  have HA := hide ha
  have B0 := hide (((((Below.refl w.heap.size w).alloc (Nat.le_refl _) (.cells #[.int .i64 2, .int .i64 5, .int .i64 10, .int .i64 24, .int .i64 0, .bool false] 28)).alloc (by simp) (.cells #[.int .i64 4, .int .i64 5, .int .i64 10, .int .i64 30, .int .i64 0, .bool false] 28)).alloc (by simp; omega) (.cells #[.int .i64 3, .int .i64 6, .int .i64 9, .int .i64 9, .int .i64 0, .bool false] 28)).alloc (by simp; omega) (.cells #[.int .i64 2, .int .i64 5, .int .i64 10, .int .i64 24, .int .i64 0, .bool false, .int .i64 4, .int .i64 5, .int .i64 10, .int .i64 30, .int .i64 0, .bool false] 28))
  have Z0 := hide (Below.refl (w.heap.size + 4) ((((w.alloc (.cells #[.int .i64 2, .int .i64 5, .int .i64 10, .int .i64 24, .int .i64 0, .bool false] 28)).alloc (.cells #[.int .i64 4, .int .i64 5, .int .i64 10, .int .i64 30, .int .i64 0, .bool false] 28)).alloc (.cells #[.int .i64 3, .int .i64 6, .int .i64 9, .int .i64 9, .int .i64 0, .bool false] 28)).alloc (.cells #[.int .i64 2, .int .i64 5, .int .i64 10, .int .i64 24, .int .i64 0, .bool false, .int .i64 4, .int .i64 5, .int .i64 10, .int .i64 30, .int .i64 0, .bool false] 28)))
  clear h0 ha X1
  go_enter Try.func11, Try.ntmps11
  have hc := lrecall_any (some ⟨w.heap.size + 3, 0, none⟩) 2 2 exL 2 17 ((((w.alloc (.cells #[.int .i64 2, .int .i64 5, .int .i64 10, .int .i64 24, .int .i64 0, .bool false] 28)).alloc (.cells #[.int .i64 4, .int .i64 5, .int .i64 10, .int .i64 30, .int .i64 0, .bool false] 28)).alloc (.cells #[.int .i64 3, .int .i64 6, .int .i64 9, .int .i64 9, .int .i64 0, .bool false] 28)).alloc (.cells #[.int .i64 2, .int .i64 5, .int .i64 10, .int .i64 24, .int .i64 0, .bool false, .int .i64 4, .int .i64 5, .int .i64 10, .int .i64 30, .int .i64 0, .bool false] 28)) (H0.out _ Z0.out) (by omega)
  rw [ex1] at hc
  have HC := hide hc
  clear hc
  go_wp2_with fail
  refine HC.out.mono ?_
  rintro e w1 ⟨A1, n1, c1, rfl, hsl, hb⟩
  have Z1 := hide (Z0.out.trans (hb.mono (Nat.le_trans (by simp) Z0.out.size)))
  clear hb 
  obtain rfl : n1 = 2 := hsl.len.symm
  have S1 := hide hsl
  have K11 := hide (Below.refl w1.heap.size w1)
  obtain ⟨b1, o1, _, rfl, _, _, _⟩ := hsl.at_ (show 0 < 2 by omega)
  clear hsl HC
  have hc := lrecall_any (some ⟨w.heap.size + 3, 0, none⟩) 2 2 exL 2 5 w1 (H0.out _ Z1.out) (by omega)
  rw [ex2] at hc
  have HC := hide hc
  clear hc
  go_wp2_with fail
  refine HC.out.mono ?_
  rintro e w2 ⟨A2, n2, c2, rfl, hsl, hb⟩
  have Z2 := hide (Z1.out.trans (hb.mono (Nat.le_trans (by simp) Z1.out.size)))
  have K12 := hide (K11.out.trans (hb.mono (Nat.le_trans (by simp) K11.out.size)))
  clear hb Z1 K11
  obtain rfl : n2 = 2 := hsl.len.symm
  have S2 := hide hsl
  have K22 := hide (Below.refl w2.heap.size w2)
  obtain ⟨b2, o2, _, rfl, _, _, _⟩ := hsl.at_ (show 0 < 2 by omega)
  clear hsl HC
  have hc := lrecall_any (some ⟨w.heap.size + 3, 0, none⟩) 2 2 exL 2 40 w2 (H0.out _ Z2.out) (by omega)
  rw [ex3] at hc
  have HC := hide hc
  clear hc
  go_wp2_with fail
  refine HC.out.mono ?_
  rintro e w3 ⟨A3, n3, c3, rfl, hsl, hb⟩
  have Z3 := hide (Z2.out.trans (hb.mono (Nat.le_trans (by simp) Z2.out.size)))
  have K13 := hide (K12.out.trans (hb.mono (Nat.le_trans (by simp) K12.out.size)))
  have K23 := hide (K22.out.trans (hb.mono (Nat.le_trans (by simp) K22.out.size)))
  clear hb Z2 K12 K22
  obtain rfl : n3 = 2 := hsl.len.symm
  have S3 := hide hsl
  have K33 := hide (Below.refl w3.heap.size w3)
  obtain ⟨b3, o3, _, rfl, _, _, _⟩ := hsl.at_ (show 0 < 2 by omega)
  clear hsl HC
  have hc := lrecall_any _ _ _ _ 2 17 w3 ((S1.out.below K13.out).more K13.out.size) (by omega)
  rw [ex4] at hc
  have HC := hide hc
  clear hc
  go_wp2_with fail
  refine HC.out.mono ?_
  rintro e w4 ⟨A4, n4, c4, rfl, hsl, hb⟩
  have Z4 := hide (Z3.out.trans (hb.mono (Nat.le_trans (by simp) Z3.out.size)))
  have K14 := hide (K13.out.trans (hb.mono (Nat.le_trans (by simp) K13.out.size)))
  have K24 := hide (K23.out.trans (hb.mono (Nat.le_trans (by simp) K23.out.size)))
  have K34 := hide (K33.out.trans (hb.mono (Nat.le_trans (by simp) K33.out.size)))
  clear hb Z3 K13 K23 K33
  clear hsl HC
  have hc := lrenew_any _ _ _ _ 2 40 w4 ((S1.out.below K14.out).more K14.out.size) (by omega) exMM
  rw [ex5] at hc
  have HC := hide hc
  clear hc
  go_wp2_with fail
  refine HC.out.mono ?_
  rintro e w5 ⟨A5, n5, c5, rfl, hsl, hb⟩
  have Z5 := hide (Z4.out.trans (hb.mono (Nat.le_trans (by simp) Z4.out.size)))
  have K15 := hide (K14.out.trans (hb.mono (Nat.le_trans (by simp) K14.out.size)))
  have K25 := hide (K24.out.trans (hb.mono (Nat.le_trans (by simp) K24.out.size)))
  have K35 := hide (K34.out.trans (hb.mono (Nat.le_trans (by simp) K34.out.size)))
  clear hb Z4 K14 K24 K34
  clear hsl HC
  have hbx := (HA.out _ Z5.out).2.2
  have q0 := hbx.cell 0
  have q1 := hbx.cell 1
  have q2 := hbx.cell 2
  have q3 := hbx.cell 3
  have q4 := hbx.cell 4
  have q5 := hbx.cell 5
  simp at q0 q1 q2 q3 q4 q5
  have hc := lout_any (some ⟨w.heap.size + 3, 0, none⟩) 2 2 exL ⟨3, 6, 9, 9, 0, false⟩ w5 (H0.out _ Z5.out) (by omega)
  rw [ex6] at hc
  have HC := hide hc
  clear hc
  go_wp2_with fail
  refine HC.out.mono ?_
  rintro e w6 ⟨A6, n6, c6, rfl, hsl, hb⟩
  have Z6 := hide (Z5.out.trans (hb.mono (Nat.le_trans (by simp) Z5.out.size)))
  have K16 := hide (K15.out.trans (hb.mono (Nat.le_trans (by simp) K15.out.size)))
  have K26 := hide (K25.out.trans (hb.mono (Nat.le_trans (by simp) K25.out.size)))
  have K36 := hide (K35.out.trans (hb.mono (Nat.le_trans (by simp) K35.out.size)))
  clear hb Z5 K15 K25 K35
  obtain rfl : n6 = 3 := hsl.len.symm
  have S6 := hide hsl
  have K66 := hide (Below.refl w6.heap.size w6)
  obtain ⟨b6, o6, _, rfl, _, _, _⟩ := hsl.at_ (show 0 < 3 by omega)
  clear hsl HC
  clear hbx q0 q1 q2 q3 q4 q5
  have hbx := (HA.out _ Z6.out).2.1
  have q0 := hbx.cell 0
  have q1 := hbx.cell 1
  have q2 := hbx.cell 2
  have q3 := hbx.cell 3
  have q4 := hbx.cell 4
  have q5 := hbx.cell 5
  simp at q0 q1 q2 q3 q4 q5
  have hc := lout_any (some ⟨w.heap.size + 3, 0, none⟩) 2 2 exL ⟨4, 5, 10, 30, 0, false⟩ w6 (H0.out _ Z6.out) (by omega)
  rw [ex7] at hc
  have HC := hide hc
  clear hc
  go_wp2_with fail
  refine HC.out.mono ?_
  rintro e w7 ⟨A7, n7, c7, rfl, hsl, hb⟩
  have Z7 := hide (Z6.out.trans (hb.mono (Nat.le_trans (by simp) Z6.out.size)))
  have K17 := hide (K16.out.trans (hb.mono (Nat.le_trans (by simp) K16.out.size)))
  have K27 := hide (K26.out.trans (hb.mono (Nat.le_trans (by simp) K26.out.size)))
  have K37 := hide (K36.out.trans (hb.mono (Nat.le_trans (by simp) K36.out.size)))
  have K67 := hide (K66.out.trans (hb.mono (Nat.le_trans (by simp) K66.out.size)))
  clear hb Z6 K16 K26 K36 K66
  clear hsl HC
  clear hbx q0 q1 q2 q3 q4 q5
  have hc := lrenew_any (some ⟨w.heap.size + 3, 0, none⟩) 2 2 exL 2 9 w7 (H0.out _ Z7.out) (by omega) exLM
  rw [ex8] at hc
  have HC := hide hc
  clear hc
  go_wp2_with fail
  refine HC.out.mono ?_
  rintro e w8 ⟨A8, n8, c8, rfl, hsl, hb⟩
  have Z8 := hide (Z7.out.trans (hb.mono (Nat.le_trans (by simp) Z7.out.size)))
  have K18 := hide (K17.out.trans (hb.mono (Nat.le_trans (by simp) K17.out.size)))
  have K28 := hide (K27.out.trans (hb.mono (Nat.le_trans (by simp) K27.out.size)))
  have K38 := hide (K37.out.trans (hb.mono (Nat.le_trans (by simp) K37.out.size)))
  have K68 := hide (K67.out.trans (hb.mono (Nat.le_trans (by simp) K67.out.size)))
  clear hb Z7 K17 K27 K37 K67
  clear hsl HC
  have hc := llate_any (some ⟨w.heap.size + 3, 0, none⟩) 2 2 exL 5 25 w8 (H0.out _ Z8.out) (by omega)
  rw [ex9] at hc
  have HC := hide hc
  clear hc
  go_wp2_with fail
  refine (HC.out).mono ?_
  rintro e w9 ⟨rfl, hb⟩
  have Z9 := hide (Z8.out.trans (hb.mono (Nat.le_trans (by simp) Z8.out.size)))
  have K19 := hide (K18.out.trans (hb.mono (Nat.le_trans (by simp) K18.out.size)))
  have K29 := hide (K28.out.trans (hb.mono (Nat.le_trans (by simp) K28.out.size)))
  have K39 := hide (K38.out.trans (hb.mono (Nat.le_trans (by simp) K38.out.size)))
  have K69 := hide (K68.out.trans (hb.mono (Nat.le_trans (by simp) K68.out.size)))
  clear hb Z8 K18 K28 K38 K68
  clear HC
  have hc := llate_any (some ⟨w.heap.size + 3, 0, none⟩) 2 2 exL 5 24 w9 (H0.out _ Z9.out) (by omega)
  rw [ex10] at hc
  have HC := hide hc
  clear hc
  go_wp2_with fail
  refine (HC.out).mono ?_
  rintro e w10 ⟨rfl, hb⟩
  have Z10 := hide (Z9.out.trans (hb.mono (Nat.le_trans (by simp) Z9.out.size)))
  have K110 := hide (K19.out.trans (hb.mono (Nat.le_trans (by simp) K19.out.size)))
  have K210 := hide (K29.out.trans (hb.mono (Nat.le_trans (by simp) K29.out.size)))
  have K310 := hide (K39.out.trans (hb.mono (Nat.le_trans (by simp) K39.out.size)))
  have K610 := hide (K69.out.trans (hb.mono (Nat.le_trans (by simp) K69.out.size)))
  clear hb Z9 K19 K29 K39 K69
  clear HC
  obtain ⟨_, _, _, hA, _, hx, _, _, _, l1, _, t1⟩ := Los_at ((S1.out.below K110.out).more K110.out.size) (show 0 < 2 by omega)
  cases hA
  simp at hx
  subst hx
  simp only [Nat.zero_mul, Nat.add_zero] at l1 t1
  obtain ⟨_, _, _, hA, _, hx, _, _, _, l2, _, t2⟩ := Los_at ((S2.out.below K210.out).more K210.out.size) (show 0 < 2 by omega)
  cases hA
  simp at hx
  subst hx
  simp only [Nat.zero_mul, Nat.add_zero] at l2 t2
  obtain ⟨_, _, _, hA, _, hx, _, _, _, l3, _, t3⟩ := Los_at ((S3.out.below K310.out).more K310.out.size) (show 0 < 2 by omega)
  cases hA
  simp at hx
  subst hx
  simp only [Nat.zero_mul, Nat.add_zero] at l3 t3
  clear t2 t3
  obtain ⟨h1, h2, h3⟩ := HA.out _ Z10.out
  have a0 := h1.cell 0
  have a1 := h1.cell 1
  have a2 := h1.cell 2
  have a3 := h1.cell 3
  have a4 := h1.cell 4
  have a5 := h1.cell 5
  have b0 := h2.cell 0
  have b1 := h2.cell 1
  have b2 := h2.cell 2
  have b3 := h2.cell 3
  have b4 := h2.cell 4
  have b5 := h2.cell 5
  have c0 := h3.cell 0
  have c1 := h3.cell 1
  have c2 := h3.cell 2
  have c3 := h3.cell 3
  have c4 := h3.cell 4
  have c5 := h3.cell 5
  simp at a0 a1 a2 a3 a4 a5 b0 b1 b2 b3 b4 b5 c0 c1 c2 c3 c4 c5
  clear h1 h2 h3
  have HS6 := hide ((S6.out.below K610.out).more K610.out.size)
  have hc := lo_same (some ⟨b6, o6, none⟩) (some ⟨w10.heap.size, 0, none⟩) 3 c6 3 3 [⟨2, 5, 10, 24, 0, false⟩, ⟨3, 6, 9, 9, 0, false⟩, ⟨4, 5, 10, 30, 0, false⟩] [⟨2, 5, 10, 24, 0, false⟩, ⟨3, 6, 9, 9, 0, false⟩, ⟨4, 5, 10, 30, 0, false⟩] (w10.alloc (.cells #[.int .i64 2, .int .i64 5, .int .i64 10, .int .i64 24, .int .i64 0, .bool false, .int .i64 3, .int .i64 6, .int .i64 9, .int .i64 9, .int .i64 0, .bool false, .int .i64 4, .int .i64 5, .int .i64 10, .int .i64 30, .int .i64 0, .bool false] 28)) (((HS6.out.alloc (Nat.le_refl _) (.cells #[.int .i64 2, .int .i64 5, .int .i64 10, .int .i64 24, .int .i64 0, .bool false, .int .i64 3, .int .i64 6, .int .i64 9, .int .i64 9, .int .i64 0, .bool false, .int .i64 4, .int .i64 5, .int .i64 10, .int .i64 30, .int .i64 0, .bool false] 28))).more (by simp)) ((Sl.of_box (xs := [⟨2, 5, 10, 24, 0, false⟩, ⟨3, 6, 9, 9, 0, false⟩, ⟨4, 5, 10, 30, 0, false⟩]) loE_len (Box.new w10 28 #[.int .i64 2, .int .i64 5, .int .i64 10, .int .i64 24, .int .i64 0, .bool false, .int .i64 3, .int .i64 6, .int .i64 9, .int .i64 9, .int .i64 0, .bool false, .int .i64 4, .int .i64 5, .int .i64 10, .int .i64 30, .int .i64 0, .bool false]) rfl (Nat.le_refl _) (by simp)).more (by simp))
  rw [decide_eq_true rfl] at hc
  have HC := hide hc
  clear hc
  have Z11 := hide (Z10.out.alloc (Nat.le_trans (by simp) Z10.out.size) (.cells #[.int .i64 2, .int .i64 5, .int .i64 10, .int .i64 24, .int .i64 0, .bool false, .int .i64 3, .int .i64 6, .int .i64 9, .int .i64 9, .int .i64 0, .bool false, .int .i64 4, .int .i64 5, .int .i64 10, .int .i64 30, .int .i64 0, .bool false] 28))
  have K111 := hide (K110.out.alloc (Nat.le_trans (by simp) K110.out.size) (.cells #[.int .i64 2, .int .i64 5, .int .i64 10, .int .i64 24, .int .i64 0, .bool false, .int .i64 3, .int .i64 6, .int .i64 9, .int .i64 9, .int .i64 0, .bool false, .int .i64 4, .int .i64 5, .int .i64 10, .int .i64 30, .int .i64 0, .bool false] 28))
  have K211 := hide (K210.out.alloc (Nat.le_trans (by simp) K210.out.size) (.cells #[.int .i64 2, .int .i64 5, .int .i64 10, .int .i64 24, .int .i64 0, .bool false, .int .i64 3, .int .i64 6, .int .i64 9, .int .i64 9, .int .i64 0, .bool false, .int .i64 4, .int .i64 5, .int .i64 10, .int .i64 30, .int .i64 0, .bool false] 28))
  have K311 := hide (K310.out.alloc (Nat.le_trans (by simp) K310.out.size) (.cells #[.int .i64 2, .int .i64 5, .int .i64 10, .int .i64 24, .int .i64 0, .bool false, .int .i64 3, .int .i64 6, .int .i64 9, .int .i64 9, .int .i64 0, .bool false, .int .i64 4, .int .i64 5, .int .i64 10, .int .i64 30, .int .i64 0, .bool false] 28))
  have K611 := hide (K610.out.alloc (Nat.le_trans (by simp) K610.out.size) (.cells #[.int .i64 2, .int .i64 5, .int .i64 10, .int .i64 24, .int .i64 0, .bool false, .int .i64 3, .int .i64 6, .int .i64 9, .int .i64 9, .int .i64 0, .bool false, .int .i64 4, .int .i64 5, .int .i64 10, .int .i64 30, .int .i64 0, .bool false] 28))
  clear Z10 K110 K210 K310 K610
  go_wp2_with fail
  refine HC.out.mono ?_
  rintro e w12 ⟨rfl, hb⟩
  have Z12 := hide (Z11.out.trans (hb.mono (Nat.le_trans (by simp) Z11.out.size)))
  have K112 := hide (K111.out.trans (hb.mono (Nat.le_trans (by simp) K111.out.size)))
  have K212 := hide (K211.out.trans (hb.mono (Nat.le_trans (by simp) K211.out.size)))
  have K312 := hide (K311.out.trans (hb.mono (Nat.le_trans (by simp) K311.out.size)))
  have K612 := hide (K611.out.trans (hb.mono (Nat.le_trans (by simp) K611.out.size)))
  clear hb Z11 K111 K211 K311 K611
  go_wp2
  go_ret
  exact ⟨rfl, B0.out.trans (Z12.out.mono (by omega))⟩
end Go.Proofs.Ytelkidhgbjhboaa
