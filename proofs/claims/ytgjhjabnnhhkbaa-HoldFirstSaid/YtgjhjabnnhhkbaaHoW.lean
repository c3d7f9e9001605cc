/- Walks: the chapter's examples. Printed by gen_ho_al.py. -/
import Derived.Test.YtgjhjabnnhhkbaaHoS
import Derived.Test.YtgjhjabnnhhkbaaHoT
import Derived.Test.YtgjhjabnnhhkbaaHoU
import Derived.Test.YtgjhjabnnhhkbaaHoC
namespace Go.Proofs.Ytgjhjabnnhhkbaa
open Go.RowKit

abbrev exT : List Ho := [⟨1, 1, 4, 0, 1, 0, 1, 0, 0, 0, 0⟩, ⟨2, 2, 4, 0, 2, 0, 1, 0, 0, 0, 3⟩, ⟨3, 3, 4, 9, 1, 0, 1, 0, 0, 0, 3⟩]
abbrev exM : List Ho := [⟨1, 1, 4, 0, 1, 0, 1, 0, 0, 0, 0⟩, ⟨2, 2, 4, 0, 2, 0, 3, 8, 50, 0, 3⟩, ⟨3, 3, 4, 9, 1, 0, 1, 0, 0, 0, 3⟩]
abbrev exS : List Ho := [⟨1, 1, 4, 0, 1, 0, 1, 0, 0, 0, 0⟩, ⟨2, 2, 4, 0, 2, 0, 1, 0, 0, 100, 3⟩, ⟨3, 3, 4, 9, 1, 0, 1, 0, 0, 0, 3⟩]
theorem exT_r : ∀ x ∈ exT, 0 ≤ x.rnk ∧ x.rnk ≤ 9 := by decide +kernel
theorem exS_r : ∀ x ∈ exS, 0 ≤ x.rnk ∧ x.rnk ≤ 9 := by decide +kernel
theorem ex1 : rightH exT = 0 := by decide +kernel
theorem ex2 : isorth cfQ (filQ exT 4 0) = [⟨2, 2, 4, 0, 2, 0, 1, 0, 0, 0, 3⟩, ⟨3, 3, 4, 9, 1, 0, 1, 0, 0, 0, 3⟩, ⟨1, 1, 4, 0, 1, 0, 1, 0, 0, 0, 0⟩] := by decide +kernel
theorem ex2s : QueD exT [⟨2, 2, 4, 0, 2, 0, 1, 0, 0, 0, 3⟩, ⟨3, 3, 4, 9, 1, 0, 1, 0, 0, 0, 3⟩, ⟨1, 1, 4, 0, 1, 0, 1, 0, 0, 0, 0⟩] 4 0 := by
  have h := queD_small (xs := exT) (rcd := 4) (day := 0) exT_r (by decide +kernel) (by decide +kernel) (by decide +kernel)
  rwa [ex2] at h
theorem ex3 : isorth cfQ (filQ exS 4 99) = [⟨3, 3, 4, 9, 1, 0, 1, 0, 0, 0, 3⟩, ⟨1, 1, 4, 0, 1, 0, 1, 0, 0, 0, 0⟩] := by decide +kernel
theorem ex3s : QueD exS [⟨3, 3, 4, 9, 1, 0, 1, 0, 0, 0, 3⟩, ⟨1, 1, 4, 0, 1, 0, 1, 0, 0, 0, 0⟩] 4 99 := by
  have h := queD_small (xs := exS) (rcd := 4) (day := 99) exS_r (by decide +kernel) (by decide +kernel) (by decide +kernel)
  rwa [ex3] at h
theorem ex4 : isorth cfQ (filQ exS 4 100) = [⟨2, 2, 4, 0, 2, 0, 1, 0, 0, 100, 3⟩, ⟨3, 3, 4, 9, 1, 0, 1, 0, 0, 0, 3⟩, ⟨1, 1, 4, 0, 1, 0, 1, 0, 0, 0, 0⟩] := by decide +kernel
theorem ex4s : QueD exS [⟨2, 2, 4, 0, 2, 0, 1, 0, 0, 100, 3⟩, ⟨3, 3, 4, 9, 1, 0, 1, 0, 0, 0, 3⟩, ⟨1, 1, 4, 0, 1, 0, 1, 0, 0, 0, 0⟩] 4 100 := by
  have h := queD_small (xs := exS) (rcd := 4) (day := 100) exS_r (by decide +kernel) (by decide +kernel) (by decide +kernel)
  rwa [ex4] at h
theorem ex5 : posH exT (fun _ => [⟨2, 2, 4, 0, 2, 0, 1, 0, 0, 0, 3⟩, ⟨3, 3, 4, 9, 1, 0, 1, 0, 0, 0, 3⟩, ⟨1, 1, 4, 0, 1, 0, 1, 0, 0, 0, 0⟩]) 3 = 2 := by decide +kernel
theorem ex6 : pickF 8 1 false 0 [⟨2, 2, 4, 0, 2, 0, 1, 0, 0, 0, 3⟩, ⟨3, 3, 4, 9, 1, 0, 1, 0, 0, 0, 3⟩, ⟨1, 1, 4, 0, 1, 0, 1, 0, 0, 0, 0⟩] = 2 := by decide +kernel
theorem ex7 : pickF 8 1 true 0 [⟨2, 2, 4, 0, 2, 0, 1, 0, 0, 0, 3⟩, ⟨3, 3, 4, 9, 1, 0, 1, 0, 0, 0, 3⟩, ⟨1, 1, 4, 0, 1, 0, 1, 0, 0, 0, 0⟩] = 1 := by decide +kernel
theorem ex8 : pickF 9 1 true 0 [⟨2, 2, 4, 0, 2, 0, 1, 0, 0, 0, 3⟩, ⟨3, 3, 4, 9, 1, 0, 1, 0, 0, 0, 3⟩, ⟨1, 1, 4, 0, 1, 0, 1, 0, 0, 0, 0⟩] = 3 := by decide +kernel
theorem ex9 : catchH exT 2 8 3 50 = (0, exM) := by decide +kernel
theorem ex10 : expH exM 50 = [] := by decide +kernel
theorem ex11 : expH exM 51 = [2] := by decide +kernel
theorem ex12 : dropH exM 8 = (0, exT) := by decide +kernel
theorem ex13 : sleepH exT 2 100 = (0, exS) := by decide +kernel
theorem exg : ∀ r, (getH exT 3).2 = true → r = (getH exT 3).1.rcd → QueD exT [⟨2, 2, 4, 0, 2, 0, 1, 0, 0, 0, 3⟩, ⟨3, 3, 4, 9, 1, 0, 1, 0, 0, 0, 3⟩, ⟨1, 1, 4, 0, 1, 0, 1, 0, 0, 0, 0⟩] r 0 := by
  intro r _ hr
  have : (getH exT 3).1.rcd = 4 := by decide +kernel
  rw [hr, this]; exact ex2s
/-- What three hands back. -/
def W3 (w : World) : World := w.alloc (.cells #[.int .i64 1, .int .i64 1, .int .i64 4, .int .i64 0, .int .i64 1, .int .i64 0, .int .i64 1, .int .i64 0, .int .i64 0, .int .i64 0, .int .i64 0, .int .i64 2, .int .i64 2, .int .i64 4, .int .i64 0, .int .i64 2, .int .i64 0, .int .i64 1, .int .i64 0, .int .i64 0, .int .i64 0, .int .i64 3, .int .i64 3, .int .i64 3, .int .i64 4, .int .i64 9, .int .i64 1, .int .i64 0, .int .i64 1, .int .i64 0, .int .i64 0, .int .i64 0, .int .i64 3] 47)
theorem three_any (w : World) : Calls Try.prog 37 #[] w fun e w' => e = .returned (.slice (some ⟨w.heap.size, 0, none⟩) 3 3) ∧ w' = W3 w := by
  go_enter Try.func37, Try.ntmps37
  go_wp2
  go_ret
  exact ⟨rfl, rfl⟩

set_option maxRecDepth 100000 in
set_option maxHeartbeats 8000000 in
theorem halive_any (w : World) : Calls Try.prog 11 #[] w fun e w' => e = .returned (.bool true) ∧ Below w.heap.size w w' := by
  have hz0 : (W3 w).heap.size = w.heap.size + 1 := by unfold W3; simp
  have B0 : Hid (Below w.heap.size w (W3 w)) := hide ((Below.refl w.heap.size w).alloc (Nat.le_refl _) _)
  have Z0 := hide (Below.refl (w.heap.size + 1) (W3 w))
  have hex : (exT.flatMap hoE).toArray = (#[.int .i64 1, .int .i64 1, .int .i64 4, .int .i64 0, .int .i64 1, .int .i64 0, .int .i64 1, .int .i64 0, .int .i64 0, .int .i64 0, .int .i64 0, .int .i64 2, .int .i64 2, .int .i64 4, .int .i64 0, .int .i64 2, .int .i64 0, .int .i64 1, .int .i64 0, .int .i64 0, .int .i64 0, .int .i64 3, .int .i64 3, .int .i64 3, .int .i64 4, .int .i64 9, .int .i64 1, .int .i64 0, .int .i64 1, .int .i64 0, .int .i64 0, .int .i64 0, .int .i64 3] : Array Value) := rfl
  have X0 : Box (W3 w) w.heap.size 47 (exT.flatMap hoE).toArray := by
    rw [hex]; exact Box.new w 47 _
  clear hex
  have HT := hide (fun W (hW : Below (w.heap.size + 1) (W3 w) W) => (show Hos W W.heap.size (some ⟨w.heap.size, 0, none⟩) 3 3 exT from (Sl.of_box (xs := exT) hoE_len (X0.below hW (by omega)) rfl (Nat.le_refl _) (by simp)).more (by have := hW.size; omega)))
  have HZ0 := hide hz0
  clear X0 hz0
  go_enter Try.func11, Try.ntmps11
  go_wp2_with fail
  refine (three_any _).mono ?_
  rintro e w0 ⟨rfl, hw0⟩
  obtain rfl := hw0
  have hc := hright_any (some ⟨w.heap.size, 0, none⟩) 3 3 exT (W3 w) (HT.out _ Z0.out)
  rw [ex1] at hc
  have HC := hide hc
  clear hc
  go_wp2_with fail
  refine (HC.out).mono ?_
  rintro e w1 ⟨rfl, hb⟩
  have B1 := hide (B0.out.trans (hb.mono (Nat.le_trans (by first | exact Nat.le_refl _ | (simp; done) | (have := HZ0.out; omega) | (have := HZ0.out; simp; omega)) B0.out.size)))
  have Z1 := hide (Z0.out.trans (hb.mono (Nat.le_trans (by first | exact Nat.le_refl _ | (simp; done) | (have := HZ0.out; omega) | (have := HZ0.out; simp; omega)) Z0.out.size)))
  clear hb 
  clear HC
  have hc := hQueue_any (some ⟨w.heap.size, 0, none⟩) 3 3 exT [⟨2, 2, 4, 0, 2, 0, 1, 0, 0, 0, 3⟩, ⟨3, 3, 4, 9, 1, 0, 1, 0, 0, 0, 3⟩, ⟨1, 1, 4, 0, 1, 0, 1, 0, 0, 0, 0⟩] 4 0 w1 (HT.out _ Z1.out) ex2s (by simp)
  have HC := hide hc
  clear hc
  go_wp2_with fail
  refine HC.out.mono ?_
  rintro e w2 ⟨v, rfl, hown, hb⟩
  have B2 := hide (B1.out.trans (hb.mono (Nat.le_trans (by first | exact Nat.le_refl _ | (simp; done) | (have := HZ0.out; omega) | (have := HZ0.out; simp; omega)) B1.out.size)))
  have Z2 := hide (Z1.out.trans (hb.mono (Nat.le_trans (by first | exact Nat.le_refl _ | (simp; done) | (have := HZ0.out; omega) | (have := HZ0.out; simp; omega)) Z1.out.size)))
  clear hb B1 Z1
  obtain ⟨A1, c1, hv, hsl⟩ := Ino_sl hown (by decide +kernel)
  subst hv
  have S1 := hide hsl
  have K1_2 := hide (Below.refl w2.heap.size w2)
  clear hown hsl HC
  have hc := ints_any A1 (some ⟨w2.heap.size, 0, none⟩) 3 c1 3 3 [2, 3, 1] [2, 3, 1] (w2.alloc (.cells #[.int .i64 2, .int .i64 3, .int .i64 1] 3)) (((S1.out.below K1_2.out).alloc K1_2.out.size (.cells #[.int .i64 2, .int .i64 3, .int .i64 1] 3)).more (Nat.le_trans K1_2.out.size (by simp))) ((Sl.of_box (xs := [2, 3, 1]) inE_len (Box.new w2 3 #[.int .i64 2, .int .i64 3, .int .i64 1]) rfl (Nat.le_refl _) (by simp)).more (by simp))
  rw [decide_eq_true rfl] at hc
  have HC := hide hc
  clear hc
  have B3 := hide (B2.out.alloc (Nat.le_trans (by first | exact Nat.le_refl _ | (simp; done) | (have := HZ0.out; omega) | (have := HZ0.out; simp; omega)) B2.out.size) (.cells #[.int .i64 2, .int .i64 3, .int .i64 1] 3))
  have Z3 := hide (Z2.out.alloc (Nat.le_trans (by first | exact Nat.le_refl _ | (simp; done) | (have := HZ0.out; omega) | (have := HZ0.out; simp; omega)) Z2.out.size) (.cells #[.int .i64 2, .int .i64 3, .int .i64 1] 3))
  have K1_3 := hide (K1_2.out.alloc (Nat.le_trans (by first | exact Nat.le_refl _ | (simp; done) | (have := HZ0.out; omega) | (have := HZ0.out; simp; omega)) K1_2.out.size) (.cells #[.int .i64 2, .int .i64 3, .int .i64 1] 3))
  clear B2 Z2 K1_2
  go_wp2_with fail
  refine HC.out.mono ?_
  rintro e w4 ⟨rfl, hb⟩
  have B4 := hide (B3.out.trans (hb.mono (Nat.le_trans (by first | exact Nat.le_refl _ | (simp; done) | (have := HZ0.out; omega) | (have := HZ0.out; simp; omega)) B3.out.size)))
  have Z4 := hide (Z3.out.trans (hb.mono (Nat.le_trans (by first | exact Nat.le_refl _ | (simp; done) | (have := HZ0.out; omega) | (have := HZ0.out; simp; omega)) Z3.out.size)))
  have K1_4 := hide (K1_3.out.trans (hb.mono (Nat.le_trans (by first | exact Nat.le_refl _ | (simp; done) | (have := HZ0.out; omega) | (have := HZ0.out; simp; omega)) K1_3.out.size)))
  clear hb B3 Z3 K1_3
  clear HC S1 K1_4
  have hc := hPosition_any (some ⟨w.heap.size, 0, none⟩) 3 3 exT (fun _ => [⟨2, 2, 4, 0, 2, 0, 1, 0, 0, 0, 3⟩, ⟨3, 3, 4, 9, 1, 0, 1, 0, 0, 0, 3⟩, ⟨1, 1, 4, 0, 1, 0, 1, 0, 0, 0, 0⟩]) 3 0 w4 (HT.out _ Z4.out) exg (fun _ => by simp)
  rw [ex5] at hc
  have HC := hide hc
  clear hc
  go_wp2_with fail
  refine (HC.out).mono ?_
  rintro e w5 ⟨rfl, hb⟩
  have B5 := hide (B4.out.trans (hb.mono (Nat.le_trans (by first | exact Nat.le_refl _ | (simp; done) | (have := HZ0.out; omega) | (have := HZ0.out; simp; omega)) B4.out.size)))
  have Z5 := hide (Z4.out.trans (hb.mono (Nat.le_trans (by first | exact Nat.le_refl _ | (simp; done) | (have := HZ0.out; omega) | (have := HZ0.out; simp; omega)) Z4.out.size)))
  clear hb B4 Z4
  clear HC
  have XI := hide (Box.new w5 36 #[.int .i64 8, .int .i64 4, .int .i64 0, .int .i64 0, .int .i64 0, .string { data := #[] }, .int .i64 0, .int .i64 0, .int .i64 0, .int .i64 0])
  have B6 := hide (B5.out.alloc (Nat.le_trans (by first | exact Nat.le_refl _ | (simp; done) | (have := HZ0.out; omega) | (have := HZ0.out; simp; omega)) B5.out.size) (.cells #[.int .i64 8, .int .i64 4, .int .i64 0, .int .i64 0, .int .i64 0, .string { data := #[] }, .int .i64 0, .int .i64 0, .int .i64 0, .int .i64 0] 36))
  have Z6 := hide (Z5.out.alloc (Nat.le_trans (by first | exact Nat.le_refl _ | (simp; done) | (have := HZ0.out; omega) | (have := HZ0.out; simp; omega)) Z5.out.size) (.cells #[.int .i64 8, .int .i64 4, .int .i64 0, .int .i64 0, .int .i64 0, .string { data := #[] }, .int .i64 0, .int .i64 0, .int .i64 0, .int .i64 0] 36))
  clear B5 Z5
  have I6 := hide (Below.refl (w5.heap.size + 1) (w5.alloc (.cells #[.int .i64 8, .int .i64 4, .int .i64 0, .int .i64 0, .int .i64 0, .string { data := #[] }, .int .i64 0, .int .i64 0, .int .i64 0, .int .i64 0] 36)))
  have hc := hPick_any (some ⟨w.heap.size, 0, none⟩) 3 3 exT [⟨2, 2, 4, 0, 2, 0, 1, 0, 0, 0, 3⟩, ⟨3, 3, 4, 9, 1, 0, 1, 0, 0, 0, 3⟩, ⟨1, 1, 4, 0, 1, 0, 1, 0, 0, 0, 0⟩] 8 4 1 0 (.int .i64 0) (.int .i64 0) (.int .i64 0) (.string { data := #[] }) (.int .i64 0) (.int .i64 0) (.int .i64 0) (.int .i64 0) false (w5.alloc (.cells #[.int .i64 8, .int .i64 4, .int .i64 0, .int .i64 0, .int .i64 0, .string { data := #[] }, .int .i64 0, .int .i64 0, .int .i64 0, .int .i64 0] 36)) (HT.out _ Z6.out) ex2s (by simp)
  rw [ex6] at hc
  have HC := hide hc
  clear hc
  go_wp2_with fail
  refine (HC.out).mono ?_
  rintro e w7 ⟨rfl, hb⟩
  have B7 := hide (B6.out.trans (hb.mono (Nat.le_trans (by first | exact Nat.le_refl _ | (simp; done) | (have := HZ0.out; omega) | (have := HZ0.out; simp; omega)) B6.out.size)))
  have Z7 := hide (Z6.out.trans (hb.mono (Nat.le_trans (by first | exact Nat.le_refl _ | (simp; done) | (have := HZ0.out; omega) | (have := HZ0.out; simp; omega)) Z6.out.size)))
  have I7 := hide (I6.out.trans (hb.mono (Nat.le_trans (by first | exact Nat.le_refl _ | (simp; done) | (have := HZ0.out; omega) | (have := HZ0.out; simp; omega)) I6.out.size)))
  clear hb B6 Z6 I6
  clear HC
  have hbx := XI.out.below I7.out (by omega)
  have q0 := hbx.cell 0
  have q1 := hbx.cell 1
  have q2 := hbx.cell 2
  have q3 := hbx.cell 3
  have q4 := hbx.cell 4
  have q5 := hbx.cell 5
  have q6 := hbx.cell 6
  have q7 := hbx.cell 7
  have q8 := hbx.cell 8
  have q9 := hbx.cell 9
  simp at q0 q1 q2 q3 q4 q5 q6 q7 q8 q9
  clear hbx
  have hc := hPick_any (some ⟨w.heap.size, 0, none⟩) 3 3 exT [⟨2, 2, 4, 0, 2, 0, 1, 0, 0, 0, 3⟩, ⟨3, 3, 4, 9, 1, 0, 1, 0, 0, 0, 3⟩, ⟨1, 1, 4, 0, 1, 0, 1, 0, 0, 0, 0⟩] 8 4 1 0 (.int .i64 0) (.int .i64 0) (.int .i64 0) (.string { data := #[] }) (.int .i64 0) (.int .i64 0) (.int .i64 0) (.int .i64 0) true w7 (HT.out _ Z7.out) ex2s (by simp)
  rw [ex7] at hc
  have HC := hide hc
  clear hc
  go_wp2_with fail
  refine (HC.out).mono ?_
  rintro e w8 ⟨rfl, hb⟩
  have B8 := hide (B7.out.trans (hb.mono (Nat.le_trans (by first | exact Nat.le_refl _ | (simp; done) | (have := HZ0.out; omega) | (have := HZ0.out; simp; omega)) B7.out.size)))
  have Z8 := hide (Z7.out.trans (hb.mono (Nat.le_trans (by first | exact Nat.le_refl _ | (simp; done) | (have := HZ0.out; omega) | (have := HZ0.out; simp; omega)) Z7.out.size)))
  have I8 := hide (I7.out.trans (hb.mono (Nat.le_trans (by first | exact Nat.le_refl _ | (simp; done) | (have := HZ0.out; omega) | (have := HZ0.out; simp; omega)) I7.out.size)))
  clear hb B7 Z7 I7
  clear HC q0 q1 q2 q3 q4 q5 q6 q7 q8 q9
  have hc := hPick_any (some ⟨w.heap.size, 0, none⟩) 3 3 exT [⟨2, 2, 4, 0, 2, 0, 1, 0, 0, 0, 3⟩, ⟨3, 3, 4, 9, 1, 0, 1, 0, 0, 0, 3⟩, ⟨1, 1, 4, 0, 1, 0, 1, 0, 0, 0, 0⟩] 9 4 1 0 (.int .i64 0) (.int .i64 0) (.int .i64 0) (.string { data := #[] }) (.int .i64 0) (.int .i64 0) (.int .i64 0) (.int .i64 0) true w8 (HT.out _ Z8.out) ex2s (by simp)
  rw [ex8] at hc
  have HC := hide hc
  clear hc
  go_wp2_with fail
  refine (HC.out).mono ?_
  rintro e w9 ⟨rfl, hb⟩
  have B9 := hide (B8.out.trans (hb.mono (Nat.le_trans (by first | exact Nat.le_refl _ | (simp; done) | (have := HZ0.out; omega) | (have := HZ0.out; simp; omega)) B8.out.size)))
  have Z9 := hide (Z8.out.trans (hb.mono (Nat.le_trans (by first | exact Nat.le_refl _ | (simp; done) | (have := HZ0.out; omega) | (have := HZ0.out; simp; omega)) Z8.out.size)))
  clear hb B8 Z8
  clear HC
  have hc := hcatch_any (some ⟨w.heap.size, 0, none⟩) 3 3 exT 2 8 3 50 w9 (HT.out _ Z9.out) (by omega)
  rw [ex9] at hc
  have HC := hide hc
  clear hc
  go_wp2_with fail
  refine HC.out.mono ?_
  rintro e w10 ⟨A2, n2, c2, rfl, hsl, hb⟩
  have B10 := hide (B9.out.trans (hb.mono (Nat.le_trans (by first | exact Nat.le_refl _ | (simp; done) | (have := HZ0.out; omega) | (have := HZ0.out; simp; omega)) B9.out.size)))
  have Z10 := hide (Z9.out.trans (hb.mono (Nat.le_trans (by first | exact Nat.le_refl _ | (simp; done) | (have := HZ0.out; omega) | (have := HZ0.out; simp; omega)) Z9.out.size)))
  clear hb B9 Z9
  obtain rfl : n2 = 3 := hsl.len.symm
  obtain ⟨b2, o2, _, rfl, _, _, _⟩ := hsl.at_ (show 0 < 3 by omega)
  have S2 := hide hsl
  clear hsl HC
  have K2_10 := hide (Below.refl w10.heap.size w10)
  have hc := hExpired_any _ 3 _ exM 50 w10 ((S2.out.below K2_10.out).more K2_10.out.size) (by omega)
  rw [ex10] at hc
  have HC := hide hc
  clear hc
  go_wp2_with fail
  refine HC.out.mono ?_
  rintro e w11 ⟨v, rfl, hown, hb⟩
  have B11 := hide (B10.out.trans (hb.mono (Nat.le_trans (by first | exact Nat.le_refl _ | (simp; done) | (have := HZ0.out; omega) | (have := HZ0.out; simp; omega)) B10.out.size)))
  have Z11 := hide (Z10.out.trans (hb.mono (Nat.le_trans (by first | exact Nat.le_refl _ | (simp; done) | (have := HZ0.out; omega) | (have := HZ0.out; simp; omega)) Z10.out.size)))
  have K2_11 := hide (K2_10.out.trans (hb.mono (Nat.le_trans (by first | exact Nat.le_refl _ | (simp; done) | (have := HZ0.out; omega) | (have := HZ0.out; simp; omega)) K2_10.out.size)))
  clear hb B10 Z10 K2_10
  obtain ⟨A5, c5, hv, hsl⟩ := Ino_sl hown (by decide +kernel)
  subst hv
  have S5 := hide hsl
  have K5_11 := hide (Below.refl w11.heap.size w11)
  clear hown hsl HC
  clear S5 K5_11
  have hc := hExpired_any _ 3 _ exM 51 w11 ((S2.out.below K2_11.out).more K2_11.out.size) (by omega)
  rw [ex11] at hc
  have HC := hide hc
  clear hc
  go_wp2_with fail
  refine HC.out.mono ?_
  rintro e w12 ⟨v, rfl, hown, hb⟩
  have B12 := hide (B11.out.trans (hb.mono (Nat.le_trans (by first | exact Nat.le_refl _ | (simp; done) | (have := HZ0.out; omega) | (have := HZ0.out; simp; omega)) B11.out.size)))
  have Z12 := hide (Z11.out.trans (hb.mono (Nat.le_trans (by first | exact Nat.le_refl _ | (simp; done) | (have := HZ0.out; omega) | (have := HZ0.out; simp; omega)) Z11.out.size)))
  have K2_12 := hide (K2_11.out.trans (hb.mono (Nat.le_trans (by first | exact Nat.le_refl _ | (simp; done) | (have := HZ0.out; omega) | (have := HZ0.out; simp; omega)) K2_11.out.size)))
  clear hb B11 Z11 K2_11
  obtain ⟨A6, c6, hv, hsl⟩ := Ino_sl hown (by decide +kernel)
  subst hv
  have S6 := hide hsl
  have K6_12 := hide (Below.refl w12.heap.size w12)
  clear hown hsl HC
  have hc := ints_any A6 (some ⟨w12.heap.size, 0, none⟩) 1 c6 1 1 [2] [2] (w12.alloc (.cells #[.int .i64 2] 3)) (((S6.out.below K6_12.out).alloc K6_12.out.size (.cells #[.int .i64 2] 3)).more (Nat.le_trans K6_12.out.size (by simp))) ((Sl.of_box (xs := [2]) inE_len (Box.new w12 3 #[.int .i64 2]) rfl (Nat.le_refl _) (by simp)).more (by simp))
  rw [decide_eq_true rfl] at hc
  have HC := hide hc
  clear hc
  have B13 := hide (B12.out.alloc (Nat.le_trans (by first | exact Nat.le_refl _ | (simp; done) | (have := HZ0.out; omega) | (have := HZ0.out; simp; omega)) B12.out.size) (.cells #[.int .i64 2] 3))
  have Z13 := hide (Z12.out.alloc (Nat.le_trans (by first | exact Nat.le_refl _ | (simp; done) | (have := HZ0.out; omega) | (have := HZ0.out; simp; omega)) Z12.out.size) (.cells #[.int .i64 2] 3))
  have K2_13 := hide (K2_12.out.alloc (Nat.le_trans (by first | exact Nat.le_refl _ | (simp; done) | (have := HZ0.out; omega) | (have := HZ0.out; simp; omega)) K2_12.out.size) (.cells #[.int .i64 2] 3))
  have K6_13 := hide (K6_12.out.alloc (Nat.le_trans (by first | exact Nat.le_refl _ | (simp; done) | (have := HZ0.out; omega) | (have := HZ0.out; simp; omega)) K6_12.out.size) (.cells #[.int .i64 2] 3))
  clear B12 Z12 K2_12 K6_12
  go_wp2_with fail
  refine HC.out.mono ?_
  rintro e w14 ⟨rfl, hb⟩
  have B14 := hide (B13.out.trans (hb.mono (Nat.le_trans (by first | exact Nat.le_refl _ | (simp; done) | (have := HZ0.out; omega) | (have := HZ0.out; simp; omega)) B13.out.size)))
  have Z14 := hide (Z13.out.trans (hb.mono (Nat.le_trans (by first | exact Nat.le_refl _ | (simp; done) | (have := HZ0.out; omega) | (have := HZ0.out; simp; omega)) Z13.out.size)))
  have K2_14 := hide (K2_13.out.trans (hb.mono (Nat.le_trans (by first | exact Nat.le_refl _ | (simp; done) | (have := HZ0.out; omega) | (have := HZ0.out; simp; omega)) K2_13.out.size)))
  have K6_14 := hide (K6_13.out.trans (hb.mono (Nat.le_trans (by first | exact Nat.le_refl _ | (simp; done) | (have := HZ0.out; omega) | (have := HZ0.out; simp; omega)) K6_13.out.size)))
  clear hb B13 Z13 K2_13 K6_13
  clear HC S6 K6_14
  have hc := hdrop_any _ 3 _ exM 8 w14 ((S2.out.below K2_14.out).more K2_14.out.size) (by omega)
  rw [ex12] at hc
  have HC := hide hc
  clear hc
  go_wp2_with fail
  refine HC.out.mono ?_
  rintro e w15 ⟨A3, n3, c3, rfl, hsl, hb⟩
  have B15 := hide (B14.out.trans (hb.mono (Nat.le_trans (by first | exact Nat.le_refl _ | (simp; done) | (have := HZ0.out; omega) | (have := HZ0.out; simp; omega)) B14.out.size)))
  have Z15 := hide (Z14.out.trans (hb.mono (Nat.le_trans (by first | exact Nat.le_refl _ | (simp; done) | (have := HZ0.out; omega) | (have := HZ0.out; simp; omega)) Z14.out.size)))
  have K2_15 := hide (K2_14.out.trans (hb.mono (Nat.le_trans (by first | exact Nat.le_refl _ | (simp; done) | (have := HZ0.out; omega) | (have := HZ0.out; simp; omega)) K2_14.out.size)))
  clear hb B14 Z14 K2_14
  obtain rfl : n3 = 3 := hsl.len.symm
  obtain ⟨b3, o3, _, rfl, _, _, _⟩ := hsl.at_ (show 0 < 3 by omega)
  have S3 := hide hsl
  clear hsl HC
  have K3_15 := hide (Below.refl w15.heap.size w15)
  clear S2 K2_15
  obtain ⟨_, _, y, hA, hlt, hx, p0, p1, p2, p3, p4, p5, p6, p7, p8, p9, p10⟩ := Hos_at ((S3.out.below K3_15.out).more K3_15.out.size) (show 1 < 3 by omega)
  cases hA
  simp at hx
  subst hx
  simp only [Nat.one_mul] at p6
  clear p0 p1 p2 p3 p4 p5 p7 p8 p9 p10
  have hc := hsleep_any (some ⟨w.heap.size, 0, none⟩) 3 3 exT 2 100 w15 (HT.out _ Z15.out) (by omega)
  rw [ex13] at hc
  have HC := hide hc
  clear hc
  go_wp2_with fail
  refine HC.out.mono ?_
  rintro e w16 ⟨A4, n4, c4, rfl, hsl, hb⟩
  have B16 := hide (B15.out.trans (hb.mono (Nat.le_trans (by first | exact Nat.le_refl _ | (simp; done) | (have := HZ0.out; omega) | (have := HZ0.out; simp; omega)) B15.out.size)))
  have Z16 := hide (Z15.out.trans (hb.mono (Nat.le_trans (by first | exact Nat.le_refl _ | (simp; done) | (have := HZ0.out; omega) | (have := HZ0.out; simp; omega)) Z15.out.size)))
  have K3_16 := hide (K3_15.out.trans (hb.mono (Nat.le_trans (by first | exact Nat.le_refl _ | (simp; done) | (have := HZ0.out; omega) | (have := HZ0.out; simp; omega)) K3_15.out.size)))
  clear hb B15 Z15 K3_15
  obtain rfl : n4 = 3 := hsl.len.symm
  obtain ⟨b4, o4, _, rfl, _, _, _⟩ := hsl.at_ (show 0 < 3 by omega)
  have S4 := hide hsl
  clear hsl HC
  have K4_16 := hide (Below.refl w16.heap.size w16)
  clear p6 hlt
  have hc := hQueue_any _ 3 _ exS [⟨3, 3, 4, 9, 1, 0, 1, 0, 0, 0, 3⟩, ⟨1, 1, 4, 0, 1, 0, 1, 0, 0, 0, 0⟩] 4 99 w16 ((S4.out.below K4_16.out).more K4_16.out.size) ex3s (by simp)
  have HC := hide hc
  clear hc
  go_wp2_with fail
  refine HC.out.mono ?_
  rintro e w17 ⟨v, rfl, hown, hb⟩
  have B17 := hide (B16.out.trans (hb.mono (Nat.le_trans (by first | exact Nat.le_refl _ | (simp; done) | (have := HZ0.out; omega) | (have := HZ0.out; simp; omega)) B16.out.size)))
  have Z17 := hide (Z16.out.trans (hb.mono (Nat.le_trans (by first | exact Nat.le_refl _ | (simp; done) | (have := HZ0.out; omega) | (have := HZ0.out; simp; omega)) Z16.out.size)))
  have K3_17 := hide (K3_16.out.trans (hb.mono (Nat.le_trans (by first | exact Nat.le_refl _ | (simp; done) | (have := HZ0.out; omega) | (have := HZ0.out; simp; omega)) K3_16.out.size)))
  have K4_17 := hide (K4_16.out.trans (hb.mono (Nat.le_trans (by first | exact Nat.le_refl _ | (simp; done) | (have := HZ0.out; omega) | (have := HZ0.out; simp; omega)) K4_16.out.size)))
  clear hb B16 Z16 K3_16 K4_16
  obtain ⟨A7, c7, hv, hsl⟩ := Ino_sl hown (by decide +kernel)
  subst hv
  have S7 := hide hsl
  have K7_17 := hide (Below.refl w17.heap.size w17)
  clear hown hsl HC
  have hc := ints_any A7 (some ⟨w17.heap.size, 0, none⟩) 2 c7 2 2 [3, 1] [3, 1] (w17.alloc (.cells #[.int .i64 3, .int .i64 1] 3)) (((S7.out.below K7_17.out).alloc K7_17.out.size (.cells #[.int .i64 3, .int .i64 1] 3)).more (Nat.le_trans K7_17.out.size (by simp))) ((Sl.of_box (xs := [3, 1]) inE_len (Box.new w17 3 #[.int .i64 3, .int .i64 1]) rfl (Nat.le_refl _) (by simp)).more (by simp))
  rw [decide_eq_true rfl] at hc
  have HC := hide hc
  clear hc
  have B18 := hide (B17.out.alloc (Nat.le_trans (by first | exact Nat.le_refl _ | (simp; done) | (have := HZ0.out; omega) | (have := HZ0.out; simp; omega)) B17.out.size) (.cells #[.int .i64 3, .int .i64 1] 3))
  have Z18 := hide (Z17.out.alloc (Nat.le_trans (by first | exact Nat.le_refl _ | (simp; done) | (have := HZ0.out; omega) | (have := HZ0.out; simp; omega)) Z17.out.size) (.cells #[.int .i64 3, .int .i64 1] 3))
  have K3_18 := hide (K3_17.out.alloc (Nat.le_trans (by first | exact Nat.le_refl _ | (simp; done) | (have := HZ0.out; omega) | (have := HZ0.out; simp; omega)) K3_17.out.size) (.cells #[.int .i64 3, .int .i64 1] 3))
  have K4_18 := hide (K4_17.out.alloc (Nat.le_trans (by first | exact Nat.le_refl _ | (simp; done) | (have := HZ0.out; omega) | (have := HZ0.out; simp; omega)) K4_17.out.size) (.cells #[.int .i64 3, .int .i64 1] 3))
  have K7_18 := hide (K7_17.out.alloc (Nat.le_trans (by first | exact Nat.le_refl _ | (simp; done) | (have := HZ0.out; omega) | (have := HZ0.out; simp; omega)) K7_17.out.size) (.cells #[.int .i64 3, .int .i64 1] 3))
  clear B17 Z17 K3_17 K4_17 K7_17
  go_wp2_with fail
  refine HC.out.mono ?_
  rintro e w19 ⟨rfl, hb⟩
  have B19 := hide (B18.out.trans (hb.mono (Nat.le_trans (by first | exact Nat.le_refl _ | (simp; done) | (have := HZ0.out; omega) | (have := HZ0.out; simp; omega)) B18.out.size)))
  have Z19 := hide (Z18.out.trans (hb.mono (Nat.le_trans (by first | exact Nat.le_refl _ | (simp; done) | (have := HZ0.out; omega) | (have := HZ0.out; simp; omega)) Z18.out.size)))
  have K3_19 := hide (K3_18.out.trans (hb.mono (Nat.le_trans (by first | exact Nat.le_refl _ | (simp; done) | (have := HZ0.out; omega) | (have := HZ0.out; simp; omega)) K3_18.out.size)))
  have K4_19 := hide (K4_18.out.trans (hb.mono (Nat.le_trans (by first | exact Nat.le_refl _ | (simp; done) | (have := HZ0.out; omega) | (have := HZ0.out; simp; omega)) K4_18.out.size)))
  have K7_19 := hide (K7_18.out.trans (hb.mono (Nat.le_trans (by first | exact Nat.le_refl _ | (simp; done) | (have := HZ0.out; omega) | (have := HZ0.out; simp; omega)) K7_18.out.size)))
  clear hb B18 Z18 K3_18 K4_18 K7_18
  clear HC S7 K7_19
  have hc := hQueue_any _ 3 _ exS [⟨2, 2, 4, 0, 2, 0, 1, 0, 0, 100, 3⟩, ⟨3, 3, 4, 9, 1, 0, 1, 0, 0, 0, 3⟩, ⟨1, 1, 4, 0, 1, 0, 1, 0, 0, 0, 0⟩] 4 100 w19 ((S4.out.below K4_19.out).more K4_19.out.size) ex4s (by simp)
  have HC := hide hc
  clear hc
  go_wp2_with fail
  refine HC.out.mono ?_
  rintro e w20 ⟨v, rfl, hown, hb⟩
  have B20 := hide (B19.out.trans (hb.mono (Nat.le_trans (by first | exact Nat.le_refl _ | (simp; done) | (have := HZ0.out; omega) | (have := HZ0.out; simp; omega)) B19.out.size)))
  have Z20 := hide (Z19.out.trans (hb.mono (Nat.le_trans (by first | exact Nat.le_refl _ | (simp; done) | (have := HZ0.out; omega) | (have := HZ0.out; simp; omega)) Z19.out.size)))
  have K3_20 := hide (K3_19.out.trans (hb.mono (Nat.le_trans (by first | exact Nat.le_refl _ | (simp; done) | (have := HZ0.out; omega) | (have := HZ0.out; simp; omega)) K3_19.out.size)))
  have K4_20 := hide (K4_19.out.trans (hb.mono (Nat.le_trans (by first | exact Nat.le_refl _ | (simp; done) | (have := HZ0.out; omega) | (have := HZ0.out; simp; omega)) K4_19.out.size)))
  clear hb B19 Z19 K3_19 K4_19
  obtain ⟨A8, c8, hv, hsl⟩ := Ino_sl hown (by decide +kernel)
  subst hv
  have S8 := hide hsl
  have K8_20 := hide (Below.refl w20.heap.size w20)
  clear hown hsl HC
  go_wp2
  go_ret
  exact ⟨rfl, B20.out⟩
end Go.Proofs.Ytgjhjabnnhhkbaa
