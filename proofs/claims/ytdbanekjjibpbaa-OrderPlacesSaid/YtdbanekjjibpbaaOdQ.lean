/- Walks: the chapter's examples. Printed by gen_od_al.py. -/
import Derived.Test.YtdbanekjjibpbaaOdP
import Derived.Test.YtdbanekjjibpbaaOdK
import Derived.Test.YtdbanekjjibpbaaOdM
namespace Go.Proofs.Ytdbanekjjibpbaa
open Go.RowKit

abbrev exO (g : Nat) : Od := ⟨1, 5, 7, 3, 1000, 0, 0, 0, 1, some ⟨g, 0, none⟩, 2, 2, [⟨1, 2⟩, ⟨2, 1⟩]⟩
abbrev exO2 (g : Nat) : Od := ⟨1, 5, 7, 3, 1000, 2, 0, 0, 1, some ⟨g, 0, none⟩, 2, 2, [⟨1, 2⟩, ⟨2, 1⟩]⟩
abbrev exO3 (g : Nat) : Od := ⟨1, 5, 7, 3, 1000, 2, 2, 1900, 1, some ⟨g, 0, none⟩, 2, 2, [⟨1, 2⟩, ⟨2, 1⟩]⟩
abbrev exO4 (g : Nat) : Od := ⟨1, 5, 7, 3, 1000, 2, 2, 1900, 3, some ⟨g, 0, none⟩, 2, 2, [⟨1, 2⟩, ⟨2, 1⟩]⟩
abbrev exO5 (g : Nat) : Od := ⟨1, 5, 7, 3, 1000, 3, 0, 0, 1, some ⟨g, 0, none⟩, 2, 2, [⟨1, 2⟩, ⟨2, 1⟩]⟩
abbrev exO6 (g : Nat) : Od := ⟨1, 5, 7, 3, 1000, 3, 3, 10, 2, some ⟨g, 0, none⟩, 2, 2, [⟨1, 2⟩, ⟨2, 1⟩]⟩
theorem exM (x : Od) (h1 : 1 ≤ x.id ∧ x.id ≤ 9999) (h2 : 1 ≤ x.cop ∧ x.cop ≤ 99) (h3 : 1 ≤ x.pri ∧ x.pri ≤ 1000000) (h4 : 0 ≤ x.rcv ∧ x.rcv ≤ x.cop) (h5 : 0 ≤ x.bil ∧ x.bil ≤ x.rcv) (h6 : 0 ≤ x.paid ∧ x.paid ≤ 100000000) : ∀ y ∈ [x], OdM y := by
  intro y hy; rw [List.mem_singleton.1 hy]; exact ⟨h1, h2, h3, h4, h5, h6⟩
theorem exM1 (g : Nat) : ∀ y ∈ [exO g], OdM y := exM _ (by simp) (by simp) (by simp) (by simp) (by simp) (by simp)
theorem exM2 (g : Nat) : ∀ y ∈ [exO2 g], OdM y := exM _ (by simp) (by simp) (by simp) (by simp) (by simp) (by simp)
theorem exM3 (g : Nat) : ∀ y ∈ [exO3 g], OdM y := exM _ (by simp) (by simp) (by simp) (by simp) (by simp) (by simp)
theorem exM4 (g : Nat) : ∀ y ∈ [exO4 g], OdM y := exM _ (by simp) (by simp) (by simp) (by simp) (by simp) (by simp)
theorem exM5 (g : Nat) : ∀ y ∈ [exO5 g], OdM y := exM _ (by simp) (by simp) (by simp) (by simp) (by simp) (by simp)
theorem exs (g : Nat) : splitO (exO g) 1000 = (0, [667, 333]) := by
  have h : (if mnyS 1000 = true then ((0 : Int), shareF 1000 [2, 1]) else (2, [])) = (0, [667, 333]) := by decide +kernel
  exact h
theorem exv (g : Nat) : sharesV (exO g).sh = true := by
  show sharesV [⟨1, 2⟩, ⟨2, 1⟩] = true
  decide +kernel
theorem exr0 (g : Nat) : resvO (exO g) = 3000 := by simp [resvO]
theorem exr3 (g : Nat) : resvO (exO3 g) = 1000 := by simp [resvO]
theorem exr4 (g : Nat) : resvO (exO4 g) = 0 := by simp [resvO]
theorem atO_one (x : Od) (id : Int) (h : x.id = id) : atO [x] id = (0 : Nat) ∧ getO [x] id = (x, true) := by
  constructor
  · simp [atO, ix, idxP, h]
  · simp [getO, h]
theorem exa1 (g : Nat) : receiveO [exO g] 1 2 = (0, [exO2 g]) := opO_ok (atO_one _ 1 rfl).1 (atO_one _ 1 rfl).2 (by simp [rcvE])
theorem exa2 (g : Nat) : billO [exO2 g] ⟨7, 1, 1, 3, 10⟩ = (12, []) := opO_err (atO_one _ 1 rfl).1 (atO_one _ 1 rfl).2 (by simp [billE]) (by decide)
theorem exa3 (g : Nat) : billO [exO2 g] ⟨7, 1, 1, 2, 1900⟩ = (0, [exO3 g]) := opO_ok (atO_one _ 1 rfl).1 (atO_one _ 1 rfl).2 (by simp [billE])
theorem exa4 (g : Nat) : stopO [exO3 g] 1 = (0, [exO4 g]) := opO_ok (atO_one _ 1 rfl).1 (atO_one _ 1 rfl).2 (by simp [stopE])
theorem exa5 (g : Nat) : receiveO [exO g] 1 3 = (0, [exO5 g]) := opO_ok (atO_one _ 1 rfl).1 (atO_one _ 1 rfl).2 (by simp [rcvE])
theorem exa6 (g : Nat) : billO [exO5 g] ⟨7, 1, 1, 3, 10⟩ = (0, [exO6 g]) := opO_ok (atO_one _ 1 rfl).1 (atO_one _ 1 rfl).2 (by simp [billE])
theorem ResO.one {w : World} {e0 : Int} {x : Od} {e : Ending} {w' : World} (h : ResO w (e0, [x]) e w') : ∃ b off c, e = .returned (.tuple #[.slice (some ⟨b, off, none⟩) 1 c, .int .i64 e0]) ∧ Ods w' w'.heap.size (some ⟨b, off, none⟩) 1 c [x] ∧ Below w.heap.size w w' := by
  obtain ⟨A, n, c, he, hs, hb⟩ := h
  obtain rfl : n = 1 := hs.len.symm
  obtain ⟨b, off, y, rfl, _⟩ := hs.at_ (show 0 < 1 by omega)
  exact ⟨b, off, c, he, hs, hb⟩

theorem one_any (w : World) : Calls Try.prog 32 #[] w fun e w' => ∃ g, e = .returned (.agg #[.int .i64 1, .int .i64 5, .int .i64 7, .int .i64 3, .int .i64 1000, .int .i64 0, .int .i64 0, .int .i64 0, .int .i64 1, .slice (some ⟨g, 0, none⟩) 2 2]) ∧ OdS w' w'.heap.size (exO g) ∧ Below w.heap.size w w' := by
  go_enter Try.func32, Try.ntmps32
  go_wp2
  refine bodyPost_ret (v := .agg #[.int .i64 1, .int .i64 5, .int .i64 7, .int .i64 3, .int .i64 1000, .int .i64 0, .int .i64 0, .int .i64 0, .int .i64 1, .slice (some ⟨w.heap.size + 1, 0, none⟩) 2 2]) (by simp [results, Try.results32, go_sem]) rfl ⟨_, rfl, ?_, ?_⟩
  · have h := Box.new (w.alloc (.cells #[.int .i64 1, .int .i64 5, .int .i64 7, .int .i64 3, .int .i64 1000, .int .i64 0, .int .i64 0, .int .i64 0, .int .i64 1, .slice (some ⟨w.heap.size + 1, 0, none⟩) 2 2] 37)) 48 #[.int .i64 1, .int .i64 2, .int .i64 2, .int .i64 1]
    rw [World.size_alloc] at h
    have hsl : Shs _ (w.heap.size + 1 + 1) (some ⟨w.heap.size + 1, 0, none⟩) 2 2 [⟨1, 2⟩, ⟨2, 1⟩] := Sl.of_box shE_len h rfl (Nat.le_refl _) (by omega)
    exact hsl.more (by simp)
  · exact ((Below.refl _ w).alloc (Nat.le_refl _) _).alloc (by simp) _

set_option maxRecDepth 100000 in
set_option maxHeartbeats 4000000 in
theorem oalive_any (w : World) : Calls Try.prog 10 #[] w fun e w' => e = .returned (.bool true) ∧ Below w.heap.size w w' := by
  have HONE := hide (one_any w)
  go_enter Try.func10, Try.ntmps10
  go_wp2_with fail
  refine HONE.out.mono ?_
  rintro e w1 ⟨g, rfl, hs, hb⟩
  have hbx := Box.new w1 37 #[.int .i64 1, .int .i64 5, .int .i64 7, .int .i64 3, .int .i64 1000, .int .i64 0, .int .i64 0, .int .i64 0, .int .i64 1, .slice (some ⟨g, 0, none⟩) 2 2]
  have hss : ∀ W, Below (w1.heap.size + 1) (w1.alloc (.cells #[.int .i64 1, .int .i64 5, .int .i64 7, .int .i64 3, .int .i64 1000, .int .i64 0, .int .i64 0, .int .i64 0, .int .i64 1, .slice (some ⟨g, 0, none⟩) 2 2] 37)) W → OdS W W.heap.size (exO g) ∧ Box W w1.heap.size 37 #[.int .i64 1, .int .i64 5, .int .i64 7, .int .i64 3, .int .i64 1000, .int .i64 0, .int .i64 0, .int .i64 0, .int .i64 1, .slice (some ⟨g, 0, none⟩) 2 2] := fun W hW => by
    have h1 : Below w1.heap.size w1 W := ((Below.refl _ w1).alloc (Nat.le_refl _) _).trans (hW.mono (by omega))
    exact ⟨(hs.below h1).more h1.size, hbx.below hW (by omega)⟩
  have HA := hide hss
  have B1 := hide (hb.alloc hb.size (.cells #[.int .i64 1, .int .i64 5, .int .i64 7, .int .i64 3, .int .i64 1000, .int .i64 0, .int .i64 0, .int .i64 0, .int .i64 1, .slice (some ⟨g, 0, none⟩) 2 2] 37))
  have Z1 := hide (Below.refl (w1.heap.size + 1) (w1.alloc (.cells #[.int .i64 1, .int .i64 5, .int .i64 7, .int .i64 3, .int .i64 1000, .int .i64 0, .int .i64 0, .int .i64 0, .int .i64 1, .slice (some ⟨g, 0, none⟩) 2 2] 37)))
  clear hbx hss hs hb HONE
  have hc := osplit_any (exO g) 1000 (w1.alloc (.cells #[.int .i64 1, .int .i64 5, .int .i64 7, .int .i64 3, .int .i64 1000, .int .i64 0, .int .i64 0, .int .i64 0, .int .i64 1, .slice (some ⟨g, 0, none⟩) 2 2] 37)) (HA.out _ Z1.out).1 (exv g)
  rw [exs] at hc
  unfold odV at hc
  have HC := hide hc
  clear hc
  have hbx := (HA.out _ Z1.out).2
  have q0 := hbx.cell 0
  have q1 := hbx.cell 1
  have q2 := hbx.cell 2
  have q3 := hbx.cell 3
  have q4 := hbx.cell 4
  have q5 := hbx.cell 5
  have q6 := hbx.cell 6
  have q7 := hbx.cell 7
  have q8 := hbx.cell 8
  have q9 := hbx.cell 9
  simp at q0 q1 q2 q3 q4 q5 q6 q7 q8 q9
  clear hbx
  go_wp2_with fail
  refine HC.out.mono ?_
  rintro e w2 ⟨v, rfl, hown, hb⟩
  have B2 := hide (B1.out.trans (hb.mono (Nat.le_trans (by simp) B1.out.size)))
  have Z2 := hide (Z1.out.trans (hb.mono (Nat.le_trans (by simp) Z1.out.size)))
  clear hb B1 Z1
  obtain ⟨A1, c1, hv, hsl⟩ := Ino_sl hown (by simp)
  subst hv
  have S1 := hide hsl
  have K2 := hide (Below.refl w2.heap.size w2)
  clear hown hsl HC
  clear q0 q1 q2 q3 q4 q5 q6 q7 q8 q9
  have hbx := (HA.out _ Z2.out).2
  have q0 := hbx.cell 0
  have q1 := hbx.cell 1
  have q2 := hbx.cell 2
  have q3 := hbx.cell 3
  have q4 := hbx.cell 4
  have q5 := hbx.cell 5
  have q6 := hbx.cell 6
  have q7 := hbx.cell 7
  have q8 := hbx.cell 8
  have q9 := hbx.cell 9
  simp at q0 q1 q2 q3 q4 q5 q6 q7 q8 q9
  clear hbx
  have hc := oresv_any (exO g) w2 (.inl (exM1 g _ (List.mem_singleton.2 rfl)))
  rw [exr0] at hc
  unfold odV at hc
  have HC := hide hc
  clear hc
  go_wp2_with fail
  refine HC.out.mono ?_
  rintro e w3 ⟨rfl, hb⟩
  have B3 := hide (B2.out.trans (hb.mono (Nat.le_trans (by simp) B2.out.size)))
  have Z3 := hide (Z2.out.trans (hb.mono (Nat.le_trans (by simp) Z2.out.size)))
  have K3 := hide (K2.out.trans (hb.mono (Nat.le_trans (by simp) K2.out.size)))
  clear hb B2 Z2 K2
  clear HC
  clear q0 q1 q2 q3 q4 q5 q6 q7 q8 q9
  have hc := ints_any A1 (some ⟨w3.heap.size, 0, none⟩) 2 c1 2 2 [667, 333] [667, 333] (w3.alloc (.cells #[.int .i64 667, .int .i64 333] 3)) (((S1.out.below K3.out).alloc K3.out.size (.cells #[.int .i64 667, .int .i64 333] 3)).more (Nat.le_trans K3.out.size (by simp))) ((Sl.of_box (xs := [667, 333]) inE_len (Box.new w3 3 #[.int .i64 667, .int .i64 333]) rfl (Nat.le_refl _) (by simp)).more (by simp))
  rw [decide_eq_true rfl] at hc
  have HC := hide hc
  clear hc
  have B4 := hide (B3.out.alloc (Nat.le_trans (by simp) B3.out.size) (.cells #[.int .i64 667, .int .i64 333] 3))
  have Z4 := hide (Z3.out.alloc (Nat.le_trans (by simp) Z3.out.size) (.cells #[.int .i64 667, .int .i64 333] 3))
  have K4 := hide (K3.out.alloc (Nat.le_trans (by simp) K3.out.size) (.cells #[.int .i64 667, .int .i64 333] 3))
  clear B3 Z3 K3
  go_wp2_with fail
  refine HC.out.mono ?_
  rintro e w5 ⟨rfl, hb⟩
  have B5 := hide (B4.out.trans (hb.mono (Nat.le_trans (by simp) B4.out.size)))
  have Z5 := hide (Z4.out.trans (hb.mono (Nat.le_trans (by simp) Z4.out.size)))
  have K5 := hide (K4.out.trans (hb.mono (Nat.le_trans (by simp) K4.out.size)))
  clear hb B4 Z4 K4
  clear HC S1 K5
  have hbx := (HA.out _ Z5.out).2
  have q0 := hbx.cell 0
  have q1 := hbx.cell 1
  have q2 := hbx.cell 2
  have q3 := hbx.cell 3
  have q4 := hbx.cell 4
  have q5 := hbx.cell 5
  have q6 := hbx.cell 6
  have q7 := hbx.cell 7
  have q8 := hbx.cell 8
  have q9 := hbx.cell 9
  simp at q0 q1 q2 q3 q4 q5 q6 q7 q8 q9
  clear hbx
  have hc := oreceive_any (some ⟨w5.heap.size, 0, none⟩) 1 1 [exO g] 1 2 (w5.alloc (.cells #[.int .i64 1, .int .i64 5, .int .i64 7, .int .i64 3, .int .i64 1000, .int .i64 0, .int .i64 0, .int .i64 0, .int .i64 1, .slice (some ⟨g, 0, none⟩) 2 2] 37)) ((od_sl1 (x := exO g) (Box.new w5 37 #[.int .i64 1, .int .i64 5, .int .i64 7, .int .i64 3, .int .i64 1000, .int .i64 0, .int .i64 0, .int .i64 0, .int .i64 1, .slice (some ⟨g, 0, none⟩) 2 2])).more (by simp)) (by omega) (exM1 g)
  rw [exa1] at hc
  have HC := hide (hc.mono fun _ _ h => h.one)
  clear hc
  have B6 := hide (B5.out.alloc (Nat.le_trans (by simp) B5.out.size) (.cells #[.int .i64 1, .int .i64 5, .int .i64 7, .int .i64 3, .int .i64 1000, .int .i64 0, .int .i64 0, .int .i64 0, .int .i64 1, .slice (some ⟨g, 0, none⟩) 2 2] 37))
  have Z6 := hide (Z5.out.alloc (Nat.le_trans (by simp) Z5.out.size) (.cells #[.int .i64 1, .int .i64 5, .int .i64 7, .int .i64 3, .int .i64 1000, .int .i64 0, .int .i64 0, .int .i64 0, .int .i64 1, .slice (some ⟨g, 0, none⟩) 2 2] 37))
  clear B5 Z5
  go_wp2_with fail
  refine HC.out.mono ?_
  rintro e w7 ⟨b2, o2, c2, rfl, hsl, hb⟩
  have B7 := hide (B6.out.trans (hb.mono (Nat.le_trans (by simp) B6.out.size)))
  have Z7 := hide (Z6.out.trans (hb.mono (Nat.le_trans (by simp) Z6.out.size)))
  clear hb B6 Z6
  have S2 := hide hsl
  clear hsl HC
  clear q0 q1 q2 q3 q4 q5 q6 q7 q8 q9
  have K2_7 := hide (Below.refl w7.heap.size w7)
  have hc := obill_any _ 1 _ [exO2 g] ⟨7, 1, 1, 3, 10⟩ w7 ((S2.out.below K2_7.out).more K2_7.out.size) (by omega) (exM2 g)
  rw [exa2] at hc
  unfold blV at hc
  have HC := hide hc
  clear hc
  go_wp2_with fail
  refine HC.out.mono ?_
  rintro e w8 ⟨A9, n9, c9, rfl, hsl, hb⟩
  have B8 := hide (B7.out.trans (hb.mono (Nat.le_trans (by simp) B7.out.size)))
  have Z8 := hide (Z7.out.trans (hb.mono (Nat.le_trans (by simp) Z7.out.size)))
  have K2_8 := hide (K2_7.out.trans (hb.mono (Nat.le_trans (by simp) K2_7.out.size)))
  clear hb B7 Z7 K2_7
  clear hsl HC
  have hc := obill_any _ 1 _ [exO2 g] ⟨7, 1, 1, 2, 1900⟩ w8 ((S2.out.below K2_8.out).more K2_8.out.size) (by omega) (exM2 g)
  rw [exa3] at hc
  unfold blV at hc
  have HC := hide (hc.mono fun _ _ h => h.one)
  clear hc
  go_wp2_with fail
  refine HC.out.mono ?_
  rintro e w9 ⟨b4, o4, c4, rfl, hsl, hb⟩
  have B9 := hide (B8.out.trans (hb.mono (Nat.le_trans (by simp) B8.out.size)))
  have Z9 := hide (Z8.out.trans (hb.mono (Nat.le_trans (by simp) Z8.out.size)))
  have K2_9 := hide (K2_8.out.trans (hb.mono (Nat.le_trans (by simp) K2_8.out.size)))
  clear hb B8 Z8 K2_8
  have S4 := hide hsl
  clear hsl HC
  have K4_9 := hide (Below.refl w9.heap.size w9)
  obtain ⟨_, _, y, hA, hlt, hx, p0, p1, p2, p3, p4, p5, p6, p7, p8, p9⟩ := Ods_at ((S4.out.below K4_9.out).more K4_9.out.size) (show 0 < 1 by omega)
  cases hA
  simp at hx
  subst hx
  simp only [Nat.zero_mul, Nat.add_zero] at p0 p1 p2 p3 p4 p5 p6 p7 p8 p9
  have hc := oresv_any (exO3 g) w9 (.inl (exM3 g _ (List.mem_singleton.2 rfl)))
  rw [exr3] at hc
  unfold odV at hc
  have HC := hide hc
  clear hc
  go_wp2_with fail
  refine HC.out.mono ?_
  rintro e w10 ⟨rfl, hb⟩
  have B10 := hide (B9.out.trans (hb.mono (Nat.le_trans (by simp) B9.out.size)))
  have Z10 := hide (Z9.out.trans (hb.mono (Nat.le_trans (by simp) Z9.out.size)))
  have K2_10 := hide (K2_9.out.trans (hb.mono (Nat.le_trans (by simp) K2_9.out.size)))
  have K4_10 := hide (K4_9.out.trans (hb.mono (Nat.le_trans (by simp) K4_9.out.size)))
  clear hb B9 Z9 K2_9 K4_9
  clear HC hlt
  clear p0 p1 p2 p3 p4 p5 p6 p7 p8 p9
  have hc := ostop_any _ 1 _ [exO3 g] 1 w10 ((S4.out.below K4_10.out).more K4_10.out.size) (by omega) (exM3 g)
  rw [exa4] at hc
  have HC := hide (hc.mono fun _ _ h => h.one)
  clear hc
  go_wp2_with fail
  refine HC.out.mono ?_
  rintro e w11 ⟨b5, o5, c5, rfl, hsl, hb⟩
  have B11 := hide (B10.out.trans (hb.mono (Nat.le_trans (by simp) B10.out.size)))
  have Z11 := hide (Z10.out.trans (hb.mono (Nat.le_trans (by simp) Z10.out.size)))
  have K2_11 := hide (K2_10.out.trans (hb.mono (Nat.le_trans (by simp) K2_10.out.size)))
  have K4_11 := hide (K4_10.out.trans (hb.mono (Nat.le_trans (by simp) K4_10.out.size)))
  clear hb B10 Z10 K2_10 K4_10
  have S5 := hide hsl
  clear hsl HC
  have K5_11 := hide (Below.refl w11.heap.size w11)
  obtain ⟨_, _, y, hA, hlt, hx, p0, p1, p2, p3, p4, p5, p6, p7, p8, p9⟩ := Ods_at ((S5.out.below K5_11.out).more K5_11.out.size) (show 0 < 1 by omega)
  cases hA
  simp at hx
  subst hx
  simp only [Nat.zero_mul, Nat.add_zero] at p0 p1 p2 p3 p4 p5 p6 p7 p8 p9
  have hc := oresv_any (exO4 g) w11 (.inl (exM4 g _ (List.mem_singleton.2 rfl)))
  rw [exr4] at hc
  unfold odV at hc
  have HC := hide hc
  clear hc
  go_wp2_with fail
  refine HC.out.mono ?_
  rintro e w12 ⟨rfl, hb⟩
  have B12 := hide (B11.out.trans (hb.mono (Nat.le_trans (by simp) B11.out.size)))
  have Z12 := hide (Z11.out.trans (hb.mono (Nat.le_trans (by simp) Z11.out.size)))
  have K2_12 := hide (K2_11.out.trans (hb.mono (Nat.le_trans (by simp) K2_11.out.size)))
  have K4_12 := hide (K4_11.out.trans (hb.mono (Nat.le_trans (by simp) K4_11.out.size)))
  have K5_12 := hide (K5_11.out.trans (hb.mono (Nat.le_trans (by simp) K5_11.out.size)))
  clear hb B11 Z11 K2_11 K4_11 K5_11
  clear HC hlt
  clear p0 p1 p2 p3 p4 p5 p6 p7 p8 p9
  have hbx := (HA.out _ Z12.out).2
  have q0 := hbx.cell 0
  have q1 := hbx.cell 1
  have q2 := hbx.cell 2
  have q3 := hbx.cell 3
  have q4 := hbx.cell 4
  have q5 := hbx.cell 5
  have q6 := hbx.cell 6
  have q7 := hbx.cell 7
  have q8 := hbx.cell 8
  have q9 := hbx.cell 9
  simp at q0 q1 q2 q3 q4 q5 q6 q7 q8 q9
  clear hbx
  have hc := oreceive_any (some ⟨w12.heap.size, 0, none⟩) 1 1 [exO g] 1 3 (w12.alloc (.cells #[.int .i64 1, .int .i64 5, .int .i64 7, .int .i64 3, .int .i64 1000, .int .i64 0, .int .i64 0, .int .i64 0, .int .i64 1, .slice (some ⟨g, 0, none⟩) 2 2] 37)) ((od_sl1 (x := exO g) (Box.new w12 37 #[.int .i64 1, .int .i64 5, .int .i64 7, .int .i64 3, .int .i64 1000, .int .i64 0, .int .i64 0, .int .i64 0, .int .i64 1, .slice (some ⟨g, 0, none⟩) 2 2])).more (by simp)) (by omega) (exM1 g)
  rw [exa5] at hc
  have HC := hide (hc.mono fun _ _ h => h.one)
  clear hc
  have B13 := hide (B12.out.alloc (Nat.le_trans (by simp) B12.out.size) (.cells #[.int .i64 1, .int .i64 5, .int .i64 7, .int .i64 3, .int .i64 1000, .int .i64 0, .int .i64 0, .int .i64 0, .int .i64 1, .slice (some ⟨g, 0, none⟩) 2 2] 37))
  have Z13 := hide (Z12.out.alloc (Nat.le_trans (by simp) Z12.out.size) (.cells #[.int .i64 1, .int .i64 5, .int .i64 7, .int .i64 3, .int .i64 1000, .int .i64 0, .int .i64 0, .int .i64 0, .int .i64 1, .slice (some ⟨g, 0, none⟩) 2 2] 37))
  have K2_13 := hide (K2_12.out.alloc (Nat.le_trans (by simp) K2_12.out.size) (.cells #[.int .i64 1, .int .i64 5, .int .i64 7, .int .i64 3, .int .i64 1000, .int .i64 0, .int .i64 0, .int .i64 0, .int .i64 1, .slice (some ⟨g, 0, none⟩) 2 2] 37))
  have K4_13 := hide (K4_12.out.alloc (Nat.le_trans (by simp) K4_12.out.size) (.cells #[.int .i64 1, .int .i64 5, .int .i64 7, .int .i64 3, .int .i64 1000, .int .i64 0, .int .i64 0, .int .i64 0, .int .i64 1, .slice (some ⟨g, 0, none⟩) 2 2] 37))
  have K5_13 := hide (K5_12.out.alloc (Nat.le_trans (by simp) K5_12.out.size) (.cells #[.int .i64 1, .int .i64 5, .int .i64 7, .int .i64 3, .int .i64 1000, .int .i64 0, .int .i64 0, .int .i64 0, .int .i64 1, .slice (some ⟨g, 0, none⟩) 2 2] 37))
  clear B12 Z12 K2_12 K4_12 K5_12
  go_wp2_with fail
  refine HC.out.mono ?_
  rintro e w14 ⟨b6, o6, c6, rfl, hsl, hb⟩
  have B14 := hide (B13.out.trans (hb.mono (Nat.le_trans (by simp) B13.out.size)))
  have Z14 := hide (Z13.out.trans (hb.mono (Nat.le_trans (by simp) Z13.out.size)))
  have K2_14 := hide (K2_13.out.trans (hb.mono (Nat.le_trans (by simp) K2_13.out.size)))
  have K4_14 := hide (K4_13.out.trans (hb.mono (Nat.le_trans (by simp) K4_13.out.size)))
  have K5_14 := hide (K5_13.out.trans (hb.mono (Nat.le_trans (by simp) K5_13.out.size)))
  clear hb B13 Z13 K2_13 K4_13 K5_13
  have S6 := hide hsl
  clear hsl HC
  clear q0 q1 q2 q3 q4 q5 q6 q7 q8 q9
  have K6_14 := hide (Below.refl w14.heap.size w14)
  have hc := obill_any _ 1 _ [exO5 g] ⟨7, 1, 1, 3, 10⟩ w14 ((S6.out.below K6_14.out).more K6_14.out.size) (by omega) (exM5 g)
  rw [exa6] at hc
  unfold blV at hc
  have HC := hide (hc.mono fun _ _ h => h.one)
  clear hc
  go_wp2_with fail
  refine HC.out.mono ?_
  rintro e w15 ⟨b7, o7, c7, rfl, hsl, hb⟩
  have B15 := hide (B14.out.trans (hb.mono (Nat.le_trans (by simp) B14.out.size)))
  have Z15 := hide (Z14.out.trans (hb.mono (Nat.le_trans (by simp) Z14.out.size)))
  have K2_15 := hide (K2_14.out.trans (hb.mono (Nat.le_trans (by simp) K2_14.out.size)))
  have K4_15 := hide (K4_14.out.trans (hb.mono (Nat.le_trans (by simp) K4_14.out.size)))
  have K5_15 := hide (K5_14.out.trans (hb.mono (Nat.le_trans (by simp) K5_14.out.size)))
  have K6_15 := hide (K6_14.out.trans (hb.mono (Nat.le_trans (by simp) K6_14.out.size)))
  clear hb B14 Z14 K2_14 K4_14 K5_14 K6_14
  have S7 := hide hsl
  clear hsl HC
  have K7_15 := hide (Below.refl w15.heap.size w15)
  obtain ⟨_, _, y, hA, hlt, hx, p0, p1, p2, p3, p4, p5, p6, p7, p8, p9⟩ := Ods_at ((S7.out.below K7_15.out).more K7_15.out.size) (show 0 < 1 by omega)
  cases hA
  simp at hx
  subst hx
  simp only [Nat.zero_mul, Nat.add_zero] at p0 p1 p2 p3 p4 p5 p6 p7 p8 p9
  go_wp2
  go_ret
  exact ⟨rfl, B15.out⟩
end Go.Proofs.Ytdbanekjjibpbaa
