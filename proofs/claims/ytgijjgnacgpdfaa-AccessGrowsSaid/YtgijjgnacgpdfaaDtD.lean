/- Walks: the reference's Is, Year, Of, Parts. -/
import Derived.Test.YtgijjgnacgpdfaaDtB
namespace Go.Proofs.Ytgijjgnacgpdfaa
open Go.RowKit

theorem ris_any (day : Int) (w : World) : Calls Try.prog 38 #[.int .i64 day] w fun e w' => e = .returned (.bool (decide (0 ≤ day) && decide (day ≤ 109572))) ∧ Below w.heap.size w w' := by
  go_enter Try.func38, Try.ntmps38
  go_wp2
  all_goals go_ret
  all_goals exact ⟨ret_bool (by first | (simp_all; done) | (simp_all; omega)), Below.refl _ _⟩

theorem ml_feb {y : Int} (h1 : 1900 ≤ y) (h2 : y ≤ 2199) : ml y 2 = 28 + lpn y := by
  unfold ml lpn
  rw [if_neg (by omega)]
  by_cases hl : lp y = true <;> simp [hl, tab]
theorem ryear_any (y : Int) (w : World) (h1 : 1900 ≤ y) (h2 : y ≤ 2199) : Calls Try.prog 39 #[.int .i64 y] w fun e w' => e = .returned (.int .i64 (365 + lpn y)) ∧ Below w.heap.size w w' := by
  have hl := rlen_any y 2 w
  rw [ml_feb h1 h2] at hl
  unfold lpn at hl ⊢
  generalize lp y = q at hl ⊢
  have HL := hide hl
  clear hl
  cases q with
  | true =>
    go_enter Try.func39, Try.ntmps39
    go_wp2_with fail
    refine HL.out.mono ?_
    rintro e w1 ⟨rfl, hb⟩
    go_wp2
    go_ret
    exact ⟨rfl, hb⟩
  | false =>
    go_enter Try.func39, Try.ntmps39
    go_wp2_with fail
    refine HL.out.mono ?_
    rintro e w1 ⟨rfl, hb⟩
    go_wp2
    go_ret
    exact ⟨rfl, hb⟩

set_option maxRecDepth 100000 in
set_option maxHeartbeats 1000000 in
theorem rof_any (y m d : Int) (w : World) (hd : I64 d) :
    Calls Try.prog 33 #[.int .i64 y, .int .i64 m, .int .i64 d] w fun e w' => e = .returned (.tuple #[.int .i64 (ofR y m d).1, .int .i64 (ofR y m d).2]) ∧ Below w.heap.size w w' := by
  by_cases h1 : d < 1
  · rw [ofR_bad (y := y) (m := m) (Or.inl h1)]
    go_enter Try.func33, Try.ntmps33
    go_wp2
    go_ret2
    exact ⟨rfl, Below.refl _ _⟩
  · have hl := rlen_any y m w
    have hb := ml_bound y m
    by_cases h2 : ml y m < d
    · rw [ofR_bad (y := y) (m := m) (Or.inr h2)]
      generalize ml y m = L at hl hb h2
      have HL := hide hl
      obtain ⟨b1, b2⟩ := hb
      clear hl
      go_enter Try.func33, Try.ntmps33
      go_wp2_with fail
      refine HL.out.mono ?_
      rintro e w1 ⟨rfl, hb⟩
      go_wp2
      go_ret2
      exact ⟨rfl, hb⟩
    · obtain ⟨⟨y1, y2⟩, m1, m2⟩ := ml_range (y := y) (m := m) (by omega)
      obtain ⟨Y, rfl⟩ : ∃ Y : Nat, y = 1900 + (Y : Int) := ⟨(y - 1900).toNat, by omega⟩
      obtain ⟨M, rfl⟩ : ∃ M : Nat, m = (M : Int) := ⟨m.toNat, by omega⟩
      have hr : ofR (1900 + (Y : Int)) M d = (ny Y + bef (1900 + Y) M + d - 1, 0) := by
        unfold ofR
        rw [if_neg (by omega), show ((1900 : Int) + (Y : Int) - 1900).toNat = Y from by omega]
      rw [hr]
      have hY : Y ≤ 299 := by omega
      have hM1 : 1 ≤ M := by omega
      have hM2 : M ≤ 12 := by omega
      have hbe : ∀ j : Int, 1 ≤ j → j ≤ 12 → 0 ≤ bef (1900 + Y) j ∧ bef (1900 + Y) j ≤ 366 := by
        intro j j1 j2
        have e1 := bef_mono (y := 1900 + Y) (by omega) (by omega) (m := 1) (m' := j) (by omega) j1 (by omega)
        have e2 := bef_mono (y := 1900 + Y) (by omega) (by omega) (m := j) (m' := 13) j1 (by omega) (by omega)
        have e3 := lpn_01 (1900 + Y)
        rw [bef_1] at e1
        rw [bef_13] at e2
        omega
      have HBE := hide hbe
      generalize ml (1900 + (Y : Int)) M = L at hl hb h2
      obtain ⟨b1, b2⟩ := hb
      have HL := hide hl
      have hdL : d ≤ 31 := by omega
      clear hl hr hbe y1 y2 m1 m2
      go_enter Try.func33, Try.ntmps33
      go_wp2_with fail
      refine HL.out.mono ?_
      rintro e w1 ⟨rfl, hb⟩
      have HB := hide hb
      clear hb HL
      go_wp2
      clear h2 b1 b2
      go_loopw [8, 9] (fun s i wr => ∃ k : Nat, k ≤ Y ∧ i = .int .i64 (1900 + (k : Int)) ∧ s = .int .i64 (d - 1 + ny k) ∧ Below w.heap.size w wr) (fun _ i _ => Y - (intOf i - 1900).toNat)
      case atStart => exact ⟨0, Nat.zero_le _, rfl, by simp [ny], HB.out⟩
      case round =>
        obtain ⟨k, hk, rfl, rfl, hbl⟩ := hrel
        have HBL := hide hbl
        have hnb := ny_bound k
        have hnst : ny (k + 1) = ny k + 365 + lpn (1900 + (k : Int)) := rfl
        have hlb := lpn_01 (1900 + (k : Int))
        clear hbl HB
        by_cases hlt : k < Y
        · have hy := ryear_any (1900 + (k : Int)) wr (by omega) (by omega)
          generalize lpn (1900 + (k : Int)) = q at hy hnst hlb
          generalize ny k = P at hnst hnb
          obtain ⟨q1, q2⟩ := hlb
          obtain ⟨q3, q4⟩ := hnb
          have q5 : 0 ≤ P := by omega
          have q6 : P ≤ 200000 := by omega
          have HY := hide hy
          have HST := hide hnst
          clear hy hnst q3 q4
          go_wp2_with fail
          refine HY.out.mono ?_
          rintro e w2 ⟨rfl, hb⟩
          have HBL2 := hide (HBL.out.trans (hb.mono HBL.out.size))
          clear hb
          go_wp2
          go_roundw
          case rel => exact ⟨k + 1, by omega, by go_num, by rw [HST.out]; congr 1; omega, HBL2.out⟩
          case measure => simp [intOf]; omega
        · obtain rfl : k = Y := by omega
          generalize hPk : ny k = P at hnb ⊢
          have HPK := hide hPk
          clear hPk
          obtain ⟨q3, q4⟩ := hnb
          have q5 : 0 ≤ P := by omega
          have q6 : P ≤ 200000 := by omega
          clear q3 q4 hnst hlb
          go_wp2
          go_loopw [8, 10] (fun s i wr => ∃ j : Nat, 1 ≤ j ∧ j ≤ M ∧ i = .int .i64 (j : Int) ∧ s = .int .i64 (d - 1 + P + bef (1900 + k) j) ∧ Below w.heap.size w wr) (fun _ i _ => M - (intOf i).toNat)
          case atStart => exact ⟨1, Nat.le_refl _, hM1, rfl, by rw [show ((1 : Nat) : Int) = 1 from rfl, bef_1, Int.add_zero], HBL.out⟩
          case round =>
            obtain ⟨j, hj1, hj, rfl, rfl, hbl⟩ := hrel
            have HBL3 := hide hbl
            have hbb := HBE.out j (by omega) (by omega)
            obtain ⟨bb1, bb2⟩ := hbb
            clear hbl HBL
            by_cases hlj : j < M
            · have hl := rlen_any (1900 + (k : Int)) j wr
              have hst := bef_step (y := 1900 + (k : Int)) (m := j) (by omega) (by omega) (by omega) (by omega)
              have hb := ml_bound (1900 + (k : Int)) j
              generalize ml (1900 + (k : Int)) j = L2 at hl hst hb
              generalize bef (1900 + (k : Int)) j = B at hst bb1 bb2 ⊢
              obtain ⟨c1, c2⟩ := hb
              have HL := hide hl
              have HST := hide hst
              have hjj : (j : Int) < (M : Int) := by omega
              clear hl hst
              go_wp2_with fail
              refine HL.out.mono ?_
              rintro e w2 ⟨rfl, hb⟩
              have HBL2 := hide (HBL3.out.trans (hb.mono HBL3.out.size))
              clear hb
              go_wp2
              go_roundw
              case rel => exact ⟨j + 1, by omega, by omega, by go_num, by rw [show ((j + 1 : Nat) : Int) = (j : Int) + 1 from by omega, HST.out]; congr 1; omega, HBL2.out⟩
              case measure => simp [intOf]; omega
            · obtain rfl : j = M := by omega
              generalize hBj : bef (1900 + (k : Int)) j = B at bb1 bb2 ⊢
              have HBJ := hide hBj
              clear hBj
              go_wp2
              go_ret2
              exact ⟨by rw [HPK.out, HBJ.out, show P + B + d - 1 = d - 1 + P + B from by omega]; rfl, HBL3.out⟩
end Go.Proofs.Ytgijjgnacgpdfaa
