/- Texts laid together by merge.py: DtB, DtC, DtD, DtE, DtF, PtDt. -/
import Derived.Test.YtbhndfphegflhaaGreatMrg8
import Derived.Test.YtbhndfphegflhaaGreatMrg0
set_option linter.unusedSimpArgs false
set_option linter.unusedVariables false
/- Walks: known, Of, Parts, Months of the program. -/
namespace Go.Proofs.YtbhndfphegflhaaGreat
open Go.RowKit

theorem ny_find {day : Int} (h0 : 0 ≤ day) : ∀ k : Nat, day < ny k → ∃ j, j < k ∧ ny j ≤ day ∧ day < ny (j + 1)
  | 0, h => by rw [ny] at h; omega
  | k + 1, h => by
    by_cases hk : ny k ≤ day
    · exact ⟨k, by omega, hk, h⟩
    · obtain ⟨j, h1, h2⟩ := ny_find h0 k (by omega)
      exact ⟨j, by omega, h2⟩
theorem bef_find {y r : Int} (h0 : 0 ≤ r) : ∀ k : Nat, r < bef y ((k : Int) + 1) → ∃ j : Nat, 1 ≤ j ∧ j ≤ k ∧ bef y j ≤ r ∧ r < bef y ((j : Int) + 1)
  | 0, h => by
    rw [show ((0 : Nat) : Int) + 1 = 1 from rfl, bef_1] at h
    omega
  | k + 1, h => by
    by_cases hk : bef y ((k : Int) + 1) ≤ r
    · exact ⟨k + 1, by omega, by omega, hk, h⟩
    · obtain ⟨j, h1, h2, h3⟩ := bef_find (y := y) h0 k (by omega)
      exact ⟨j, h1, by omega, h3⟩
theorem parts_exist {day : Int} (h1 : 0 ≤ day) (h2 : day ≤ 109572) : ∃ y m d, PartsOf day y m d := by
  obtain ⟨k, hk, hl, hu⟩ := ny_find h1 300 (by rw [ny_300]; omega)
  rw [ny] at hu
  obtain ⟨j, j1, j2, j3, j4⟩ := bef_find (y := 1900 + (k : Int)) (r := day - ny k) (by omega) 12 (by rw [show ((12 : Nat) : Int) + 1 = 13 from rfl, bef_13]; omega)
  have e : ((1900 : Int) + (k : Int) - 1900).toNat = k := by omega
  exact ⟨1900 + k, j, day - ny k - bef (1900 + k) j + 1, by omega, by omega, by omega, by omega, by rw [e]; exact hl, by rw [e]; exact hu, by rw [e]; exact j3, by rw [e]; exact j4, by rw [e]⟩

theorem known_any (day : Int) (w : World) : Calls Tryz.prog 206 #[.int .i64 day] w fun e w' => e = .returned (.bool (decide (0 ≤ day) && decide (day ≤ 109572))) ∧ w = w' := by
  go_enter Tryz.func206, Tryz.ntmps206
  go_wp2
  all_goals go_ret
  all_goals exact ⟨ret_bool (by first | (simp_all; done) | (simp_all; omega)), rfl⟩

theorem ofR_bad {y m d : Int} (h : d < 1 ∨ ml y m < d) : ofR y m d = (0, 2) := by unfold ofR; rw [if_pos h]
theorem ml_range {y m : Int} (h : 1 ≤ ml y m) : (1900 ≤ y ∧ y ≤ 2199) ∧ 1 ≤ m ∧ m ≤ 12 := by
  unfold ml at h
  split at h
  · omega
  · omega

set_option maxHeartbeats 1000000 in
theorem pof_any (y m d : Int) (w : World) (_hd : I64 d) :
    Calls Tryz.prog 211 #[.int .i64 y, .int .i64 m, .int .i64 d] w fun e w' => e = .returned (.tuple #[.int .i64 (ofR y m d).1, .int .i64 (ofR y m d).2]) ∧ w = w' := by
  by_cases h1 : d < 1
  · have hr := ofR_bad (y := y) (m := m) (Or.inl h1)
    rw [hr]
    clear hr
    go_enter Tryz.func211, Tryz.ntmps211
    go_wp2
    go_ret2
    exact ⟨rfl, rfl⟩
  · have hl := plen_any y m w
    have hb := ml_bound y m
    by_cases h2 : ml y m < d
    · rw [ofR_bad (y := y) (m := m) (Or.inr h2)]
      generalize ml y m = L at hl hb h2
      have HL := hide hl
      obtain ⟨b1, b2⟩ := hb
      clear hl
      go_enter Tryz.func211, Tryz.ntmps211
      go_wp2_with fail
      refine HL.out.mono ?_
      rintro e w1 ⟨rfl, rfl⟩
      go_wp2
      go_ret2
      exact ⟨rfl, rfl⟩
    · obtain ⟨⟨y1, y2⟩, m1, m2⟩ := ml_range (y := y) (m := m) (by omega)
      have hr : ofR y m d = (ny (y - 1900).toNat + bef y m + d - 1, 0) := by unfold ofR; rw [if_neg (by omega)]
      rw [hr]
      have hny := newYear_any y w y1 (by omega)
      have hbe := before_any y m w (by omega) m1 m2
      have hnb := ny_bound (y - 1900).toNat
      have hbb : 0 ≤ bef y m ∧ bef y m ≤ 366 := by
        have e1 := bef_mono y1 y2 (m := 1) (m' := m) (by omega) m1 (by omega)
        have e2 := bef_mono y1 y2 (m := m) (m' := 13) m1 (by omega) (by omega)
        have e3 := lpn_01 y
        rw [bef_1] at e1
        rw [bef_13] at e2
        omega
      have ht : ((y - 1900).toNat : Int) ≤ 299 := by omega
      generalize ml y m = L at hl hb h2
      generalize ((y - 1900).toNat : Nat) = N at hny hnb ht
      generalize ny N = P at hny hnb
      generalize bef y m = Q at hbe hbb
      have HL := hide hl
      have HN := hide hny
      have HB := hide hbe
      obtain ⟨b1, b2⟩ := hb
      obtain ⟨b3, b4⟩ := hnb
      obtain ⟨b5, b6⟩ := hbb
      have b7 : 0 ≤ P := by omega
      have b8 : P ≤ 200000 := by omega
      have hdL : d ≤ L := by omega
      clear hl hny hbe hr b3 b4 h2 ht
      go_enter Tryz.func211, Tryz.ntmps211
      go_wp2_with fail
      refine HL.out.mono ?_
      rintro e w1 ⟨rfl, rfl⟩
      go_wp2_with fail
      refine HN.out.mono ?_
      rintro e w1 ⟨rfl, rfl⟩
      go_wp2_with fail
      refine HB.out.mono ?_
      rintro e w1 ⟨rfl, rfl⟩
      go_wp2
      go_ret2
      exact ⟨rfl, rfl⟩

set_option maxRecDepth 100000 in
set_option maxHeartbeats 1000000 in
theorem pparts_any (day y m d : Int) (w : World) (hp : PartsOf day y m d) (h1 : 0 ≤ day) (h2 : day ≤ 109572) :
    Calls Tryz.prog 200 #[.int .i64 day] w fun e w' => e = .returned (.tuple #[.int .i64 y, .int .i64 m, .int .i64 d, .int .i64 0]) ∧ w = w' := by
  have hk := known_any day w
  rw [show (decide (0 ≤ day) && decide (day ≤ 109572)) = true by simp [h1, h2]] at hk
  have HK := hide hk
  obtain ⟨Y, rfl⟩ : ∃ Y : Nat, y = 1900 + (Y : Int) := ⟨(y - 1900).toNat, by have := hp.y1; omega⟩
  obtain ⟨M, rfl⟩ : ∃ M : Nat, m = (M : Int) := ⟨m.toNat, by have := hp.m1; omega⟩
  obtain ⟨D, rfl⟩ : ∃ D : Nat, day = (D : Int) := ⟨day.toNat, by omega⟩
  have hY : Y ≤ 299 := by have := hp.y2; omega
  have hM1 : 1 ≤ M := by have := hp.m1; omega
  have hM2 : M ≤ 12 := by have := hp.m2; omega
  have hyl : ny Y ≤ D := by have := hp.yl; rwa [show ((1900 : Int) + (Y : Int) - 1900).toNat = Y from by omega] at this
  have hyu : (D : Int) < ny (Y + 1) := by have := hp.yu; rwa [show ((1900 : Int) + (Y : Int) - 1900).toNat = Y from by omega] at this
  have hml : bef (1900 + Y) M ≤ D - ny Y := by have := hp.ml; rwa [show ((1900 : Int) + (Y : Int) - 1900).toNat = Y from by omega] at this
  have hmu : D - ny Y < bef (1900 + Y) (M + 1) := by have := hp.mu; rwa [show ((1900 : Int) + (Y : Int) - 1900).toNat = Y from by omega] at this
  have hd : d = D - ny Y - bef (1900 + Y) M + 1 := by have := hp.d; rwa [show ((1900 : Int) + (Y : Int) - 1900).toNat = Y from by omega] at this
  have hst : D / 366 ≤ Y := by
    apply Classical.byContradiction
    intro hc
    have e1 := ny_mono (a := Y + 1) (b := D / 366) (by omega)
    have e2 := ny_bound (D / 366)
    omega
  have hbn := ny_bound Y
  have hbe : ∀ j : Int, 1 ≤ j → j ≤ 12 → 0 ≤ bef (1900 + Y) j ∧ bef (1900 + Y) j ≤ 366 := by
    intro j j1 j2
    have e1 := bef_mono (y := 1900 + Y) (by omega) (by omega) (m := 1) (m' := j) (by omega) j1 (by omega)
    have e2 := bef_mono (y := 1900 + Y) (by omega) (by omega) (m := j) (m' := 13) j1 (by omega) (by omega)
    have e3 := lpn_01 (1900 + Y)
    rw [bef_1] at e1
    rw [bef_13] at e2
    omega
  have HYL := hide hyl
  have HYU := hide hyu
  have HML := hide hml
  have HMU := hide hmu
  have HD := hide hd
  have HBN := hide hbn
  have HBE := hide hbe
  have HST := hide hst
  have hD : D ≤ 109572 := by omega
  clear hk hp hyl hyu hml hmu hd hbn hbe hst h2
  go_enter Tryz.func200, Tryz.ntmps200
  go_wp2_with fail
  refine HK.out.mono ?_
  rintro e w1 ⟨rfl, rfl⟩
  go_wp2
  go_loop [6] (fun y => ∃ k : Nat, k ≤ Y ∧ y = .int .i64 (1900 + (k : Int))) (fun y => Y - (intOf y - 1900).toNat)
  case atStart => exact ⟨D / 366, HST.out, by simp⟩
  case round =>
    obtain ⟨k, hk, rfl⟩ := hrel
    have hny := newYear_any (1900 + (k : Int) + 1) w (by omega) (by omega)
    rw [show ((1900 : Int) + (k : Int) + 1 - 1900).toNat = k + 1 from by omega] at hny
    by_cases hlt : k < Y
    · have hcmp : ny (k + 1) ≤ D := by have := ny_mono (a := k + 1) (b := Y) (by omega); have := HYL.out; omega
      generalize ny (k + 1) = P at hny hcmp
      have HN := hide hny
      clear hny
      go_wp2_with fail
      refine HN.out.mono ?_
      rintro e w1 ⟨rfl, rfl⟩
      go_wp2
      go_round
      case rel => exact ⟨k + 1, by omega, by go_num⟩
      case measure => simp [intOf]; omega
    · obtain rfl : k = Y := by omega
      have hcond : k = 299 ∨ (k < 299 ∧ (D : Int) < ny (k + 1)) := by have := HYU.out; omega
      have hn2 := newYear_any (1900 + (k : Int)) w (by omega) (by omega)
      rw [show ((1900 : Int) + (k : Int) - 1900).toNat = k from by omega] at hn2
      obtain ⟨b3, b4⟩ := HBN.out
      have hyl := HYL.out
      have hP : 0 ≤ ny k := by omega
      have hr0 : 0 ≤ (D : Int) - ny k := by omega
      have HLOW : Hid (∀ j : Nat, M < j → j ≤ 12 → (D : Int) - ny k < bef (1900 + k) j) := fun j j1 j2 => by
        have e1 := HMU.out
        have e2 := bef_mono (y := 1900 + k) (by omega) (by omega) (m := (M : Int) + 1) (m' := j) (by omega) (by omega) (by omega)
        omega
      generalize hPk : ny k = P at hn2 hP hr0 hyl HLOW HML HD b3 b4
      have hPD : P ≤ 109800 := by omega
      have HN2 := hide hn2
      clear hn2 hPk b3 b4 hr0
      clear hlt hk
      rcases hcond with h299 | ⟨h299, hcmp⟩
      · have hlt2 : ¬ 1900 + (k : Int) < 2199 := by omega
        clear h299
        go_wp2_with fail
        refine HN2.out.mono ?_
        rintro e w1 ⟨rfl, rfl⟩
        go_wp2
        go_loop [8] (fun j => ∃ m : Nat, M ≤ m ∧ m ≤ 12 ∧ j = .int .i64 m) (fun j => (intOf j).toNat - M)
        case atStart => exact ⟨12, hM2, by omega, rfl⟩
        case round =>
          obtain ⟨m, hm1, hm2, rfl⟩ := hrel
          have hbf := before_any (1900 + (k : Int)) m w (by omega) (by omega) (by omega)
          have hbb := HBE.out m (by omega) (by omega)
          obtain ⟨bb1, bb2⟩ := hbb
          by_cases hlm : M < m
          · have hgt := HLOW.out m hlm hm2
            generalize bef (1900 + (k : Int)) m = B at hbf bb1 bb2 hgt
            have HBF := hide hbf
            clear hbf
            go_wp2_with fail
            refine HBF.out.mono ?_
            rintro e w1 ⟨rfl, rfl⟩
            go_wp2
            go_round
            case rel => exact ⟨m - 1, by omega, by omega, by go_num⟩
            case measure => simp [intOf]; omega
          · obtain rfl : m = M := by omega
            have hml := HML.out
            have hdd := HD.out
            generalize bef (1900 + (k : Int)) m = B at hbf bb1 bb2 hml hdd
            have HBF := hide hbf
            have HDD := hide hdd
            clear hbf hdd
            go_wp2_with fail
            refine HBF.out.mono ?_
            rintro e w1 ⟨rfl, rfl⟩
            go_wp2_with fail
            refine HBF.out.mono ?_
            rintro e w1 ⟨rfl, rfl⟩
            go_wp2
            rw [HDD.out]
            exact bodyPost_ret (by simp [results, Tryz.results200, go_sem]) rfl ⟨rfl, rfl⟩
      · have hlt2 : 1900 + (k : Int) < 2199 := by omega
        clear h299
        generalize ny (k + 1) = P1 at hny hcmp
        have HN := hide hny
        clear hny
        go_wp2_with fail
        refine HN.out.mono ?_
        rintro e w1 ⟨rfl, rfl⟩
        go_wp2_with fail
        refine HN2.out.mono ?_
        rintro e w1 ⟨rfl, rfl⟩
        go_wp2
        go_loop [8] (fun j => ∃ m : Nat, M ≤ m ∧ m ≤ 12 ∧ j = .int .i64 m) (fun j => (intOf j).toNat - M)
        case atStart => exact ⟨12, hM2, by omega, rfl⟩
        case round =>
          obtain ⟨m, hm1, hm2, rfl⟩ := hrel
          have hbf := before_any (1900 + (k : Int)) m w (by omega) (by omega) (by omega)
          have hbb := HBE.out m (by omega) (by omega)
          obtain ⟨bb1, bb2⟩ := hbb
          by_cases hlm : M < m
          · have hgt := HLOW.out m hlm hm2
            generalize bef (1900 + (k : Int)) m = B at hbf bb1 bb2 hgt
            have HBF := hide hbf
            clear hbf
            go_wp2_with fail
            refine HBF.out.mono ?_
            rintro e w1 ⟨rfl, rfl⟩
            go_wp2
            go_round
            case rel => exact ⟨m - 1, by omega, by omega, by go_num⟩
            case measure => simp [intOf]; omega
          · obtain rfl : m = M := by omega
            have hml := HML.out
            have hdd := HD.out
            generalize bef (1900 + (k : Int)) m = B at hbf bb1 bb2 hml hdd
            have HBF := hide hbf
            have HDD := hide hdd
            clear hbf hdd
            go_wp2_with fail
            refine HBF.out.mono ?_
            rintro e w1 ⟨rfl, rfl⟩
            go_wp2_with fail
            refine HBF.out.mono ?_
            rintro e w1 ⟨rfl, rfl⟩
            go_wp2
            rw [HDD.out]
            exact bodyPost_ret (by simp [results, Tryz.results200, go_sem]) rfl ⟨rfl, rfl⟩
end Go.Proofs.YtbhndfphegflhaaGreat

/- Walks: Months of the program. -/
namespace Go.Proofs.YtbhndfphegflhaaGreat
open Go.RowKit

theorem parts_day {day y m d : Int} (h : PartsOf day y m d) : 1 ≤ d ∧ d ≤ 31 := by
  have h1 := h.ml
  have h2 := h.mu
  have h3 := h.d
  have h4 := bef_step h.y1 h.y2 h.m1 h.m2
  have h5 := ml_bound y m
  omega

end Go.Proofs.YtbhndfphegflhaaGreat

/- Walks: the reference's Is, Year, Of, Parts. -/
namespace Go.Proofs.YtbhndfphegflhaaGreat
open Go.RowKit

theorem ris_any (day : Int) (w : World) : Calls Tryz.prog 194 #[.int .i64 day] w fun e w' => e = .returned (.bool (decide (0 ≤ day) && decide (day ≤ 109572))) ∧ Below w.heap.size w w' := by
  go_enter Tryz.func194, Tryz.ntmps194
  go_wp2
  all_goals go_ret
  all_goals exact ⟨ret_bool (by first | (simp_all; done) | (simp_all; omega)), Below.refl _ _⟩

theorem ml_feb {y : Int} (h1 : 1900 ≤ y) (h2 : y ≤ 2199) : ml y 2 = 28 + lpn y := by
  unfold ml lpn
  rw [if_neg (by omega)]
  by_cases hl : lp y = true <;> simp [hl, tab]
theorem ryear_any (y : Int) (w : World) (h1 : 1900 ≤ y) (h2 : y ≤ 2199) : Calls Tryz.prog 195 #[.int .i64 y] w fun e w' => e = .returned (.int .i64 (365 + lpn y)) ∧ Below w.heap.size w w' := by
  have hl := rlen_any y 2 w
  rw [ml_feb h1 h2] at hl
  unfold lpn at hl ⊢
  generalize lp y = q at hl ⊢
  have HL := hide hl
  clear hl
  cases q with
  | true =>
    go_enter Tryz.func195, Tryz.ntmps195
    go_wp2_with fail
    refine HL.out.mono ?_
    rintro e w1 ⟨rfl, hb⟩
    go_wp2
    go_ret
    exact ⟨rfl, hb⟩
  | false =>
    go_enter Tryz.func195, Tryz.ntmps195
    go_wp2_with fail
    refine HL.out.mono ?_
    rintro e w1 ⟨rfl, hb⟩
    go_wp2
    go_ret
    exact ⟨rfl, hb⟩

set_option maxRecDepth 100000 in
set_option maxHeartbeats 1000000 in
theorem rof_any (y m d : Int) (w : World) (hd : I64 d) :
    Calls Tryz.prog 203 #[.int .i64 y, .int .i64 m, .int .i64 d] w fun e w' => e = .returned (.tuple #[.int .i64 (ofR y m d).1, .int .i64 (ofR y m d).2]) ∧ Below w.heap.size w w' := by
  by_cases h1 : d < 1
  · rw [ofR_bad (y := y) (m := m) (Or.inl h1)]
    go_enter Tryz.func203, Tryz.ntmps203
    go_wp2
    go_ret2
    exact ⟨rfl, Below.refl _ _⟩
  · have hl := rlen_any y m w
    have hb := ml_bound y m
    by_cases h2 : ml y m < d
    · rw [ofR_bad (y := y) (m := m) (Or.inr h2)]
      generalize ml y m = L at hl hb h2
      have HL := hide hl
      obtain ⟨b1, b2⟩ := hb
      clear hl
      go_enter Tryz.func203, Tryz.ntmps203
      go_wp2_with fail
      refine HL.out.mono ?_
      rintro e w1 ⟨rfl, hb⟩
      go_wp2
      go_ret2
      exact ⟨rfl, hb⟩
    · obtain ⟨⟨y1, y2⟩, m1, m2⟩ := ml_range (y := y) (m := m) (by omega)
      obtain ⟨Y, rfl⟩ : ∃ Y : Nat, y = 1900 + (Y : Int) := ⟨(y - 1900).toNat, by omega⟩
      obtain ⟨M, rfl⟩ : ∃ M : Nat, m = (M : Int) := ⟨m.toNat, by omega⟩
      have hr : ofR (1900 + (Y : Int)) M d = (ny Y + bef (1900 + Y) M + d - 1, 0) := by
        unfold ofR
        rw [if_neg (by omega), show ((1900 : Int) + (Y : Int) - 1900).toNat = Y from by omega]
      rw [hr]
      have hY : Y ≤ 299 := by omega
      have hM1 : 1 ≤ M := by omega
      have hM2 : M ≤ 12 := by omega
      have hbe : ∀ j : Int, 1 ≤ j → j ≤ 12 → 0 ≤ bef (1900 + Y) j ∧ bef (1900 + Y) j ≤ 366 := by
        intro j j1 j2
        have e1 := bef_mono (y := 1900 + Y) (by omega) (by omega) (m := 1) (m' := j) (by omega) j1 (by omega)
        have e2 := bef_mono (y := 1900 + Y) (by omega) (by omega) (m := j) (m' := 13) j1 (by omega) (by omega)
        have e3 := lpn_01 (1900 + Y)
        rw [bef_1] at e1
        rw [bef_13] at e2
        omega
      have HBE := hide hbe
      generalize ml (1900 + (Y : Int)) M = L at hl hb h2
      obtain ⟨b1, b2⟩ := hb
      have HL := hide hl
      have hdL : d ≤ 31 := by omega
      clear hl hr hbe y1 y2 m1 m2
      go_enter Tryz.func203, Tryz.ntmps203
      go_wp2_with fail
      refine HL.out.mono ?_
      rintro e w1 ⟨rfl, hb⟩
      have HB := hide hb
      clear hb HL
      go_wp2
      clear h2 b1 b2
      go_loopw [8, 9] (fun s i wr => ∃ k : Nat, k ≤ Y ∧ i = .int .i64 (1900 + (k : Int)) ∧ s = .int .i64 (d - 1 + ny k) ∧ Below w.heap.size w wr) (fun _ i _ => Y - (intOf i - 1900).toNat)
      case atStart => exact ⟨0, Nat.zero_le _, rfl, by simp [ny], HB.out⟩
      case round =>
        obtain ⟨k, hk, rfl, rfl, hbl⟩ := hrel
        have HBL := hide hbl
        have hnb := ny_bound k
        have hnst : ny (k + 1) = ny k + 365 + lpn (1900 + (k : Int)) := rfl
        have hlb := lpn_01 (1900 + (k : Int))
        clear hbl HB
        by_cases hlt : k < Y
        · have hy := ryear_any (1900 + (k : Int)) wr (by omega) (by omega)
          generalize lpn (1900 + (k : Int)) = q at hy hnst hlb
          generalize ny k = P at hnst hnb
          obtain ⟨q1, q2⟩ := hlb
          obtain ⟨q3, q4⟩ := hnb
          have q5 : 0 ≤ P := by omega
          have q6 : P ≤ 200000 := by omega
          have HY := hide hy
          have HST := hide hnst
          clear hy hnst q3 q4
          go_wp2_with fail
          refine HY.out.mono ?_
          rintro e w2 ⟨rfl, hb⟩
          have HBL2 := hide (HBL.out.trans (hb.mono HBL.out.size))
          clear hb
          go_wp2
          go_roundw
          case rel => exact ⟨k + 1, by omega, by go_num, by rw [HST.out]; congr 1; omega, HBL2.out⟩
          case measure => simp [intOf]; omega
        · obtain rfl : k = Y := by omega
          generalize hPk : ny k = P at hnb ⊢
          have HPK := hide hPk
          clear hPk
          obtain ⟨q3, q4⟩ := hnb
          have q5 : 0 ≤ P := by omega
          have q6 : P ≤ 200000 := by omega
          clear q3 q4 hnst hlb
          go_wp2
          go_loopw [8, 10] (fun s i wr => ∃ j : Nat, 1 ≤ j ∧ j ≤ M ∧ i = .int .i64 (j : Int) ∧ s = .int .i64 (d - 1 + P + bef (1900 + k) j) ∧ Below w.heap.size w wr) (fun _ i _ => M - (intOf i).toNat)
          case atStart => exact ⟨1, Nat.le_refl _, hM1, rfl, by rw [show ((1 : Nat) : Int) = 1 from rfl, bef_1, Int.add_zero], HBL.out⟩
          case round =>
            obtain ⟨j, hj1, hj, rfl, rfl, hbl⟩ := hrel
            have HBL3 := hide hbl
            have hbb := HBE.out j (by omega) (by omega)
            obtain ⟨bb1, bb2⟩ := hbb
            clear hbl HBL
            by_cases hlj : j < M
            · have hl := rlen_any (1900 + (k : Int)) j wr
              have hst := bef_step (y := 1900 + (k : Int)) (m := j) (by omega) (by omega) (by omega) (by omega)
              have hb := ml_bound (1900 + (k : Int)) j
              generalize ml (1900 + (k : Int)) j = L2 at hl hst hb
              generalize bef (1900 + (k : Int)) j = B at hst bb1 bb2 ⊢
              obtain ⟨c1, c2⟩ := hb
              have HL := hide hl
              have HST := hide hst
              have hjj : (j : Int) < (M : Int) := by omega
              clear hl hst
              go_wp2_with fail
              refine HL.out.mono ?_
              rintro e w2 ⟨rfl, hb⟩
              have HBL2 := hide (HBL3.out.trans (hb.mono HBL3.out.size))
              clear hb
              go_wp2
              go_roundw
              case rel => exact ⟨j + 1, by omega, by omega, by go_num, by rw [show ((j + 1 : Nat) : Int) = (j : Int) + 1 from by omega, HST.out]; congr 1; omega, HBL2.out⟩
              case measure => simp [intOf]; omega
            · obtain rfl : j = M := by omega
              generalize hBj : bef (1900 + (k : Int)) j = B at bb1 bb2 ⊢
              have HBJ := hide hBj
              clear hBj
              go_wp2
              go_ret2
              exact ⟨by rw [HPK.out, HBJ.out, show P + B + d - 1 = d - 1 + P + B from by omega]; rfl, HBL3.out⟩
end Go.Proofs.YtbhndfphegflhaaGreat

/- Walks: the reference's Parts and Months. -/
namespace Go.Proofs.YtbhndfphegflhaaGreat
open Go.RowKit

set_option maxRecDepth 100000 in
set_option maxHeartbeats 2000000 in
theorem rparts_any (day y m d : Int) (w : World) (hp : PartsOf day y m d) (h1 : 0 ≤ day) (h2 : day ≤ 109572) :
    Calls Tryz.prog 180 #[.int .i64 day] w fun e w' => e = .returned (.tuple #[.int .i64 y, .int .i64 m, .int .i64 d, .int .i64 0]) ∧ Below w.heap.size w w' := by
  have hk := ris_any day w
  rw [show (decide (0 ≤ day) && decide (day ≤ 109572)) = true by simp [h1, h2]] at hk
  have HK := hide hk
  obtain ⟨Y, rfl⟩ : ∃ Y : Nat, y = 1900 + (Y : Int) := ⟨(y - 1900).toNat, by have := hp.y1; omega⟩
  obtain ⟨M, rfl⟩ : ∃ M : Nat, m = (M : Int) := ⟨m.toNat, by have := hp.m1; omega⟩
  have hY : Y ≤ 299 := by have := hp.y2; omega
  have hM1 : 1 ≤ M := by have := hp.m1; omega
  have hM2 : M ≤ 12 := by have := hp.m2; omega
  have hyl : ny Y ≤ day := by have := hp.yl; rwa [show ((1900 : Int) + (Y : Int) - 1900).toNat = Y from by omega] at this
  have hyu : day < ny (Y + 1) := by have := hp.yu; rwa [show ((1900 : Int) + (Y : Int) - 1900).toNat = Y from by omega] at this
  have hml : bef (1900 + Y) M ≤ day - ny Y := by have := hp.ml; rwa [show ((1900 : Int) + (Y : Int) - 1900).toNat = Y from by omega] at this
  have hmu : day - ny Y < bef (1900 + Y) (M + 1) := by have := hp.mu; rwa [show ((1900 : Int) + (Y : Int) - 1900).toNat = Y from by omega] at this
  have hd : d = day - ny Y - bef (1900 + Y) M + 1 := by have := hp.d; rwa [show ((1900 : Int) + (Y : Int) - 1900).toNat = Y from by omega] at this
  have hbe : ∀ j : Int, 1 ≤ j → j ≤ 12 → 0 ≤ bef (1900 + Y) j ∧ bef (1900 + Y) j ≤ 366 := by
    intro j j1 j2
    have e1 := bef_mono (y := 1900 + Y) (by omega) (by omega) (m := 1) (m' := j) (by omega) j1 (by omega)
    have e2 := bef_mono (y := 1900 + Y) (by omega) (by omega) (m := j) (m' := 13) j1 (by omega) (by omega)
    have e3 := lpn_01 (1900 + Y)
    rw [bef_1] at e1
    rw [bef_13] at e2
    omega
  have HYL := hide hyl
  have HYU := hide hyu
  have HML := hide hml
  have HMU := hide hmu
  have HD := hide hd
  have HBE := hide hbe
  clear hk hp hyl hyu hml hmu hd hbe
  go_enter Tryz.func180, Tryz.ntmps180
  go_wp2_with fail
  refine HK.out.mono ?_
  rintro e w1 ⟨rfl, hb⟩
  have HB := hide hb
  clear hb HK
  go_wp2
  go_loopw [0, 6] (fun r i wr => ∃ k : Nat, k ≤ Y ∧ i = .int .i64 (1900 + (k : Int)) ∧ r = .int .i64 (day - ny k) ∧ Below w.heap.size w wr) (fun _ i _ => Y - (intOf i - 1900).toNat)
  case atStart => exact ⟨0, Nat.zero_le _, rfl, by simp [ny], HB.out⟩
  case round =>
    obtain ⟨k, hk, rfl, rfl, hbl⟩ := hrel
    have HBL := hide hbl
    have hnb := ny_bound k
    have hlb := lpn_01 (1900 + (k : Int))
    have hnst : ny (k + 1) = ny k + 365 + lpn (1900 + (k : Int)) := rfl
    have hle : ny k ≤ day := by have := ny_mono (a := k) (b := Y) hk; have := HYL.out; omega
    have hy := ryear_any (1900 + (k : Int)) wr (by omega) (by omega)
    clear hbl HB
    by_cases hlt : k < Y
    · have hge : ny k + 365 + lpn (1900 + (k : Int)) ≤ day := by have := ny_mono (a := k + 1) (b := Y) hlt; have := HYL.out; omega
      have hy2 := fun W => ryear_any (1900 + (k : Int)) W (by omega) (by omega)
      have HST := hide hnst
      clear hnst
      generalize lpn (1900 + (k : Int)) = q at hy hy2 HST hlb hge
      generalize ny k = P at HST hnb hle hge ⊢
      obtain ⟨q1, q2⟩ := hlb
      obtain ⟨q3, q4⟩ := hnb
      have q5 : 0 ≤ P := by omega
      have q6 : P ≤ 200000 := by omega
      have q7 : 365 + q ≤ day - P := by omega
      have HY := hide hy
      have HY2 := hide hy2
      clear hy hy2 q3 q4 hge
      go_wp2_with fail
      refine HY.out.mono ?_
      rintro e w2 ⟨rfl, hb⟩
      have HBL2 := hide (HBL.out.trans (hb.mono HBL.out.size))
      clear hb
      go_wp2_with fail
      refine (HY2.out _).mono ?_
      rintro e w3 ⟨rfl, hb⟩
      have HBL3 := hide (HBL2.out.trans (hb.mono HBL2.out.size))
      clear hb
      go_wp2
      go_roundw
      case rel => exact ⟨k + 1, by omega, by go_num, by rw [HST.out]; congr 1; omega, HBL3.out⟩
      case measure => simp [intOf]; omega
    · obtain rfl : k = Y := by omega
      have hlt2 : day < ny k + 365 + lpn (1900 + (k : Int)) := by have := HYU.out; omega
      clear hnst hlt hk HYU HYL
      generalize lpn (1900 + (k : Int)) = q at hy hlb hlt2
      generalize ny k = P at hnb hle hlt2 HML HMU HD ⊢
      obtain ⟨q1, q2⟩ := hlb
      obtain ⟨q3, q4⟩ := hnb
      have q5 : 0 ≤ P := by omega
      have q6 : P ≤ 200000 := by omega
      have q7 : day - P < 365 + q := by omega
      have HY := hide hy
      clear hy q3 q4 hlt2
      go_wp2_with fail
      refine HY.out.mono ?_
      rintro e w2 ⟨rfl, hb⟩
      have HBL2 := hide (HBL.out.trans (hb.mono HBL.out.size))
      clear hb HBL HY
      go_wp2
      go_loopw [0, 7] (fun r i wr => ∃ j : Nat, 1 ≤ j ∧ j ≤ M ∧ i = .int .i64 (j : Int) ∧ r = .int .i64 (day - P - bef (1900 + k) j) ∧ Below w.heap.size w wr) (fun _ i _ => M - (intOf i).toNat)
      case atStart => exact ⟨1, Nat.le_refl _, hM1, rfl, by rw [show ((1 : Nat) : Int) = 1 from rfl, bef_1, Int.sub_zero], HBL2.out⟩
      case round =>
        obtain ⟨j, hj1, hj, rfl, rfl, hbl⟩ := hrel
        have HBL3 := hide hbl
        have hbb := HBE.out j (by omega) (by omega)
        obtain ⟨bb1, bb2⟩ := hbb
        have hst := bef_step (y := 1900 + (k : Int)) (m := j) (by omega) (by omega) (by omega) (by omega)
        have hb := ml_bound (1900 + (k : Int)) j
        have hl := rlen_any (1900 + (k : Int)) j wr
        have hl2 := fun W => rlen_any (1900 + (k : Int)) j W
        obtain ⟨c1, c2⟩ := hb
        clear hbl HBL2
        by_cases hlj : j < M
        · have hge : bef (1900 + (k : Int)) j + ml (1900 + (k : Int)) j ≤ day - P := by
            have e1 := bef_mono (y := 1900 + (k : Int)) (by omega) (by omega) (m := (j : Int) + 1) (m' := M) (by omega) (by omega) (by omega)
            have := HML.out
            omega
          have HST := hide hst
          generalize ml (1900 + (k : Int)) j = L2 at hl hl2 HST c1 c2 hge
          generalize bef (1900 + (k : Int)) j = B at HST bb1 bb2 hge ⊢
          have HL := hide hl
          have HL2 := hide hl2
          have hge2 : L2 ≤ day - P - B := by omega
          clear hl hl2 hst hge
          go_wp2_with fail
          refine HL.out.mono ?_
          rintro e w3 ⟨rfl, hb⟩
          have HBL4 := hide (HBL3.out.trans (hb.mono HBL3.out.size))
          clear hb
          go_wp2_with fail
          refine (HL2.out _).mono ?_
          rintro e w4 ⟨rfl, hb⟩
          have HBL5 := hide (HBL4.out.trans (hb.mono HBL4.out.size))
          clear hb
          go_wp2
          go_roundw
          case rel => exact ⟨j + 1, by omega, by omega, by go_num, by rw [show ((j + 1 : Nat) : Int) = (j : Int) + 1 from by omega, HST.out]; congr 1; omega, HBL5.out⟩
          case measure => simp [intOf]; omega
        · obtain rfl : j = M := by omega
          have hlt3 : day - P < bef (1900 + (k : Int)) j + ml (1900 + (k : Int)) j := by have := HMU.out; omega
          have hge3 := HML.out
          clear hst hl2 HML HMU
          generalize ml (1900 + (k : Int)) j = L2 at hl c1 c2 hlt3
          generalize bef (1900 + (k : Int)) j = B at bb1 bb2 hlt3 hge3 HD ⊢
          have HL := hide hl
          have hge2 : day - P - B < L2 := by omega
          have hge4 : 0 ≤ day - P - B := by omega
          clear hl hlt3 hge3
          go_wp2_with fail
          refine HL.out.mono ?_
          rintro e w3 ⟨rfl, hb⟩
          have HBL4 := hide (HBL3.out.trans (hb.mono HBL3.out.size))
          clear hb
          go_wp2
          rw [HD.out]
          exact bodyPost_ret (by simp [results, Tryz.results180, go_sem]) rfl ⟨rfl, HBL4.out⟩
end Go.Proofs.YtbhndfphegflhaaGreat

/- Walks: the reference's Months. -/
namespace Go.Proofs.YtbhndfphegflhaaGreat
open Go.RowKit

end Go.Proofs.YtbhndfphegflhaaGreat

/- Walks: Months of both, at any number of months from 0 on. Turned from DtC and DtF. -/
namespace Go.Proofs.YtbhndfphegflhaaGreat
open Go.RowKit

set_option maxHeartbeats 1000000 in
theorem pmonths0_any (day y m d n : Int) (w : World) (hp : PartsOf day y m d) (h1 : 0 ≤ day) (h2 : day ≤ 109572) (n1 : 0 ≤ n) (n2 : n ≤ 3600) :
    Calls Tryz.prog 205 #[.int .i64 day, .int .i64 n] w fun e w' => e = .returned (.tuple #[.int .i64 (monR y m d n).1, .int .i64 (monR y m d n).2]) ∧ w = w' := by
  have hparts := pparts_any day y m d w hp h1 h2
  obtain ⟨d1, d2⟩ := parts_day hp
  have y1 := hp.y1
  have y2 := hp.y2
  have m1 := hp.m1
  have m2 := hp.m2
  have HP := hide hparts
  clear hparts hp
  by_cases hk : 3600 ≤ (y - 1900) * 12 + m - 1 + n
  · have hr : monR y m d n = (0, 2) := by unfold monR; rw [if_pos (Or.inr hk)]
    rw [hr]
    clear hr
    go_enter Tryz.func205, Tryz.ntmps205
    go_wp2_with fail
    refine HP.out.mono ?_
    rintro e w1 ⟨rfl, rfl⟩
    go_wp2
    go_ret2
    exact ⟨rfl, rfl⟩
  · have hr : monR y m d n = ofR (1900 + ((y - 1900) * 12 + m - 1 + n) / 12) (((y - 1900) * 12 + m - 1 + n) % 12 + 1) (min d (ml (1900 + ((y - 1900) * 12 + m - 1 + n) / 12) (((y - 1900) * 12 + m - 1 + n) % 12 + 1))) := by
      unfold monR; rw [if_neg (by omega)]
    rw [hr]
    have hl := plen_any (1900 + ((y - 1900) * 12 + m - 1 + n) / 12) (((y - 1900) * 12 + m - 1 + n) % 12 + 1) w
    have hb := ml_bound (1900 + ((y - 1900) * 12 + m - 1 + n) / 12) (((y - 1900) * 12 + m - 1 + n) % 12 + 1)
    generalize ml (1900 + ((y - 1900) * 12 + m - 1 + n) / 12) (((y - 1900) * 12 + m - 1 + n) % 12 + 1) = L at hl hb
    obtain ⟨b1, b2⟩ := hb
    have hof := pof_any (1900 + ((y - 1900) * 12 + m - 1 + n) / 12) (((y - 1900) * 12 + m - 1 + n) % 12 + 1) (min d L) w (by unfold I64; omega)
    have HL := hide hl
    have hk0 : 0 ≤ (y - 1900) * 12 + m - 1 + n := by omega
    clear hr hl
    by_cases hld : L < d
    · rw [Int.min_eq_right (by omega)] at hof ⊢
      have HO := hide hof
      clear hof
      go_enter Tryz.func205, Tryz.ntmps205
      go_wp2_with fail
      refine HP.out.mono ?_
      rintro e w1 ⟨rfl, rfl⟩
      go_wp2_with fail
      refine HL.out.mono ?_
      rintro e w1 ⟨rfl, rfl⟩
      go_wp2_with fail
      refine HO.out.mono ?_
      rintro e w1 ⟨rfl, rfl⟩
      go_wp2
      go_ret2
      exact ⟨rfl, rfl⟩
    · rw [Int.min_eq_left (by omega)] at hof ⊢
      have HO := hide hof
      clear hof
      go_enter Tryz.func205, Tryz.ntmps205
      go_wp2_with fail
      refine HP.out.mono ?_
      rintro e w1 ⟨rfl, rfl⟩
      go_wp2_with fail
      refine HL.out.mono ?_
      rintro e w1 ⟨rfl, rfl⟩
      go_wp2_with fail
      refine HO.out.mono ?_
      rintro e w1 ⟨rfl, rfl⟩
      go_wp2
      go_ret2
      exact ⟨rfl, rfl⟩
set_option maxHeartbeats 1000000 in
theorem rmonths0_any (day y m d n : Int) (w : World) (hp : PartsOf day y m d) (h1 : 0 ≤ day) (h2 : day ≤ 109572) (n1 : 0 ≤ n) (n2 : n ≤ 3600) :
    Calls Tryz.prog 193 #[.int .i64 day, .int .i64 n] w fun e w' => e = .returned (.tuple #[.int .i64 (monR y m d n).1, .int .i64 (monR y m d n).2]) ∧ Below w.heap.size w w' := by
  have hparts := rparts_any day y m d w hp h1 h2
  obtain ⟨d1, d2⟩ := parts_day hp
  have y1 := hp.y1
  have y2 := hp.y2
  have m1 := hp.m1
  have m2 := hp.m2
  have HP := hide hparts
  clear hparts hp
  by_cases hk : 3600 ≤ (y - 1900) * 12 + m - 1 + n
  · have hr : monR y m d n = (0, 2) := by unfold monR; rw [if_pos (Or.inr hk)]
    have hk2 : 26399 < 12 * y + m - 1 + n := by omega
    rw [hr]
    clear hr hk
    go_enter Tryz.func193, Tryz.ntmps193
    go_wp2_with fail
    refine HP.out.mono ?_
    rintro e w1 ⟨rfl, hb⟩
    go_wp2
    go_ret2
    exact ⟨rfl, hb⟩
  · have hr : monR y m d n = ofR ((12 * y + m - 1 + n) / 12) ((12 * y + m - 1 + n) % 12 + 1) (min d (ml ((12 * y + m - 1 + n) / 12) ((12 * y + m - 1 + n) % 12 + 1))) := by
      unfold monR
      rw [if_neg (by omega), show 1900 + ((y - 1900) * 12 + m - 1 + n) / 12 = (12 * y + m - 1 + n) / 12 from by omega, show ((y - 1900) * 12 + m - 1 + n) % 12 = (12 * y + m - 1 + n) % 12 from by omega]
    rw [hr]
    have hl := fun W => rlen_any ((12 * y + m - 1 + n) / 12) ((12 * y + m - 1 + n) % 12 + 1) W
    have hb := ml_bound ((12 * y + m - 1 + n) / 12) ((12 * y + m - 1 + n) % 12 + 1)
    generalize ml ((12 * y + m - 1 + n) / 12) ((12 * y + m - 1 + n) % 12 + 1) = L at hl hb
    obtain ⟨b1, b2⟩ := hb
    have hof := fun W => rof_any ((12 * y + m - 1 + n) / 12) ((12 * y + m - 1 + n) % 12 + 1) (min d L) W (by unfold I64; omega)
    have HL := hide hl
    have hk0 : 22800 ≤ 12 * y + m - 1 + n := by omega
    have hk2 : 12 * y + m - 1 + n ≤ 26399 := by omega
    clear hr hl hk
    by_cases hld : L < d
    · rw [Int.min_eq_right (by omega)] at hof ⊢
      have HO := hide hof
      clear hof
      go_enter Tryz.func193, Tryz.ntmps193
      go_wp2_with fail
      refine HP.out.mono ?_
      rintro e w1 ⟨rfl, hb⟩
      have B1 := hide hb
      clear hb
      go_wp2_with fail
      refine (HL.out _).mono ?_
      rintro e w2 ⟨rfl, hb⟩
      have B2 := hide (B1.out.trans (hb.mono B1.out.size))
      clear hb
      go_wp2_with fail
      refine (HL.out _).mono ?_
      rintro e w3 ⟨rfl, hb⟩
      have B3 := hide (B2.out.trans (hb.mono B2.out.size))
      clear hb
      go_wp2_with fail
      refine (HO.out _).mono ?_
      rintro e w4 ⟨rfl, hb⟩
      have B4 := hide (B3.out.trans (hb.mono B3.out.size))
      clear hb
      go_wp2
      go_ret2
      exact ⟨rfl, B4.out⟩
    · rw [Int.min_eq_left (by omega)] at hof ⊢
      have HO := hide hof
      clear hof
      go_enter Tryz.func193, Tryz.ntmps193
      go_wp2_with fail
      refine HP.out.mono ?_
      rintro e w1 ⟨rfl, hb⟩
      have B1 := hide hb
      clear hb
      go_wp2_with fail
      refine (HL.out _).mono ?_
      rintro e w2 ⟨rfl, hb⟩
      have B2 := hide (B1.out.trans (hb.mono B1.out.size))
      clear hb
      go_wp2_with fail
      refine (HO.out _).mono ?_
      rintro e w4 ⟨rfl, hb⟩
      have B4 := hide (B2.out.trans (hb.mono B2.out.size))
      clear hb
      go_wp2
      go_ret2
      exact ⟨rfl, B4.out⟩
set_option maxHeartbeats 1000000 in
theorem pmonthsF_any (day y m d n : Int) (w : World) (hp : PartsOf day y m d) (h1 : 0 ≤ day) (h2 : day ≤ 109572) (n1 : 0 ≤ n) (n2 : n ≤ 1000000) :
    Calls Tryz.prog 205 #[.int .i64 day, .int .i64 n] w fun e w' => e = .returned (.tuple #[.int .i64 (monR y m d n).1, .int .i64 (monR y m d n).2]) ∧ w = w' := by
  by_cases h : n ≤ 3600
  · exact pmonths0_any day y m d n w hp h1 h2 n1 h
  · have hr : monR y m d n = (0, 2) := by unfold monR; rw [if_pos (Or.inr (by have := hp.y1; have := hp.m1; omega))]
    rw [hr]
    have hn3 : (3600 : Int) < n := by omega
    have HP := hide (pparts_any day y m d w hp h1 h2)
    clear hr hp h
    go_enter Tryz.func205, Tryz.ntmps205
    go_wp2_with fail
    refine HP.out.mono ?_
    rintro e w1 ⟨rfl, rfl⟩
    go_wp2
    go_ret2
    exact ⟨rfl, rfl⟩
set_option maxHeartbeats 1000000 in
theorem rmonthsF_any (day y m d n : Int) (w : World) (hp : PartsOf day y m d) (h1 : 0 ≤ day) (h2 : day ≤ 109572) (n1 : 0 ≤ n) (n2 : n ≤ 1000000) :
    Calls Tryz.prog 193 #[.int .i64 day, .int .i64 n] w fun e w' => e = .returned (.tuple #[.int .i64 (monR y m d n).1, .int .i64 (monR y m d n).2]) ∧ Below w.heap.size w w' := by
  by_cases h : n ≤ 3600
  · exact rmonths0_any day y m d n w hp h1 h2 n1 h
  · have hr : monR y m d n = (0, 2) := by unfold monR; rw [if_pos (Or.inr (by have := hp.y1; have := hp.m1; omega))]
    rw [hr]
    have hn3 : (3600 : Int) < n := by omega
    have HP := hide (rparts_any day y m d w hp h1 h2)
    clear hr hp h
    go_enter Tryz.func193, Tryz.ntmps193
    go_wp2_with fail
    refine HP.out.mono ?_
    rintro e w1 ⟨rfl, hb⟩
    go_wp2
    go_ret2
    exact ⟨rfl, hb⟩
end Go.Proofs.YtbhndfphegflhaaGreat
