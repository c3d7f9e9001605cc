/- Walks: known, Of, Parts, Months of the program. -/
import Derived.Test.YtgijjgnacgpdfaaDtA
import Derived.Test.YtgijjgnacgpdfaaAcPlain
namespace Go.Proofs.Ytgijjgnacgpdfaa
open Go.RowKit

theorem ny_find {day : Int} (h0 : 0 ≤ day) : ∀ k : Nat, day < ny k → ∃ j, j < k ∧ ny j ≤ day ∧ day < ny (j + 1)
  | 0, h => by rw [ny] at h; omega
  | k + 1, h => by
    by_cases hk : ny k ≤ day
    · exact ⟨k, by omega, hk, h⟩
    · obtain ⟨j, h1, h2⟩ := ny_find h0 k (by omega)
      exact ⟨j, by omega, h2⟩
theorem bef_find {y r : Int} (h0 : 0 ≤ r) : ∀ k : Nat, r < bef y ((k : Int) + 1) → ∃ j : Nat, 1 ≤ j ∧ j ≤ k ∧ bef y j ≤ r ∧ r < bef y ((j : Int) + 1)
  | 0, h => by
    rw [show ((0 : Nat) : Int) + 1 = 1 from rfl, bef_1] at h
    omega
  | k + 1, h => by
    by_cases hk : bef y ((k : Int) + 1) ≤ r
    · exact ⟨k + 1, by omega, by omega, hk, h⟩
    · obtain ⟨j, h1, h2, h3⟩ := bef_find (y := y) h0 k (by omega)
      exact ⟨j, h1, by omega, h3⟩
theorem parts_exist {day : Int} (h1 : 0 ≤ day) (h2 : day ≤ 109572) : ∃ y m d, PartsOf day y m d := by
  obtain ⟨k, hk, hl, hu⟩ := ny_find h1 300 (by rw [ny_300]; omega)
  rw [ny] at hu
  obtain ⟨j, j1, j2, j3, j4⟩ := bef_find (y := 1900 + (k : Int)) (r := day - ny k) (by omega) 12 (by rw [show ((12 : Nat) : Int) + 1 = 13 from rfl, bef_13]; omega)
  have e : ((1900 : Int) + (k : Int) - 1900).toNat = k := by omega
  exact ⟨1900 + k, j, day - ny k - bef (1900 + k) j + 1, by omega, by omega, by omega, by omega, by rw [e]; exact hl, by rw [e]; exact hu, by rw [e]; exact j3, by rw [e]; exact j4, by rw [e]⟩

theorem known_any (day : Int) (w : World) : Calls Try.prog 34 #[.int .i64 day] w fun e w' => e = .returned (.bool (decide (0 ≤ day) && decide (day ≤ 109572))) ∧ w = w' := by
  go_enter Try.func34, Try.ntmps34
  go_wp2
  all_goals go_ret
  all_goals exact ⟨ret_bool (by first | (simp_all; done) | (simp_all; omega)), rfl⟩

theorem ofR_bad {y m d : Int} (h : d < 1 ∨ ml y m < d) : ofR y m d = (0, 2) := by unfold ofR; rw [if_pos h]
theorem ml_range {y m : Int} (h : 1 ≤ ml y m) : (1900 ≤ y ∧ y ≤ 2199) ∧ 1 ≤ m ∧ m ≤ 12 := by
  unfold ml at h
  split at h
  · omega
  · omega

set_option maxHeartbeats 1000000 in
theorem pof_any (y m d : Int) (w : World) (_hd : I64 d) :
    Calls Try.prog 29 #[.int .i64 y, .int .i64 m, .int .i64 d] w fun e w' => e = .returned (.tuple #[.int .i64 (ofR y m d).1, .int .i64 (ofR y m d).2]) ∧ w = w' := by
  by_cases h1 : d < 1
  · have hr := ofR_bad (y := y) (m := m) (Or.inl h1)
    rw [hr]
    clear hr
    go_enter Try.func29, Try.ntmps29
    go_wp2
    go_ret2
    exact ⟨rfl, rfl⟩
  · have hl := plen_any y m w
    have hb := ml_bound y m
    by_cases h2 : ml y m < d
    · rw [ofR_bad (y := y) (m := m) (Or.inr h2)]
      generalize ml y m = L at hl hb h2
      have HL := hide hl
      obtain ⟨b1, b2⟩ := hb
      clear hl
      go_enter Try.func29, Try.ntmps29
      go_wp2_with fail
      refine HL.out.mono ?_
      rintro e w1 ⟨rfl, rfl⟩
      go_wp2
      go_ret2
      exact ⟨rfl, rfl⟩
    · obtain ⟨⟨y1, y2⟩, m1, m2⟩ := ml_range (y := y) (m := m) (by omega)
      have hr : ofR y m d = (ny (y - 1900).toNat + bef y m + d - 1, 0) := by unfold ofR; rw [if_neg (by omega)]
      rw [hr]
      have hny := newYear_any y w y1 (by omega)
      have hbe := before_any y m w (by omega) m1 m2
      have hnb := ny_bound (y - 1900).toNat
      have hbb : 0 ≤ bef y m ∧ bef y m ≤ 366 := by
        have e1 := bef_mono y1 y2 (m := 1) (m' := m) (by omega) m1 (by omega)
        have e2 := bef_mono y1 y2 (m := m) (m' := 13) m1 (by omega) (by omega)
        have e3 := lpn_01 y
        rw [bef_1] at e1
        rw [bef_13] at e2
        omega
      have ht : ((y - 1900).toNat : Int) ≤ 299 := by omega
      generalize ml y m = L at hl hb h2
      generalize ((y - 1900).toNat : Nat) = N at hny hnb ht
      generalize ny N = P at hny hnb
      generalize bef y m = Q at hbe hbb
      have HL := hide hl
      have HN := hide hny
      have HB := hide hbe
      obtain ⟨b1, b2⟩ := hb
      obtain ⟨b3, b4⟩ := hnb
      obtain ⟨b5, b6⟩ := hbb
      have b7 : 0 ≤ P := by omega
      have b8 : P ≤ 200000 := by omega
      have hdL : d ≤ L := by omega
      clear hl hny hbe hr b3 b4 h2 ht
      go_enter Try.func29, Try.ntmps29
      go_wp2_with fail
      refine HL.out.mono ?_
      rintro e w1 ⟨rfl, rfl⟩
      go_wp2_with fail
      refine HN.out.mono ?_
      rintro e w1 ⟨rfl, rfl⟩
      go_wp2_with fail
      refine HB.out.mono ?_
      rintro e w1 ⟨rfl, rfl⟩
      go_wp2
      go_ret2
      exact ⟨rfl, rfl⟩

theorem pparts_bad (day : Int) (w : World) (h : ¬ (0 ≤ day ∧ day ≤ 109572)) :
    Calls Try.prog 28 #[.int .i64 day] w fun e w' => e = .returned (.tuple #[.int .i64 0, .int .i64 0, .int .i64 0, .int .i64 2]) ∧ w = w' := by
  have hk := known_any day w
  rw [show (decide (0 ≤ day) && decide (day ≤ 109572)) = false by rw [Bool.and_eq_false_iff]; simp only [decide_eq_false_iff_not]; omega] at hk
  have HK := hide hk
  clear hk h
  go_enter Try.func28, Try.ntmps28
  go_wp2_with fail
  refine HK.out.mono ?_
  rintro e w1 ⟨rfl, rfl⟩
  go_wp2
  exact bodyPost_ret (v := .tuple #[.int .i64 0, .int .i64 0, .int .i64 0, .int .i64 2]) (by simp [results, Try.results28, go_sem]) rfl ⟨rfl, rfl⟩

set_option maxRecDepth 100000 in
set_option maxHeartbeats 1000000 in
theorem pparts_any (day y m d : Int) (w : World) (hp : PartsOf day y m d) (h1 : 0 ≤ day) (h2 : day ≤ 109572) :
    Calls Try.prog 28 #[.int .i64 day] w fun e w' => e = .returned (.tuple #[.int .i64 y, .int .i64 m, .int .i64 d, .int .i64 0]) ∧ w = w' := by
  have hk := known_any day w
  rw [show (decide (0 ≤ day) && decide (day ≤ 109572)) = true by simp [h1, h2]] at hk
  have HK := hide hk
  obtain ⟨Y, rfl⟩ : ∃ Y : Nat, y = 1900 + (Y : Int) := ⟨(y - 1900).toNat, by have := hp.y1; omega⟩
  obtain ⟨M, rfl⟩ : ∃ M : Nat, m = (M : Int) := ⟨m.toNat, by have := hp.m1; omega⟩
  obtain ⟨D, rfl⟩ : ∃ D : Nat, day = (D : Int) := ⟨day.toNat, by omega⟩
  have hY : Y ≤ 299 := by have := hp.y2; omega
  have hM1 : 1 ≤ M := by have := hp.m1; omega
  have hM2 : M ≤ 12 := by have := hp.m2; omega
  have hyl : ny Y ≤ D := by have := hp.yl; rwa [show ((1900 : Int) + (Y : Int) - 1900).toNat = Y from by omega] at this
  have hyu : (D : Int) < ny (Y + 1) := by have := hp.yu; rwa [show ((1900 : Int) + (Y : Int) - 1900).toNat = Y from by omega] at this
  have hml : bef (1900 + Y) M ≤ D - ny Y := by have := hp.ml; rwa [show ((1900 : Int) + (Y : Int) - 1900).toNat = Y from by omega] at this
  have hmu : D - ny Y < bef (1900 + Y) (M + 1) := by have := hp.mu; rwa [show ((1900 : Int) + (Y : Int) - 1900).toNat = Y from by omega] at this
  have hd : d = D - ny Y - bef (1900 + Y) M + 1 := by have := hp.d; rwa [show ((1900 : Int) + (Y : Int) - 1900).toNat = Y from by omega] at this
  have hst : D / 366 ≤ Y := by
    apply Classical.byContradiction
    intro hc
    have e1 := ny_mono (a := Y + 1) (b := D / 366) (by omega)
    have e2 := ny_bound (D / 366)
    omega
  have hbn := ny_bound Y
  have hbe : ∀ j : Int, 1 ≤ j → j ≤ 12 → 0 ≤ bef (1900 + Y) j ∧ bef (1900 + Y) j ≤ 366 := by
    intro j j1 j2
    have e1 := bef_mono (y := 1900 + Y) (by omega) (by omega) (m := 1) (m' := j) (by omega) j1 (by omega)
    have e2 := bef_mono (y := 1900 + Y) (by omega) (by omega) (m := j) (m' := 13) j1 (by omega) (by omega)
    have e3 := lpn_01 (1900 + Y)
    rw [bef_1] at e1
    rw [bef_13] at e2
    omega
  have HYL := hide hyl
  have HYU := hide hyu
  have HML := hide hml
  have HMU := hide hmu
  have HD := hide hd
  have HBN := hide hbn
  have HBE := hide hbe
  have HST := hide hst
  have hD : D ≤ 109572 := by omega
  clear hk hp hyl hyu hml hmu hd hbn hbe hst h2
  go_enter Try.func28, Try.ntmps28
  go_wp2_with fail
  refine HK.out.mono ?_
  rintro e w1 ⟨rfl, rfl⟩
  go_wp2
  go_loop [6] (fun y => ∃ k : Nat, k ≤ Y ∧ y = .int .i64 (1900 + (k : Int))) (fun y => Y - (intOf y - 1900).toNat)
  case atStart => exact ⟨D / 366, HST.out, by simp⟩
  case round =>
    obtain ⟨k, hk, rfl⟩ := hrel
    have hny := newYear_any (1900 + (k : Int) + 1) w (by omega) (by omega)
    rw [show ((1900 : Int) + (k : Int) + 1 - 1900).toNat = k + 1 from by omega] at hny
    by_cases hlt : k < Y
    · have hcmp : ny (k + 1) ≤ D := by have := ny_mono (a := k + 1) (b := Y) (by omega); have := HYL.out; omega
      generalize ny (k + 1) = P at hny hcmp
      have HN := hide hny
      clear hny
      go_wp2_with fail
      refine HN.out.mono ?_
      rintro e w1 ⟨rfl, rfl⟩
      go_wp2
      go_round
      case rel => exact ⟨k + 1, by omega, by go_num⟩
      case measure => simp [intOf]; omega
    · obtain rfl : k = Y := by omega
      have hcond : k = 299 ∨ (k < 299 ∧ (D : Int) < ny (k + 1)) := by have := HYU.out; omega
      have hn2 := newYear_any (1900 + (k : Int)) w (by omega) (by omega)
      rw [show ((1900 : Int) + (k : Int) - 1900).toNat = k from by omega] at hn2
      obtain ⟨b3, b4⟩ := HBN.out
      have hyl := HYL.out
      have hP : 0 ≤ ny k := by omega
      have hr0 : 0 ≤ (D : Int) - ny k := by omega
      have HLOW : Hid (∀ j : Nat, M < j → j ≤ 12 → (D : Int) - ny k < bef (1900 + k) j) := fun j j1 j2 => by
        have e1 := HMU.out
        have e2 := bef_mono (y := 1900 + k) (by omega) (by omega) (m := (M : Int) + 1) (m' := j) (by omega) (by omega) (by omega)
        omega
      generalize hPk : ny k = P at hn2 hP hr0 hyl HLOW HML HD b3 b4
      have hPD : P ≤ 109800 := by omega
      have HN2 := hide hn2
      clear hn2 hPk b3 b4 hr0
      clear hlt hk
      rcases hcond with h299 | ⟨h299, hcmp⟩
      · have hlt2 : ¬ 1900 + (k : Int) < 2199 := by omega
        clear h299
        go_wp2_with fail
        refine HN2.out.mono ?_
        rintro e w1 ⟨rfl, rfl⟩
        go_wp2
        go_loop [8] (fun j => ∃ m : Nat, M ≤ m ∧ m ≤ 12 ∧ j = .int .i64 m) (fun j => (intOf j).toNat - M)
        case atStart => exact ⟨12, hM2, by omega, rfl⟩
        case round =>
          obtain ⟨m, hm1, hm2, rfl⟩ := hrel
          have hbf := before_any (1900 + (k : Int)) m w (by omega) (by omega) (by omega)
          have hbb := HBE.out m (by omega) (by omega)
          obtain ⟨bb1, bb2⟩ := hbb
          by_cases hlm : M < m
          · have hgt := HLOW.out m hlm hm2
            generalize bef (1900 + (k : Int)) m = B at hbf bb1 bb2 hgt
            have HBF := hide hbf
            clear hbf
            go_wp2_with fail
            refine HBF.out.mono ?_
            rintro e w1 ⟨rfl, rfl⟩
            go_wp2
            go_round
            case rel => exact ⟨m - 1, by omega, by omega, by go_num⟩
            case measure => simp [intOf]; omega
          · obtain rfl : m = M := by omega
            have hml := HML.out
            have hdd := HD.out
            generalize bef (1900 + (k : Int)) m = B at hbf bb1 bb2 hml hdd
            have HBF := hide hbf
            have HDD := hide hdd
            clear hbf hdd
            go_wp2_with fail
            refine HBF.out.mono ?_
            rintro e w1 ⟨rfl, rfl⟩
            go_wp2_with fail
            refine HBF.out.mono ?_
            rintro e w1 ⟨rfl, rfl⟩
            go_wp2
            rw [HDD.out]
            exact bodyPost_ret (by simp [results, Try.results28, go_sem]) rfl ⟨rfl, rfl⟩
      · have hlt2 : 1900 + (k : Int) < 2199 := by omega
        clear h299
        generalize ny (k + 1) = P1 at hny hcmp
        have HN := hide hny
        clear hny
        go_wp2_with fail
        refine HN.out.mono ?_
        rintro e w1 ⟨rfl, rfl⟩
        go_wp2_with fail
        refine HN2.out.mono ?_
        rintro e w1 ⟨rfl, rfl⟩
        go_wp2
        go_loop [8] (fun j => ∃ m : Nat, M ≤ m ∧ m ≤ 12 ∧ j = .int .i64 m) (fun j => (intOf j).toNat - M)
        case atStart => exact ⟨12, hM2, by omega, rfl⟩
        case round =>
          obtain ⟨m, hm1, hm2, rfl⟩ := hrel
          have hbf := before_any (1900 + (k : Int)) m w (by omega) (by omega) (by omega)
          have hbb := HBE.out m (by omega) (by omega)
          obtain ⟨bb1, bb2⟩ := hbb
          by_cases hlm : M < m
          · have hgt := HLOW.out m hlm hm2
            generalize bef (1900 + (k : Int)) m = B at hbf bb1 bb2 hgt
            have HBF := hide hbf
            clear hbf
            go_wp2_with fail
            refine HBF.out.mono ?_
            rintro e w1 ⟨rfl, rfl⟩
            go_wp2
            go_round
            case rel => exact ⟨m - 1, by omega, by omega, by go_num⟩
            case measure => simp [intOf]; omega
          · obtain rfl : m = M := by omega
            have hml := HML.out
            have hdd := HD.out
            generalize bef (1900 + (k : Int)) m = B at hbf bb1 bb2 hml hdd
            have HBF := hide hbf
            have HDD := hide hdd
            clear hbf hdd
            go_wp2_with fail
            refine HBF.out.mono ?_
            rintro e w1 ⟨rfl, rfl⟩
            go_wp2_with fail
            refine HBF.out.mono ?_
            rintro e w1 ⟨rfl, rfl⟩
            go_wp2
            rw [HDD.out]
            exact bodyPost_ret (by simp [results, Try.results28, go_sem]) rfl ⟨rfl, rfl⟩
end Go.Proofs.Ytgijjgnacgpdfaa
