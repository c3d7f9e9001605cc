/- Walks: Months of the program. -/
import Derived.Test.YtgijjgnacgpdfaaDtB
namespace Go.Proofs.Ytgijjgnacgpdfaa
open Go.RowKit

theorem parts_day {day y m d : Int} (h : PartsOf day y m d) : 1 ≤ d ∧ d ≤ 31 := by
  have h1 := h.ml
  have h2 := h.mu
  have h3 := h.d
  have h4 := bef_step h.y1 h.y2 h.m1 h.m2
  have h5 := ml_bound y m
  omega

set_option maxHeartbeats 1000000 in
theorem pmonths_any (day y m d n : Int) (w : World) (hp : PartsOf day y m d) (h1 : 0 ≤ day) (h2 : day ≤ 109572) (n1 : 1 ≤ n) (n2 : n ≤ 1200) :
    Calls Try.prog 25 #[.int .i64 day, .int .i64 n] w fun e w' => e = .returned (.tuple #[.int .i64 (monR y m d n).1, .int .i64 (monR y m d n).2]) ∧ w = w' := by
  have hparts := pparts_any day y m d w hp h1 h2
  obtain ⟨d1, d2⟩ := parts_day hp
  have y1 := hp.y1
  have y2 := hp.y2
  have m1 := hp.m1
  have m2 := hp.m2
  have HP := hide hparts
  clear hparts hp
  by_cases hk : 3600 ≤ (y - 1900) * 12 + m - 1 + n
  · have hr : monR y m d n = (0, 2) := by unfold monR; rw [if_pos (Or.inr hk)]
    rw [hr]
    clear hr
    go_enter Try.func25, Try.ntmps25
    go_wp2_with fail
    refine HP.out.mono ?_
    rintro e w1 ⟨rfl, rfl⟩
    go_wp2
    go_ret2
    exact ⟨rfl, rfl⟩
  · have hr : monR y m d n = ofR (1900 + ((y - 1900) * 12 + m - 1 + n) / 12) (((y - 1900) * 12 + m - 1 + n) % 12 + 1) (min d (ml (1900 + ((y - 1900) * 12 + m - 1 + n) / 12) (((y - 1900) * 12 + m - 1 + n) % 12 + 1))) := by
      unfold monR; rw [if_neg (by omega)]
    rw [hr]
    have hl := plen_any (1900 + ((y - 1900) * 12 + m - 1 + n) / 12) (((y - 1900) * 12 + m - 1 + n) % 12 + 1) w
    have hb := ml_bound (1900 + ((y - 1900) * 12 + m - 1 + n) / 12) (((y - 1900) * 12 + m - 1 + n) % 12 + 1)
    generalize ml (1900 + ((y - 1900) * 12 + m - 1 + n) / 12) (((y - 1900) * 12 + m - 1 + n) % 12 + 1) = L at hl hb
    obtain ⟨b1, b2⟩ := hb
    have hof := pof_any (1900 + ((y - 1900) * 12 + m - 1 + n) / 12) (((y - 1900) * 12 + m - 1 + n) % 12 + 1) (min d L) w (by unfold I64; omega)
    have HL := hide hl
    have hk0 : 0 ≤ (y - 1900) * 12 + m - 1 + n := by omega
    clear hr hl
    by_cases hld : L < d
    · rw [Int.min_eq_right (by omega)] at hof ⊢
      have HO := hide hof
      clear hof
      go_enter Try.func25, Try.ntmps25
      go_wp2_with fail
      refine HP.out.mono ?_
      rintro e w1 ⟨rfl, rfl⟩
      go_wp2_with fail
      refine HL.out.mono ?_
      rintro e w1 ⟨rfl, rfl⟩
      go_wp2_with fail
      refine HO.out.mono ?_
      rintro e w1 ⟨rfl, rfl⟩
      go_wp2
      go_ret2
      exact ⟨rfl, rfl⟩
    · rw [Int.min_eq_left (by omega)] at hof ⊢
      have HO := hide hof
      clear hof
      go_enter Try.func25, Try.ntmps25
      go_wp2_with fail
      refine HP.out.mono ?_
      rintro e w1 ⟨rfl, rfl⟩
      go_wp2_with fail
      refine HL.out.mono ?_
      rintro e w1 ⟨rfl, rfl⟩
      go_wp2_with fail
      refine HO.out.mono ?_
      rintro e w1 ⟨rfl, rfl⟩
      go_wp2
      go_ret2
      exact ⟨rfl, rfl⟩
end Go.Proofs.Ytgijjgnacgpdfaa
