/- Walks: the reference's Months. -/
import Derived.Test.YtgijjgnacgpdfaaDtE
namespace Go.Proofs.Ytgijjgnacgpdfaa
open Go.RowKit

set_option maxHeartbeats 1000000 in
theorem rmonths_any (day y m d n : Int) (w : World) (hp : PartsOf day y m d) (h1 : 0 ≤ day) (h2 : day ≤ 109572) (n1 : 1 ≤ n) (n2 : n ≤ 1200) :
    Calls Try.prog 26 #[.int .i64 day, .int .i64 n] w fun e w' => e = .returned (.tuple #[.int .i64 (monR y m d n).1, .int .i64 (monR y m d n).2]) ∧ Below w.heap.size w w' := by
  have hparts := rparts_any day y m d w hp h1 h2
  obtain ⟨d1, d2⟩ := parts_day hp
  have y1 := hp.y1
  have y2 := hp.y2
  have m1 := hp.m1
  have m2 := hp.m2
  have HP := hide hparts
  clear hparts hp
  by_cases hk : 3600 ≤ (y - 1900) * 12 + m - 1 + n
  · have hr : monR y m d n = (0, 2) := by unfold monR; rw [if_pos (Or.inr hk)]
    have hk2 : 26399 < 12 * y + m - 1 + n := by omega
    rw [hr]
    clear hr hk
    go_enter Try.func26, Try.ntmps26
    go_wp2_with fail
    refine HP.out.mono ?_
    rintro e w1 ⟨rfl, hb⟩
    go_wp2
    go_ret2
    exact ⟨rfl, hb⟩
  · have hr : monR y m d n = ofR ((12 * y + m - 1 + n) / 12) ((12 * y + m - 1 + n) % 12 + 1) (min d (ml ((12 * y + m - 1 + n) / 12) ((12 * y + m - 1 + n) % 12 + 1))) := by
      unfold monR
      rw [if_neg (by omega), show 1900 + ((y - 1900) * 12 + m - 1 + n) / 12 = (12 * y + m - 1 + n) / 12 from by omega, show ((y - 1900) * 12 + m - 1 + n) % 12 = (12 * y + m - 1 + n) % 12 from by omega]
    rw [hr]
    have hl := fun W => rlen_any ((12 * y + m - 1 + n) / 12) ((12 * y + m - 1 + n) % 12 + 1) W
    have hb := ml_bound ((12 * y + m - 1 + n) / 12) ((12 * y + m - 1 + n) % 12 + 1)
    generalize ml ((12 * y + m - 1 + n) / 12) ((12 * y + m - 1 + n) % 12 + 1) = L at hl hb
    obtain ⟨b1, b2⟩ := hb
    have hof := fun W => rof_any ((12 * y + m - 1 + n) / 12) ((12 * y + m - 1 + n) % 12 + 1) (min d L) W (by unfold I64; omega)
    have HL := hide hl
    have hk0 : 22800 ≤ 12 * y + m - 1 + n := by omega
    have hk2 : 12 * y + m - 1 + n ≤ 26399 := by omega
    clear hr hl hk
    by_cases hld : L < d
    · rw [Int.min_eq_right (by omega)] at hof ⊢
      have HO := hide hof
      clear hof
      go_enter Try.func26, Try.ntmps26
      go_wp2_with fail
      refine HP.out.mono ?_
      rintro e w1 ⟨rfl, hb⟩
      have B1 := hide hb
      clear hb
      go_wp2_with fail
      refine (HL.out _).mono ?_
      rintro e w2 ⟨rfl, hb⟩
      have B2 := hide (B1.out.trans (hb.mono B1.out.size))
      clear hb
      go_wp2_with fail
      refine (HL.out _).mono ?_
      rintro e w3 ⟨rfl, hb⟩
      have B3 := hide (B2.out.trans (hb.mono B2.out.size))
      clear hb
      go_wp2_with fail
      refine (HO.out _).mono ?_
      rintro e w4 ⟨rfl, hb⟩
      have B4 := hide (B3.out.trans (hb.mono B3.out.size))
      clear hb
      go_wp2
      go_ret2
      exact ⟨rfl, B4.out⟩
    · rw [Int.min_eq_left (by omega)] at hof ⊢
      have HO := hide hof
      clear hof
      go_enter Try.func26, Try.ntmps26
      go_wp2_with fail
      refine HP.out.mono ?_
      rintro e w1 ⟨rfl, hb⟩
      have B1 := hide hb
      clear hb
      go_wp2_with fail
      refine (HL.out _).mono ?_
      rintro e w2 ⟨rfl, hb⟩
      have B2 := hide (B1.out.trans (hb.mono B1.out.size))
      clear hb
      go_wp2_with fail
      refine (HO.out _).mono ?_
      rintro e w4 ⟨rfl, hb⟩
      have B4 := hide (B2.out.trans (hb.mono B2.out.size))
      clear hb
      go_wp2
      go_ret2
      exact ⟨rfl, B4.out⟩
end Go.Proofs.Ytgijjgnacgpdfaa
