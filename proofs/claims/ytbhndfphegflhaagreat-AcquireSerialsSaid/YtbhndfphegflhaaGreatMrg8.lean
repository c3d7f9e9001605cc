/- Texts laid together by merge.py: DtA. -/
import Derived.Test.YtbhndfphegflhaaGreatMrg0
import Derived.Test.YtbhndfphegflhaaGreatProg
set_option linter.unusedSimpArgs false
set_option linter.unusedVariables false
/- Walks: leap, Length, before, newYear and their likes in the reference. -/
namespace Go.Proofs.YtbhndfphegflhaaGreat
open Go.RowKit

theorem leap_any (y : Int) (w : World) (hy : 0 ≤ y) :
    Calls Tryz.prog 213 #[.int .i64 y] w fun e w' => e = .returned (.bool (lp y)) ∧ w = w' := by
  go_enter Tryz.func213, Tryz.ntmps213
  go_wp2
  all_goals go_ret
  all_goals refine ⟨ret_bool ?_, rfl⟩
  all_goals unfold lp
  all_goals simp_all
  all_goals (by_cases h : y % 400 = 0 <;> simp [h])

theorem tab_index (m : Int) (h1 : 1 ≤ m) (h2 : m ≤ 12) (w : World) : (Instr.index 195 (.agg #[.int .i64 31, .int .i64 28, .int .i64 31, .int .i64 30, .int .i64 31, .int .i64 30, .int .i64 31, .int .i64 31, .int .i64 30, .int .i64 31, .int .i64 30, .int .i64 31]) (.int .i64 (m - 1))).run Tryz.prog w = .ok (.int .i64 (tab m)) w := by
  rcases twelve h1 h2 with rfl | rfl | rfl | rfl | rfl | rfl | rfl | rfl | rfl | rfl | rfl | rfl <;> kernel_rfl
theorem bef_index (m : Int) (h1 : 1 ≤ m) (h2 : m ≤ 12) (w : World) : (Instr.index 195 (.agg #[.int .i64 0, .int .i64 31, .int .i64 59, .int .i64 90, .int .i64 120, .int .i64 151, .int .i64 181, .int .i64 212, .int .i64 243, .int .i64 273, .int .i64 304, .int .i64 334]) (.int .i64 (m - 1))).run Tryz.prog w = .ok (.int .i64 (bef0 m)) w := by
  rcases twelve h1 h2 with rfl | rfl | rfl | rfl | rfl | rfl | rfl | rfl | rfl | rfl | rfl | rfl <;> kernel_rfl
theorem tab_cell (m : Int) (h1 : 1 ≤ m) (h2 : m ≤ 12) (w : World) (t : TypeId) : (w.alloc (.cells #[.int .i64 31, .int .i64 28, .int .i64 31, .int .i64 30, .int .i64 31, .int .i64 30, .int .i64 31, .int .i64 31, .int .i64 30, .int .i64 31, .int .i64 30, .int .i64 31] t)).cell? ⟨w.heap.size, (m - 1).toNat, none⟩ = some (.int .i64 (tab m)) := by
  rw [(Box.new w t #[.int .i64 31, .int .i64 28, .int .i64 31, .int .i64 30, .int .i64 31, .int .i64 30, .int .i64 31, .int .i64 31, .int .i64 30, .int .i64 31, .int .i64 30, .int .i64 31]).cell]
  rcases twelve h1 h2 with rfl | rfl | rfl | rfl | rfl | rfl | rfl | rfl | rfl | rfl | rfl | rfl <;> rfl

set_option maxHeartbeats 1000000 in
theorem plen_any (y m : Int) (w : World) :
    Calls Tryz.prog 212 #[.int .i64 y, .int .i64 m] w fun e w' => e = .returned (.int .i64 (ml y m)) ∧ w = w' := by
  by_cases hr : y < 1900 ∨ 2199 < y ∨ m < 1 ∨ 12 < m
  · have hm : ml y m = 0 := by unfold ml; rw [if_pos hr]
    have HM := hide hm
    clear hm
    by_cases h1 : y < 1900
    · go_enter Tryz.func212, Tryz.ntmps212
      go_wp2
      go_ret
      exact ⟨ret_int HM.out.symm, rfl⟩
    · by_cases h2 : 2199 < y
      · go_enter Tryz.func212, Tryz.ntmps212
        go_wp2
        go_ret
        exact ⟨ret_int HM.out.symm, rfl⟩
      · by_cases h3 : m < 1
        · go_enter Tryz.func212, Tryz.ntmps212
          go_wp2
          go_ret
          exact ⟨ret_int HM.out.symm, rfl⟩
        · have h4 : 12 < m := by omega
          go_enter Tryz.func212, Tryz.ntmps212
          go_wp2
          go_ret
          exact ⟨ret_int HM.out.symm, rfl⟩
  · have hy1 : 1900 ≤ y := by omega
    have hy2 : y ≤ 2199 := by omega
    have h1 : 1 ≤ m := by omega
    have h2 : m ≤ 12 := by omega
    have hm : ml y m = if m = 2 ∧ lp y = true then 29 else tab m := by unfold ml; rw [if_neg hr]
    have HM := hide hm
    clear hr hm
    have hidx := tab_index m h1 h2
    by_cases hm2 : m = 2
    · subst hm2
      have hlp := leap_any y w (by omega)
      simp only [show tab 2 = 28 from rfl] at HM hidx
      have hidx2 : ∀ w, (Instr.index 195 (.agg #[.int .i64 31, .int .i64 28, .int .i64 31, .int .i64 30, .int .i64 31, .int .i64 30, .int .i64 31, .int .i64 31, .int .i64 30, .int .i64 31, .int .i64 30, .int .i64 31]) (.int .i64 1)).run Tryz.prog w = .ok (.int .i64 28) w := fun w => hidx w
      clear hidx
      generalize lp y = q at hlp HM
      have HLP := hide hlp
      clear hlp
      cases q with
      | true =>
        go_enter Tryz.func212, Tryz.ntmps212
        go_wp2_with fail
        refine HLP.out.mono ?_
        rintro e w1 ⟨rfl, rfl⟩
        go_wp2
        go_ret
        exact ⟨ret_int (by rw [HM.out]; rfl), rfl⟩
      | false =>
        go_enter Tryz.func212, Tryz.ntmps212
        go_wp2_with fail
        refine HLP.out.mono ?_
        rintro e w1 ⟨rfl, rfl⟩
        go_wp2
        go_ret
        exact ⟨ret_int (by rw [HM.out]; rfl), rfl⟩
    · have hm2' : (m == 2) = false := by simpa using hm2
      have HM2 := hide hm2
      clear hm2
      go_enter Tryz.func212, Tryz.ntmps212
      go_wp2
      go_ret
      exact ⟨ret_int (by rw [HM.out, if_neg (fun h => HM2.out h.1)]), rfl⟩

set_option maxHeartbeats 1000000 in
theorem rlen_any (y m : Int) (w : World) :
    Calls Tryz.prog 196 #[.int .i64 y, .int .i64 m] w fun e w' => e = .returned (.int .i64 (ml y m)) ∧ Below w.heap.size w w' := by
  by_cases hr : y < 1900 ∨ 2199 < y ∨ m < 1 ∨ 12 < m
  · have hm : ml y m = 0 := by unfold ml; rw [if_pos hr]
    have HM := hide hm
    clear hm
    by_cases h1 : y < 1900
    · go_enter Tryz.func196, Tryz.ntmps196
      go_wp2
      go_ret
      exact ⟨ret_int HM.out.symm, Below.refl _ _⟩
    · by_cases h2 : 2199 < y
      · go_enter Tryz.func196, Tryz.ntmps196
        go_wp2
        go_ret
        exact ⟨ret_int HM.out.symm, Below.refl _ _⟩
      · by_cases h3 : m < 1
        · go_enter Tryz.func196, Tryz.ntmps196
          go_wp2
          go_ret
          exact ⟨ret_int HM.out.symm, Below.refl _ _⟩
        · have h4 : 12 < m := by omega
          go_enter Tryz.func196, Tryz.ntmps196
          go_wp2
          go_ret
          exact ⟨ret_int HM.out.symm, Below.refl _ _⟩
  · have hy1 : 1900 ≤ y := by omega
    have hy2 : y ≤ 2199 := by omega
    have h1 : 1 ≤ m := by omega
    have h2 : m ≤ 12 := by omega
    have hm : ml y m = if m = 2 ∧ lp y = true then 29 else tab m := by unfold ml; rw [if_neg hr]
    have HM := hide hm
    clear hr hm
    have hidx := tab_cell m h1 h2
    by_cases hm2 : m = 2
    · subst hm2
      have hlp : lp y = (decide (y % 4 = 0) && decide (y ≠ 1900) && decide (y ≠ 2100)) := by
        rw [Bool.eq_iff_iff]; simp [lp]; omega
      rw [hlp] at HM
      simp only [show tab 2 = 28 from rfl] at HM hidx
      have hidx2 : ∀ (w : World) (t : TypeId), (w.alloc (.cells #[.int .i64 31, .int .i64 28, .int .i64 31, .int .i64 30, .int .i64 31, .int .i64 30, .int .i64 31, .int .i64 31, .int .i64 30, .int .i64 31, .int .i64 30, .int .i64 31] t)).cell? ⟨w.heap.size, 1, none⟩ = some (.int .i64 28) := fun w t => hidx w t
      clear hidx hlp
      go_enter Tryz.func196, Tryz.ntmps196
      go_wp2
      all_goals go_ret
      all_goals first
        | (refine ⟨ret_int ?_, Below.refl _ _⟩; rw [HM.out]; simp_all; done)
        | (refine ⟨ret_int ?_, (Below.refl _ _).alloc (Nat.le_refl _) _⟩; rw [HM.out]; simp_all; done)
    · obtain ⟨M, rfl⟩ : ∃ M : Nat, m = (M : Int) := ⟨m.toNat, by omega⟩
      have hidx2 : ∀ (w : World) (t : TypeId), (w.alloc (.cells #[.int .i64 31, .int .i64 28, .int .i64 31, .int .i64 30, .int .i64 31, .int .i64 30, .int .i64 31, .int .i64 31, .int .i64 30, .int .i64 31, .int .i64 30, .int .i64 31] t)).cell? ⟨w.heap.size, M - 1, none⟩ = some (.int .i64 (tab M)) := fun w t => by
        have := hidx w t
        rwa [show ((M : Int) - 1).toNat = M - 1 from by omega] at this
      have hm2' : ((M : Int) == 2) = false := by simpa using hm2
      have HM2 := hide hm2
      clear hm2 hidx
      go_enter Tryz.func196, Tryz.ntmps196
      go_wp2
      go_ret
      exact ⟨ret_int (by rw [HM.out, if_neg (fun h => HM2.out h.1)]), (Below.refl _ _).alloc (Nat.le_refl _) _⟩

theorem bef0_bound (m : Int) (h1 : 1 ≤ m) (h2 : m ≤ 12) : 0 ≤ bef0 m ∧ bef0 m ≤ 365 := by
  rcases twelve h1 h2 with rfl | rfl | rfl | rfl | rfl | rfl | rfl | rfl | rfl | rfl | rfl | rfl <;> exact ⟨by decide, by decide⟩

set_option maxHeartbeats 1000000 in
theorem before_any (y m : Int) (w : World) (hy : 0 ≤ y) (h1 : 1 ≤ m) (h2 : m ≤ 12) :
    Calls Tryz.prog 208 #[.int .i64 y, .int .i64 m] w fun e w' => e = .returned (.int .i64 (bef y m)) ∧ w = w' := by
  have hidx := bef_index m h1 h2
  have hbd := bef0_bound m h1 h2
  obtain ⟨p1, p2⟩ := hbd
  by_cases h3 : 2 < m
  · have hlp := leap_any y w hy
    have hb : bef y m = bef0 m + lpn y := by unfold bef; rw [if_pos h3]
    unfold lpn at hb
    generalize lp y = q at hlp hb
    have HLP := hide hlp
    have HB := hide hb
    clear hlp hb
    cases q with
    | true =>
      go_enter Tryz.func208, Tryz.ntmps208
      go_wp2_with fail
      refine HLP.out.mono ?_
      rintro e w1 ⟨rfl, rfl⟩
      go_wp2
      go_ret
      exact ⟨ret_int (by rw [HB.out]; rfl), rfl⟩
    | false =>
      go_enter Tryz.func208, Tryz.ntmps208
      go_wp2_with fail
      refine HLP.out.mono ?_
      rintro e w1 ⟨rfl, rfl⟩
      go_wp2
      go_ret
      exact ⟨ret_int (by rw [HB.out]; simp), rfl⟩
  · have hb : bef y m = bef0 m := by unfold bef; rw [if_neg h3]; simp
    have HB := hide hb
    clear hb
    go_enter Tryz.func208, Tryz.ntmps208
    go_wp2
    go_ret
    exact ⟨ret_int HB.out.symm, rfl⟩

/-- How many leap years lie before the year 1900 + k. -/
def nl (k : Nat) : Int := ny k - 365 * (k : Int)
theorem nl_step (k : Nat) : nl (k + 1) = nl k + lpn (1900 + (k : Int)) := by unfold nl; rw [ny]; omega
theorem nl_bound (k : Nat) : 0 ≤ nl k ∧ nl k ≤ k := by have := ny_bound k; unfold nl; omega

set_option maxHeartbeats 1000000 in
theorem newYear_any (y : Int) (w : World) (h1 : 1900 ≤ y) (h2 : y ≤ 2200) :
    Calls Tryz.prog 207 #[.int .i64 y] w fun e w' => e = .returned (.int .i64 (ny (y - 1900).toNat)) ∧ w = w' := by
  obtain ⟨N, rfl⟩ : ∃ N : Nat, y = 1900 + (N : Int) := ⟨(y - 1900).toNat, by omega⟩
  rw [show ((1900 : Int) + (N : Int) - 1900).toNat = N from by omega]
  have hN : N ≤ 300 := by omega
  go_enter Tryz.func207, Tryz.ntmps207
  go_wp2
  go_loop [4, 5] (fun d i => ∃ k : Nat, k ≤ N ∧ i = .int .i64 (1900 + (k : Int)) ∧ d = .int .i64 ((N : Int) * 365 + nl k)) (fun _ i => N - (intOf i - 1900).toNat)
  case atStart => exact ⟨0, by omega, rfl, by simp [nl, ny]; omega⟩
  case round =>
    obtain ⟨k, hk, rfl, rfl⟩ := hrel
    have hb := nl_bound k
    obtain ⟨b1, b2⟩ := hb
    by_cases hlt : k < N
    · have hlp := leap_any (1900 + (k : Int)) w (by omega)
      have hst := nl_step k
      unfold lpn at hst
      generalize lp (1900 + (k : Int)) = q at hlp hst
      have HLP := hide hlp
      have HST := hide hst
      clear hlp hst
      cases q with
      | true =>
        go_wp2_with fail
        refine HLP.out.mono ?_
        rintro e w1 ⟨rfl, rfl⟩
        go_wp2
        go_round
        case rel => exact ⟨k + 1, by omega, by go_num, by rw [HST.out]; simp; omega⟩
        case measure => simp [intOf]; omega
      | false =>
        go_wp2_with fail
        refine HLP.out.mono ?_
        rintro e w1 ⟨rfl, rfl⟩
        go_wp2
        go_round
        case rel => exact ⟨k + 1, by omega, by go_num, by rw [HST.out]; simp⟩
        case measure => simp [intOf]; omega
    · obtain rfl : k = N := by omega
      go_wp2
      go_ret
      exact ⟨ret_int (by unfold nl; omega), rfl⟩
end Go.Proofs.YtbhndfphegflhaaGreat
