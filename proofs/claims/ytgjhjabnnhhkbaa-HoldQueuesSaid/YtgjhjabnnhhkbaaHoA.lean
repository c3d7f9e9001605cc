/- Walks: within, isDay, check; the reference's id, day, shape. -/
import Derived.Test.YtgjhjabnnhhkbaaHoPlain
import Derived.Deep.QuietTactic
import Derived.BigQuiet
namespace Go.Proofs.Ytgjhjabnnhhkbaa
open Go.RowKit

theorem hwin_any (n lo hi : Int) (w : World) : Calls Try.prog 46 #[.int .i64 n, .int .i64 lo, .int .i64 hi] w fun e w' => e = .returned (.bool (winB n lo hi)) ∧ w = w' := by
  go_enter Try.func46, Try.ntmps46
  by_cases h : lo ≤ n
  · go_wp2
    go_ret
    exact ⟨ret_bool (by simp [winB, h]), rfl⟩
  · go_wp2
    go_ret
    exact ⟨ret_bool (by simp [winB]; omega), rfl⟩
theorem hday_any (n : Int) (w : World) : Calls Try.prog 55 #[.int .i64 n] w fun e w' => e = .returned (.bool (dayB n)) ∧ w = w' := by
  go_enter Try.func55, Try.ntmps55
  go_wp2_with (go_at_call 46; refine (hwin_any _ _ _ _).mono ?_; rintro e w' ⟨rfl, rfl⟩)
  go_ret
  exact ⟨rfl, rfl⟩
theorem rid32_any (n : Int) (w : World) : Calls Try.prog 50 #[.int .i64 n] w fun e w' => e = .returned (.bool (idB n)) ∧ w = w' := by
  go_enter Try.func50, Try.ntmps50
  by_cases h : 1 ≤ n
  · go_wp2
    go_ret
    exact ⟨ret_bool (by simp [idB, winB, h]), rfl⟩
  · go_wp2
    go_ret
    exact ⟨ret_bool (by simp [idB, winB]; omega), rfl⟩
theorem rday32_any (n : Int) (w : World) : Calls Try.prog 51 #[.int .i64 n] w fun e w' => e = .returned (.bool (dayB n)) ∧ w = w' := by
  go_enter Try.func51, Try.ntmps51
  by_cases h : 0 ≤ n
  · go_wp2
    go_ret
    exact ⟨ret_bool (by simp [dayB, winB, h]), rfl⟩
  · go_wp2
    go_ret
    exact ⟨ret_bool (by simp [dayB, winB]; omega), rfl⟩

set_option maxRecDepth 100000 in
set_option maxHeartbeats 4000000 in
theorem hcheck_any (x : Ho) (w : World) : Calls Try.prog 38 #[hoV x] w fun e w' => e = .returned (.int .i64 (chkH x)) ∧ Below w.heap.size w w' := by
  have hbw := (Below.refl w.heap.size w).alloc (Nat.le_refl _) (.cells (hoC x) 47)
  have bx := Box.new w 47 (hoC x)
  have I1 := hide (fun W => hwin_any x.id 1 99999 W)
  have I2 := hide (fun W => hwin_any x.pat 1 9999 W)
  have I3 := hide (fun W => hwin_any x.rcd 1 9999 W)
  have I4 := hide (fun W => hwin_any x.itm 0 9999 W)
  have J1 := hide (fun W => hwin_any x.pk 1 4 W)
  have J2 := hide (fun W => hday_any x.plc W)
  have J3 := hide (fun W => hwin_any x.got 0 9999 W)
  have J4 := hide (fun W => hday_any x.unt W)
  have J5 := hide (fun W => hday_any x.slp W)
  have J6 := hide (fun W => hwin_any x.rnk 0 9 W)
  have K1 := hide (fun W => hwin_any x.st 1 3 W)
  obtain ⟨r, hr⟩ : ∃ r, r = chkH x := ⟨_, rfl⟩
  rw [← hr]
  unfold chkH badH1 badH2 badH3 at hr
  generalize winB x.id 1 99999 = q1 at I1 hr
  generalize winB x.pat 1 9999 = q2 at I2 hr
  generalize winB x.rcd 1 9999 = q3 at I3 hr
  generalize winB x.itm 0 9999 = q4 at I4 hr
  generalize winB x.pk 1 4 = p1 at J1 hr
  generalize dayB x.plc = p2 at J2 hr
  generalize winB x.got 0 9999 = p3 at J3 hr
  generalize dayB x.unt = p4 at J4 hr
  generalize dayB x.slp = p5 at J5 hr
  generalize winB x.rnk 0 9 = p6 at J6 hr
  generalize winB x.st 1 3 = s1 at K1 hr
  have HR := hide hr
  have HBW := hide hbw
  obtain ⟨bx, d0, d1, d2, d3, d4, d5, d6, d7, d8, d9, d10⟩ := ho_box bx (Below.refl _ _)
  clear hr hbw
  unfold hoV
  go_enter Try.func38, Try.ntmps38
  go_wp2_with (first
    | (go_at_call 46; (first | with_reducible refine (I1.out _).mono ?_ | with_reducible refine (I2.out _).mono ?_ | with_reducible refine (I3.out _).mono ?_ | with_reducible refine (I4.out _).mono ?_ | with_reducible refine (J1.out _).mono ?_ | with_reducible refine (J3.out _).mono ?_ | with_reducible refine (J6.out _).mono ?_ | with_reducible refine (K1.out _).mono ?_); rintro e w' ⟨rfl, rfl⟩)
    | (go_at_call 55; (first | with_reducible refine (J2.out _).mono ?_ | with_reducible refine (J4.out _).mono ?_ | with_reducible refine (J5.out _).mono ?_); rintro e w' ⟨rfl, rfl⟩))
  all_goals go_ret
  all_goals first
    | (refine ⟨ret_int ?_, HBW.out⟩; rw [HR.out]; clear HR; simp_all; done)
    | (refine ⟨ret_int ?_, HBW.out⟩; rw [HR.out]; clear HR; simp_all [badH4]; done)

end Go.Proofs.Ytgjhjabnnhhkbaa
