/- Walks: order.check and order.Right. -/
import Derived.Test.YtdbanekjjibpbaaOdA
namespace Go.Proofs.Ytdbanekjjibpbaa
open Go.RowKit

/-- The shares of an order read as its list. -/
abbrev OdS (w : World) (B : Nat) (x : Od) : Prop := Shs w B x.shA x.shn x.shc x.sh

set_option maxRecDepth 100000 in
set_option maxHeartbeats 4000000 in
theorem ocheck_any (x : Od) (w : World) (hs : OdS w w.heap.size x) :
    Calls Try.prog 41 #[odV x] w fun e w' => e = .returned (.int .i64 (chkO x)) ∧ Below w.heap.size w w' := by
  have hbw := (Below.refl w.heap.size w).alloc (Nat.le_refl _) (.cells (odC x) 37)
  have bx := Box.new w 37 (odC x)
  have S0 := hide (fun W (hW : Below w.heap.size w W) => sv_any x.shA x.shn x.shc x.sh W ((hs.below hW).more hW.size))
  have I1 := hide (fun W => oid_any x.id W)
  have I2 := hide (fun W => oid_any x.rcd W)
  have I3 := hide (fun W => oid_any x.ven W)
  have I4 := hide (fun W => owin_any x.cop 1 99 W)
  have I5 := hide (fun W => owin_any x.pri 1 1000000 W)
  have J1 := hide (fun W => owin_any x.rcv 0 x.cop W)
  have J2 := hide (fun W => owin_any x.bil 0 x.rcv W)
  have J3 := hide (fun W => owin_any x.paid 0 100000000 W)
  have K1 := hide (fun W => owin_any x.st 1 3 W)
  obtain ⟨r, hr⟩ : ∃ r, r = chkO x := ⟨_, rfl⟩
  rw [← hr]
  unfold chkO bad1 bad2 bad3 at hr
  generalize oidB x.id = q1 at I1 hr
  generalize oidB x.rcd = q2 at I2 hr
  generalize oidB x.ven = q3 at I3 hr
  generalize winB x.cop 1 99 = q4 at I4 hr
  generalize winB x.pri 1 1000000 = q5 at I5 hr
  generalize winB x.rcv 0 x.cop = p1 at J1 hr
  generalize winB x.bil 0 x.rcv = p2 at J2 hr
  generalize winB x.paid 0 100000000 = p3 at J3 hr
  generalize winB x.st 1 3 = s1 at K1 hr
  generalize sharesV x.sh = s2 at S0 hr
  have HR := hide hr
  have HBW := hide hbw
  obtain ⟨bx, d0, d1, d2, d3, d4, d5, d6, d7, d8, d9⟩ := od_box bx (Below.refl _ _)
  clear hr hbw hs
  unfold odV
  go_enter Try.func41, Try.ntmps41
  go_wp2_with (first | (go_at_call 48; with_reducible refine (I1.out _).mono ?_; rintro e w' ⟨rfl, rfl⟩) | (go_at_call 48; with_reducible refine (I2.out _).mono ?_; rintro e w' ⟨rfl, rfl⟩) | (go_at_call 48; with_reducible refine (I3.out _).mono ?_; rintro e w' ⟨rfl, rfl⟩) | (go_at_call 36; (first | with_reducible refine (I4.out _).mono ?_ | with_reducible refine (I5.out _).mono ?_ | with_reducible refine (J1.out _).mono ?_ | with_reducible refine (J2.out _).mono ?_ | with_reducible refine (J3.out _).mono ?_ | with_reducible refine (K1.out _).mono ?_); rintro e w' ⟨rfl, rfl⟩) | (go_at_call 49; refine (S0.out _ HBW.out).mono ?_; rintro e w' ⟨rfl, hb⟩; obtain ⟨bx, d0, d1, d2, d3, d4, d5, d6, d7, d8, d9⟩ := od_box bx (hb.mono (by simp)); have hbb := hide (HBW.out.trans (hb.mono (by simp))); clear hb))
  all_goals go_ret
  all_goals first
    | (refine ⟨ret_int ?_, HBW.out⟩; rw [HR.out]; clear HR; simp_all; done)
    | (refine ⟨ret_int ?_, hbb.out⟩; rw [HR.out]; clear HR; simp_all [bad4]; done)
end Go.Proofs.Ytdbanekjjibpbaa
