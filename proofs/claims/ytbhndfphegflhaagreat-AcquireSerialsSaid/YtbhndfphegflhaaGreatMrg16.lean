/- Texts laid together by merge.py: OdD. -/
import Derived.Test.YtbhndfphegflhaaGreatMrg4
set_option linter.unusedSimpArgs false
set_option linter.unusedVariables false
/- Walks: libraryref39.shape of an order whose numbers are out of range. -/
namespace Go.Proofs.YtbhndfphegflhaaGreat
open Go.RowKit

set_option maxRecDepth 100000 in
set_option maxHeartbeats 4000000 in
theorem shape_bad (x : Od) (w : World) (hA : (bad1 x || bad2 x) = true) :
    Calls Tryz.prog 114 #[odV x] w fun e w' => e = .returned (.int .i64 (chkO x)) ∧ Below w.heap.size w w' := by
  have hbw := (Below.refl w.heap.size w).alloc (Nat.le_refl _) (.cells (odC x) 35)
  have bx := Box.new w 35 (odC x)
  have HBW := hide hbw
  have HBX := hide bx
  have I1 := hide (fun W => rid39_any x.id W)
  have I2 := hide (fun W => rid39_any x.rcd W)
  have I3 := hide (fun W => rid39_any x.ven W)
  have J3 := hide (fun W => r04right_any x.paid W)
  obtain ⟨r, hr⟩ : ∃ r, r = chkO x := ⟨_, rfl⟩
  rw [← hr]
  obtain ⟨bx, d0, d1, d2, d3, d4, d5, d6, d7, d8, d9⟩ := od_box bx (Below.refl _ _)
  clear hbw bx
  have hr2 : r = 2 := by
    rw [hr]; unfold chkO
    cases h1 : bad1 x with
    | true => rfl
    | false => rw [h1, Bool.false_or] at hA; rw [hA]; rfl
  unfold bad1 bad2 at hA
  generalize oidB x.id = q1 at I1 hA
  generalize oidB x.rcd = q2 at I2 hA
  generalize oidB x.ven = q3 at I3 hA
  generalize hp3 : winB x.paid 0 100000000 = p3 at J3 hA
  have HA := hide hA
  have HR := hide hr2
  subst hr2
  clear hr hA hp3
  cases q1 with
  | false =>
    unfold odV
    go_enter Tryz.func114, Tryz.ntmps114
    go_wp2_with (first | (go_at_call 162; (first | with_reducible refine (I1.out _).mono ?_ | with_reducible refine (I2.out _).mono ?_ | with_reducible refine (I3.out _).mono ?_); rintro e w' ⟨rfl, rfl⟩) | (go_at_call 163; with_reducible refine (J3.out _).mono ?_; rintro e w' ⟨rfl, rfl⟩))
    go_ret
    exact ⟨rfl, HBW.out⟩
  | true =>
    cases q2 with
    | false =>
      unfold odV
      go_enter Tryz.func114, Tryz.ntmps114
      go_wp2_with (first | (go_at_call 162; (first | with_reducible refine (I1.out _).mono ?_ | with_reducible refine (I2.out _).mono ?_ | with_reducible refine (I3.out _).mono ?_); rintro e w' ⟨rfl, rfl⟩) | (go_at_call 163; with_reducible refine (J3.out _).mono ?_; rintro e w' ⟨rfl, rfl⟩))
      go_ret
      exact ⟨rfl, HBW.out⟩
    | true =>
      cases q3 with
      | false =>
        unfold odV
        go_enter Tryz.func114, Tryz.ntmps114
        go_wp2_with (first | (go_at_call 162; (first | with_reducible refine (I1.out _).mono ?_ | with_reducible refine (I2.out _).mono ?_ | with_reducible refine (I3.out _).mono ?_); rintro e w' ⟨rfl, rfl⟩) | (go_at_call 163; with_reducible refine (J3.out _).mono ?_; rintro e w' ⟨rfl, rfl⟩))
        go_ret
        exact ⟨rfl, HBW.out⟩
      | true =>
        by_cases t3 : x.cop < 1
        · unfold odV
          go_enter Tryz.func114, Tryz.ntmps114
          go_wp2_with (first | (go_at_call 162; (first | with_reducible refine (I1.out _).mono ?_ | with_reducible refine (I2.out _).mono ?_ | with_reducible refine (I3.out _).mono ?_); rintro e w' ⟨rfl, rfl⟩) | (go_at_call 163; with_reducible refine (J3.out _).mono ?_; rintro e w' ⟨rfl, rfl⟩))
          go_ret
          exact ⟨rfl, HBW.out⟩
        · skip
          by_cases t4 : 99 < x.cop
          · unfold odV
            go_enter Tryz.func114, Tryz.ntmps114
            go_wp2_with (first | (go_at_call 162; (first | with_reducible refine (I1.out _).mono ?_ | with_reducible refine (I2.out _).mono ?_ | with_reducible refine (I3.out _).mono ?_); rintro e w' ⟨rfl, rfl⟩) | (go_at_call 163; with_reducible refine (J3.out _).mono ?_; rintro e w' ⟨rfl, rfl⟩))
            go_ret
            exact ⟨rfl, HBW.out⟩
          · skip
            by_cases t5 : x.pri < 1
            · unfold odV
              go_enter Tryz.func114, Tryz.ntmps114
              go_wp2_with (first | (go_at_call 162; (first | with_reducible refine (I1.out _).mono ?_ | with_reducible refine (I2.out _).mono ?_ | with_reducible refine (I3.out _).mono ?_); rintro e w' ⟨rfl, rfl⟩) | (go_at_call 163; with_reducible refine (J3.out _).mono ?_; rintro e w' ⟨rfl, rfl⟩))
              go_ret
              exact ⟨rfl, HBW.out⟩
            · skip
              by_cases t6 : 1000000 < x.pri
              · unfold odV
                go_enter Tryz.func114, Tryz.ntmps114
                go_wp2_with (first | (go_at_call 162; (first | with_reducible refine (I1.out _).mono ?_ | with_reducible refine (I2.out _).mono ?_ | with_reducible refine (I3.out _).mono ?_); rintro e w' ⟨rfl, rfl⟩) | (go_at_call 163; with_reducible refine (J3.out _).mono ?_; rintro e w' ⟨rfl, rfl⟩))
                go_ret
                exact ⟨rfl, HBW.out⟩
              · skip
                by_cases t7 : x.rcv < 0
                · unfold odV
                  go_enter Tryz.func114, Tryz.ntmps114
                  go_wp2_with (first | (go_at_call 162; (first | with_reducible refine (I1.out _).mono ?_ | with_reducible refine (I2.out _).mono ?_ | with_reducible refine (I3.out _).mono ?_); rintro e w' ⟨rfl, rfl⟩) | (go_at_call 163; with_reducible refine (J3.out _).mono ?_; rintro e w' ⟨rfl, rfl⟩))
                  go_ret
                  exact ⟨rfl, HBW.out⟩
                · skip
                  by_cases t8 : x.cop < x.rcv
                  · unfold odV
                    go_enter Tryz.func114, Tryz.ntmps114
                    go_wp2_with (first | (go_at_call 162; (first | with_reducible refine (I1.out _).mono ?_ | with_reducible refine (I2.out _).mono ?_ | with_reducible refine (I3.out _).mono ?_); rintro e w' ⟨rfl, rfl⟩) | (go_at_call 163; with_reducible refine (J3.out _).mono ?_; rintro e w' ⟨rfl, rfl⟩))
                    go_ret
                    exact ⟨rfl, HBW.out⟩
                  · skip
                    by_cases t9 : x.bil < 0
                    · unfold odV
                      go_enter Tryz.func114, Tryz.ntmps114
                      go_wp2_with (first | (go_at_call 162; (first | with_reducible refine (I1.out _).mono ?_ | with_reducible refine (I2.out _).mono ?_ | with_reducible refine (I3.out _).mono ?_); rintro e w' ⟨rfl, rfl⟩) | (go_at_call 163; with_reducible refine (J3.out _).mono ?_; rintro e w' ⟨rfl, rfl⟩))
                      go_ret
                      exact ⟨rfl, HBW.out⟩
                    · skip
                      by_cases t10 : x.rcv < x.bil
                      · unfold odV
                        go_enter Tryz.func114, Tryz.ntmps114
                        go_wp2_with (first | (go_at_call 162; (first | with_reducible refine (I1.out _).mono ?_ | with_reducible refine (I2.out _).mono ?_ | with_reducible refine (I3.out _).mono ?_); rintro e w' ⟨rfl, rfl⟩) | (go_at_call 163; with_reducible refine (J3.out _).mono ?_; rintro e w' ⟨rfl, rfl⟩))
                        go_ret
                        exact ⟨rfl, HBW.out⟩
                      · skip
                        cases p3 with
                        | false =>
                          unfold odV
                          go_enter Tryz.func114, Tryz.ntmps114
                          go_wp2_with (first | (go_at_call 162; (first | with_reducible refine (I1.out _).mono ?_ | with_reducible refine (I2.out _).mono ?_ | with_reducible refine (I3.out _).mono ?_); rintro e w' ⟨rfl, rfl⟩) | (go_at_call 163; with_reducible refine (J3.out _).mono ?_; rintro e w' ⟨rfl, rfl⟩))
                          go_ret
                          exact ⟨rfl, HBW.out⟩
                        | true =>
                          exfalso
                          have h := HA.out
                          simp only [winB, Bool.not_true, Bool.false_or, Bool.or_false, Bool.or_eq_true, Bool.not_eq_true', Bool.and_eq_false_iff, decide_eq_false_iff_not] at h
                          omega
end Go.Proofs.YtbhndfphegflhaaGreat
