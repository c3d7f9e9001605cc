/- Walks: the reference's shape. Printed by gen_ho_shape.py. -/
import Derived.Test.YtgjhjabnnhhkbaaHoA
import Derived.Test.YtgjhjabnnhhkbaaGrn
import Derived.Deep.Cut
import Derived.Deep.CutRange
import Derived.Deep.DeepCutAuto
namespace Go.Proofs.Ytgjhjabnnhhkbaa
open Go.RowKit

theorem chkH_bad {x : Ho} (h : badR x = true) : chkH x = 2 := by rw [chkH_R, if_pos h]
set_option maxRecDepth 100000 in
set_option maxHeartbeats 16000000 in
theorem hshape_any (x : Ho) (w : World) : Calls Try.prog 42 #[hoV x] w fun e w' => e = .returned (.int .i64 (chkH x)) ∧ Below w.heap.size w w' := by
  have HBW := hide ((Below.refl w.heap.size w).alloc (Nat.le_refl _) (.cells (hoC x) 47))
  obtain ⟨_, d0, d1, d2, d3, d4, d5, d6, d7, d8, d9, d10⟩ := ho_box (Box.new w 47 (hoC x)) (Below.refl _ _)
  have I2 := hide (fun W => rid32_any x.pat W)
  have I3 := hide (fun W => rid32_any x.rcd W)
  have I4 := hide (fun W => rid32_any x.itm W)
  have J2 := hide (fun W => rday32_any x.plc W)
  have J3 := hide (fun W => rid32_any x.got W)
  have J4 := hide (fun W => rday32_any x.unt W)
  have J5 := hide (fun W => rday32_any x.slp W)
  have f0 := Grn.cell d0
  have f1 := Grn.cell d1
  have f2 := Grn.cell d2
  have f3 := Grn.cell d3
  have f4 := Grn.cell d4
  have f5 := Grn.cell d5
  have f6 := Grn.cell d6
  have f7 := Grn.cell d7
  have f8 := Grn.cell d8
  have f9 := Grn.cell d9
  have f10 := Grn.cell d10
  by_cases c0 : x.id < 1
  · have b0 : decide (x.id < 1) = true := decide_eq_true c0
    rw [chkH_bad (by unfold badR; simp [b0])]
    unfold hoV
    go_enter Try.func42, Try.ntmps42
    go_upto_region 1 with fail
    simp only [List.append]
    refine wp_plain_grn ?_
    repeat (go_big_quiet_step (first
      | (go_at_call 50; (first | with_reducible exact Calls_grn_same (I2.out _) | with_reducible exact Calls_grn_same (I3.out _) | with_reducible exact Calls_grn_same (I4.out _) | with_reducible exact Calls_grn_same (J3.out _)))
      | (go_at_call 51; (first | with_reducible exact Calls_grn_same (J2.out _) | with_reducible exact Calls_grn_same (J4.out _) | with_reducible exact Calls_grn_same (J5.out _)))))
    refine wpQuiet_nil ?_
    rintro _ ⟨p, rfl⟩
    have BP := hide (HBW.out.trans (p.h.mono (by simp)))
    go_wp2
    go_ret
    exact ⟨rfl, BP.out⟩
  · have b0 : decide (x.id < 1) = false := decide_eq_false c0
    clear c0
    by_cases c1 : 99999 < x.id
    · have b1 : decide (99999 < x.id) = true := decide_eq_true c1
      rw [chkH_bad (by unfold badR; simp [b1])]
      unfold hoV
      go_enter Try.func42, Try.ntmps42
      go_upto_region 1 with fail
      simp only [List.append]
      refine wp_plain_grn ?_
      repeat (go_big_quiet_step (first
        | (go_at_call 50; (first | with_reducible exact Calls_grn_same (I2.out _) | with_reducible exact Calls_grn_same (I3.out _) | with_reducible exact Calls_grn_same (I4.out _) | with_reducible exact Calls_grn_same (J3.out _)))
        | (go_at_call 51; (first | with_reducible exact Calls_grn_same (J2.out _) | with_reducible exact Calls_grn_same (J4.out _) | with_reducible exact Calls_grn_same (J5.out _)))))
      refine wpQuiet_nil ?_
      rintro _ ⟨p, rfl⟩
      have BP := hide (HBW.out.trans (p.h.mono (by simp)))
      go_wp2
      go_ret
      exact ⟨rfl, BP.out⟩
    · have b1 : decide (99999 < x.id) = false := decide_eq_false c1
      clear c1
      cases b2 : idB x.pat with
      | false =>
        rw [b2] at I2
        rw [chkH_bad (by unfold badR; simp [b2])]
        unfold hoV
        go_enter Try.func42, Try.ntmps42
        go_upto_region 1 with fail
        simp only [List.append]
        refine wp_plain_grn ?_
        repeat (go_big_quiet_step (first
          | (go_at_call 50; (first | with_reducible exact Calls_grn_same (I2.out _) | with_reducible exact Calls_grn_same (I3.out _) | with_reducible exact Calls_grn_same (I4.out _) | with_reducible exact Calls_grn_same (J3.out _)))
          | (go_at_call 51; (first | with_reducible exact Calls_grn_same (J2.out _) | with_reducible exact Calls_grn_same (J4.out _) | with_reducible exact Calls_grn_same (J5.out _)))))
        refine wpQuiet_nil ?_
        rintro _ ⟨p, rfl⟩
        have BP := hide (HBW.out.trans (p.h.mono (by simp)))
        go_wp2
        go_ret
        exact ⟨rfl, BP.out⟩
      | true =>
        rw [b2] at I2
        cases b3 : idB x.rcd with
        | false =>
          rw [b3] at I3
          rw [chkH_bad (by unfold badR; simp [b3])]
          unfold hoV
          go_enter Try.func42, Try.ntmps42
          go_upto_region 1 with fail
          simp only [List.append]
          refine wp_plain_grn ?_
          repeat (go_big_quiet_step (first
            | (go_at_call 50; (first | with_reducible exact Calls_grn_same (I2.out _) | with_reducible exact Calls_grn_same (I3.out _) | with_reducible exact Calls_grn_same (I4.out _) | with_reducible exact Calls_grn_same (J3.out _)))
            | (go_at_call 51; (first | with_reducible exact Calls_grn_same (J2.out _) | with_reducible exact Calls_grn_same (J4.out _) | with_reducible exact Calls_grn_same (J5.out _)))))
          refine wpQuiet_nil ?_
          rintro _ ⟨p, rfl⟩
          have BP := hide (HBW.out.trans (p.h.mono (by simp)))
          go_wp2
          go_ret
          exact ⟨rfl, BP.out⟩
        | true =>
          rw [b3] at I3
          cases z4 : (x.itm != 0) with
          | false =>
            by_cases c5 : x.pk < 1
            · have b5 : decide (x.pk < 1) = true := decide_eq_true c5
              rw [chkH_bad (by unfold badR; simp [b5])]
              unfold hoV
              go_enter Try.func42, Try.ntmps42
              go_upto_region 1 with fail
              simp only [List.append]
              refine wp_plain_grn ?_
              repeat (go_big_quiet_step (first
                | (go_at_call 50; (first | with_reducible exact Calls_grn_same (I2.out _) | with_reducible exact Calls_grn_same (I3.out _) | with_reducible exact Calls_grn_same (I4.out _) | with_reducible exact Calls_grn_same (J3.out _)))
                | (go_at_call 51; (first | with_reducible exact Calls_grn_same (J2.out _) | with_reducible exact Calls_grn_same (J4.out _) | with_reducible exact Calls_grn_same (J5.out _)))))
              refine wpQuiet_nil ?_
              rintro _ ⟨p, rfl⟩
              have BP := hide (HBW.out.trans (p.h.mono (by simp)))
              go_wp2
              go_ret
              exact ⟨rfl, BP.out⟩
            · have b5 : decide (x.pk < 1) = false := decide_eq_false c5
              clear c5
              by_cases c6 : 4 < x.pk
              · have b6 : decide (4 < x.pk) = true := decide_eq_true c6
                rw [chkH_bad (by unfold badR; simp [b6])]
                unfold hoV
                go_enter Try.func42, Try.ntmps42
                go_upto_region 1 with fail
                simp only [List.append]
                refine wp_plain_grn ?_
                repeat (go_big_quiet_step (first
                  | (go_at_call 50; (first | with_reducible exact Calls_grn_same (I2.out _) | with_reducible exact Calls_grn_same (I3.out _) | with_reducible exact Calls_grn_same (I4.out _) | with_reducible exact Calls_grn_same (J3.out _)))
                  | (go_at_call 51; (first | with_reducible exact Calls_grn_same (J2.out _) | with_reducible exact Calls_grn_same (J4.out _) | with_reducible exact Calls_grn_same (J5.out _)))))
                refine wpQuiet_nil ?_
                rintro _ ⟨p, rfl⟩
                have BP := hide (HBW.out.trans (p.h.mono (by simp)))
                go_wp2
                go_ret
                exact ⟨rfl, BP.out⟩
              · have b6 : decide (4 < x.pk) = false := decide_eq_false c6
                clear c6
                cases b7 : dayB x.plc with
                | false =>
                  rw [b7] at J2
                  rw [chkH_bad (by unfold badR; simp [b7])]
                  unfold hoV
                  go_enter Try.func42, Try.ntmps42
                  go_upto_region 1 with fail
                  simp only [List.append]
                  refine wp_plain_grn ?_
                  repeat (go_big_quiet_step (first
                    | (go_at_call 50; (first | with_reducible exact Calls_grn_same (I2.out _) | with_reducible exact Calls_grn_same (I3.out _) | with_reducible exact Calls_grn_same (I4.out _) | with_reducible exact Calls_grn_same (J3.out _)))
                    | (go_at_call 51; (first | with_reducible exact Calls_grn_same (J2.out _) | with_reducible exact Calls_grn_same (J4.out _) | with_reducible exact Calls_grn_same (J5.out _)))))
                  refine wpQuiet_nil ?_
                  rintro _ ⟨p, rfl⟩
                  have BP := hide (HBW.out.trans (p.h.mono (by simp)))
                  go_wp2
                  go_ret
                  exact ⟨rfl, BP.out⟩
                | true =>
                  rw [b7] at J2
                  cases z8 : (x.got != 0) with
                  | false =>
                    cases b9 : dayB x.unt with
                    | false =>
                      rw [b9] at J4
                      rw [chkH_bad (by unfold badR; simp [b9])]
                      unfold hoV
                      go_enter Try.func42, Try.ntmps42
                      go_upto_region 1 with fail
                      simp only [List.append]
                      refine wp_plain_grn ?_
                      repeat (go_big_quiet_step (first
                        | (go_at_call 50; (first | with_reducible exact Calls_grn_same (I2.out _) | with_reducible exact Calls_grn_same (I3.out _) | with_reducible exact Calls_grn_same (I4.out _) | with_reducible exact Calls_grn_same (J3.out _)))
                        | (go_at_call 51; (first | with_reducible exact Calls_grn_same (J2.out _) | with_reducible exact Calls_grn_same (J4.out _) | with_reducible exact Calls_grn_same (J5.out _)))))
                      refine wpQuiet_nil ?_
                      rintro _ ⟨p, rfl⟩
                      have BP := hide (HBW.out.trans (p.h.mono (by simp)))
                      go_wp2
                      go_ret
                      exact ⟨rfl, BP.out⟩
                    | true =>
                      rw [b9] at J4
                      cases b10 : dayB x.slp with
                      | false =>
                        rw [b10] at J5
                        rw [chkH_bad (by unfold badR; simp [b10])]
                        unfold hoV
                        go_enter Try.func42, Try.ntmps42
                        go_upto_region 1 with fail
                        simp only [List.append]
                        refine wp_plain_grn ?_
                        repeat (go_big_quiet_step (first
                          | (go_at_call 50; (first | with_reducible exact Calls_grn_same (I2.out _) | with_reducible exact Calls_grn_same (I3.out _) | with_reducible exact Calls_grn_same (I4.out _) | with_reducible exact Calls_grn_same (J3.out _)))
                          | (go_at_call 51; (first | with_reducible exact Calls_grn_same (J2.out _) | with_reducible exact Calls_grn_same (J4.out _) | with_reducible exact Calls_grn_same (J5.out _)))))
                        refine wpQuiet_nil ?_
                        rintro _ ⟨p, rfl⟩
                        have BP := hide (HBW.out.trans (p.h.mono (by simp)))
                        go_wp2
                        go_ret
                        exact ⟨rfl, BP.out⟩
                      | true =>
                        rw [b10] at J5
                        by_cases c11 : x.rnk < 0
                        · have b11 : decide (x.rnk < 0) = true := decide_eq_true c11
                          rw [chkH_bad (by unfold badR; simp [b11])]
                          unfold hoV
                          go_enter Try.func42, Try.ntmps42
                          go_upto_region 1 with fail
                          simp only [List.append]
                          refine wp_plain_grn ?_
                          repeat (go_big_quiet_step (first
                            | (go_at_call 50; (first | with_reducible exact Calls_grn_same (I2.out _) | with_reducible exact Calls_grn_same (I3.out _) | with_reducible exact Calls_grn_same (I4.out _) | with_reducible exact Calls_grn_same (J3.out _)))
                            | (go_at_call 51; (first | with_reducible exact Calls_grn_same (J2.out _) | with_reducible exact Calls_grn_same (J4.out _) | with_reducible exact Calls_grn_same (J5.out _)))))
                          refine wpQuiet_nil ?_
                          rintro _ ⟨p, rfl⟩
                          have BP := hide (HBW.out.trans (p.h.mono (by simp)))
                          go_wp2
                          go_ret
                          exact ⟨rfl, BP.out⟩
                        · have b11 : decide (x.rnk < 0) = false := decide_eq_false c11
                          clear c11
                          by_cases c12 : 9 < x.rnk
                          · have b12 : decide (9 < x.rnk) = true := decide_eq_true c12
                            rw [chkH_bad (by unfold badR; simp [b12])]
                            unfold hoV
                            go_enter Try.func42, Try.ntmps42
                            go_upto_region 1 with fail
                            simp only [List.append]
                            refine wp_plain_grn ?_
                            repeat (go_big_quiet_step (first
                              | (go_at_call 50; (first | with_reducible exact Calls_grn_same (I2.out _) | with_reducible exact Calls_grn_same (I3.out _) | with_reducible exact Calls_grn_same (I4.out _) | with_reducible exact Calls_grn_same (J3.out _)))
                              | (go_at_call 51; (first | with_reducible exact Calls_grn_same (J2.out _) | with_reducible exact Calls_grn_same (J4.out _) | with_reducible exact Calls_grn_same (J5.out _)))))
                            refine wpQuiet_nil ?_
                            rintro _ ⟨p, rfl⟩
                            have BP := hide (HBW.out.trans (p.h.mono (by simp)))
                            go_wp2
                            go_ret
                            exact ⟨rfl, BP.out⟩
                          · have b12 : decide (9 < x.rnk) = false := decide_eq_false c12
                            clear c12
                            have hb : badR x = false := by unfold badR; simp [b0, b1, b2, b3, z4, b5, b6, b7, z8, b9, b10, b11, b12]
                            rw [chkH_R, hb, if_neg (by decide)]
                            obtain ⟨r2, hr2⟩ : ∃ r, r = (if (decide (x.st < 1) || decide (3 < x.st)) = true then 1 else if badH4 x = true then 12 else 0 : Int) := ⟨_, rfl⟩
                            rw [← hr2]
                            have HR := hide hr2
                            clear hr2 hb
                            unfold hoV
                            go_enter Try.func42, Try.ntmps42
                            go_upto_region 1 with fail
                            simp only [List.append]
                            refine wp_plain_grn ?_
                            repeat (go_big_quiet_step (first
                              | (go_at_call 50; (first | with_reducible exact Calls_grn_same (I2.out _) | with_reducible exact Calls_grn_same (I3.out _) | with_reducible exact Calls_grn_same (I4.out _) | with_reducible exact Calls_grn_same (J3.out _)))
                              | (go_at_call 51; (first | with_reducible exact Calls_grn_same (J2.out _) | with_reducible exact Calls_grn_same (J4.out _) | with_reducible exact Calls_grn_same (J5.out _)))))
                            refine wpQuiet_nil ?_
                            rintro _ ⟨p, rfl⟩
                            have BP := hide (HBW.out.trans (p.h.mono (by simp)))
                            have k6 := f6 p
                            have k7 := f7 p
                            have k8 := f8 p
                            go_wp2
                            all_goals go_ret
                            all_goals first
                              | (refine ⟨ret_int ?_, BP.out⟩; rw [HR.out]; clear HR; simp_all; done)
                              | (refine ⟨ret_int ?_, BP.out⟩; rw [HR.out]; clear HR; simp_all [badH4]; done)
                  | true =>
                    cases b8 : idB x.got with
                    | false =>
                      rw [b8] at J3
                      rw [chkH_bad (by unfold badR; simp [z8, b8])]
                      unfold hoV
                      go_enter Try.func42, Try.ntmps42
                      go_upto_region 1 with fail
                      simp only [List.append]
                      refine wp_plain_grn ?_
                      repeat (go_big_quiet_step (first
                        | (go_at_call 50; (first | with_reducible exact Calls_grn_same (I2.out _) | with_reducible exact Calls_grn_same (I3.out _) | with_reducible exact Calls_grn_same (I4.out _) | with_reducible exact Calls_grn_same (J3.out _)))
                        | (go_at_call 51; (first | with_reducible exact Calls_grn_same (J2.out _) | with_reducible exact Calls_grn_same (J4.out _) | with_reducible exact Calls_grn_same (J5.out _)))))
                      refine wpQuiet_nil ?_
                      rintro _ ⟨p, rfl⟩
                      have BP := hide (HBW.out.trans (p.h.mono (by simp)))
                      go_wp2
                      go_ret
                      exact ⟨rfl, BP.out⟩
                    | true =>
                      rw [b8] at J3
                      cases b9 : dayB x.unt with
                      | false =>
                        rw [b9] at J4
                        rw [chkH_bad (by unfold badR; simp [b9])]
                        unfold hoV
                        go_enter Try.func42, Try.ntmps42
                        go_upto_region 1 with fail
                        simp only [List.append]
                        refine wp_plain_grn ?_
                        repeat (go_big_quiet_step (first
                          | (go_at_call 50; (first | with_reducible exact Calls_grn_same (I2.out _) | with_reducible exact Calls_grn_same (I3.out _) | with_reducible exact Calls_grn_same (I4.out _) | with_reducible exact Calls_grn_same (J3.out _)))
                          | (go_at_call 51; (first | with_reducible exact Calls_grn_same (J2.out _) | with_reducible exact Calls_grn_same (J4.out _) | with_reducible exact Calls_grn_same (J5.out _)))))
                        refine wpQuiet_nil ?_
                        rintro _ ⟨p, rfl⟩
                        have BP := hide (HBW.out.trans (p.h.mono (by simp)))
                        go_wp2
                        go_ret
                        exact ⟨rfl, BP.out⟩
                      | true =>
                        rw [b9] at J4
                        cases b10 : dayB x.slp with
                        | false =>
                          rw [b10] at J5
                          rw [chkH_bad (by unfold badR; simp [b10])]
                          unfold hoV
                          go_enter Try.func42, Try.ntmps42
                          go_upto_region 1 with fail
                          simp only [List.append]
                          refine wp_plain_grn ?_
                          repeat (go_big_quiet_step (first
                            | (go_at_call 50; (first | with_reducible exact Calls_grn_same (I2.out _) | with_reducible exact Calls_grn_same (I3.out _) | with_reducible exact Calls_grn_same (I4.out _) | with_reducible exact Calls_grn_same (J3.out _)))
                            | (go_at_call 51; (first | with_reducible exact Calls_grn_same (J2.out _) | with_reducible exact Calls_grn_same (J4.out _) | with_reducible exact Calls_grn_same (J5.out _)))))
                          refine wpQuiet_nil ?_
                          rintro _ ⟨p, rfl⟩
                          have BP := hide (HBW.out.trans (p.h.mono (by simp)))
                          go_wp2
                          go_ret
                          exact ⟨rfl, BP.out⟩
                        | true =>
                          rw [b10] at J5
                          by_cases c11 : x.rnk < 0
                          · have b11 : decide (x.rnk < 0) = true := decide_eq_true c11
                            rw [chkH_bad (by unfold badR; simp [b11])]
                            unfold hoV
                            go_enter Try.func42, Try.ntmps42
                            go_upto_region 1 with fail
                            simp only [List.append]
                            refine wp_plain_grn ?_
                            repeat (go_big_quiet_step (first
                              | (go_at_call 50; (first | with_reducible exact Calls_grn_same (I2.out _) | with_reducible exact Calls_grn_same (I3.out _) | with_reducible exact Calls_grn_same (I4.out _) | with_reducible exact Calls_grn_same (J3.out _)))
                              | (go_at_call 51; (first | with_reducible exact Calls_grn_same (J2.out _) | with_reducible exact Calls_grn_same (J4.out _) | with_reducible exact Calls_grn_same (J5.out _)))))
                            refine wpQuiet_nil ?_
                            rintro _ ⟨p, rfl⟩
                            have BP := hide (HBW.out.trans (p.h.mono (by simp)))
                            go_wp2
                            go_ret
                            exact ⟨rfl, BP.out⟩
                          · have b11 : decide (x.rnk < 0) = false := decide_eq_false c11
                            clear c11
                            by_cases c12 : 9 < x.rnk
                            · have b12 : decide (9 < x.rnk) = true := decide_eq_true c12
                              rw [chkH_bad (by unfold badR; simp [b12])]
                              unfold hoV
                              go_enter Try.func42, Try.ntmps42
                              go_upto_region 1 with fail
                              simp only [List.append]
                              refine wp_plain_grn ?_
                              repeat (go_big_quiet_step (first
                                | (go_at_call 50; (first | with_reducible exact Calls_grn_same (I2.out _) | with_reducible exact Calls_grn_same (I3.out _) | with_reducible exact Calls_grn_same (I4.out _) | with_reducible exact Calls_grn_same (J3.out _)))
                                | (go_at_call 51; (first | with_reducible exact Calls_grn_same (J2.out _) | with_reducible exact Calls_grn_same (J4.out _) | with_reducible exact Calls_grn_same (J5.out _)))))
                              refine wpQuiet_nil ?_
                              rintro _ ⟨p, rfl⟩
                              have BP := hide (HBW.out.trans (p.h.mono (by simp)))
                              go_wp2
                              go_ret
                              exact ⟨rfl, BP.out⟩
                            · have b12 : decide (9 < x.rnk) = false := decide_eq_false c12
                              clear c12
                              have hb : badR x = false := by unfold badR; simp [b0, b1, b2, b3, z4, b5, b6, b7, z8, b8, b9, b10, b11, b12]
                              rw [chkH_R, hb, if_neg (by decide)]
                              obtain ⟨r2, hr2⟩ : ∃ r, r = (if (decide (x.st < 1) || decide (3 < x.st)) = true then 1 else if badH4 x = true then 12 else 0 : Int) := ⟨_, rfl⟩
                              rw [← hr2]
                              have HR := hide hr2
                              clear hr2 hb
                              unfold hoV
                              go_enter Try.func42, Try.ntmps42
                              go_upto_region 1 with fail
                              simp only [List.append]
                              refine wp_plain_grn ?_
                              repeat (go_big_quiet_step (first
                                | (go_at_call 50; (first | with_reducible exact Calls_grn_same (I2.out _) | with_reducible exact Calls_grn_same (I3.out _) | with_reducible exact Calls_grn_same (I4.out _) | with_reducible exact Calls_grn_same (J3.out _)))
                                | (go_at_call 51; (first | with_reducible exact Calls_grn_same (J2.out _) | with_reducible exact Calls_grn_same (J4.out _) | with_reducible exact Calls_grn_same (J5.out _)))))
                              refine wpQuiet_nil ?_
                              rintro _ ⟨p, rfl⟩
                              have BP := hide (HBW.out.trans (p.h.mono (by simp)))
                              have k6 := f6 p
                              have k7 := f7 p
                              have k8 := f8 p
                              go_wp2
                              all_goals go_ret
                              all_goals first
                                | (refine ⟨ret_int ?_, BP.out⟩; rw [HR.out]; clear HR; simp_all; done)
                                | (refine ⟨ret_int ?_, BP.out⟩; rw [HR.out]; clear HR; simp_all [badH4]; done)
          | true =>
            cases b4 : idB x.itm with
            | false =>
              rw [b4] at I4
              rw [chkH_bad (by unfold badR; simp [z4, b4])]
              unfold hoV
              go_enter Try.func42, Try.ntmps42
              go_upto_region 1 with fail
              simp only [List.append]
              refine wp_plain_grn ?_
              repeat (go_big_quiet_step (first
                | (go_at_call 50; (first | with_reducible exact Calls_grn_same (I2.out _) | with_reducible exact Calls_grn_same (I3.out _) | with_reducible exact Calls_grn_same (I4.out _) | with_reducible exact Calls_grn_same (J3.out _)))
                | (go_at_call 51; (first | with_reducible exact Calls_grn_same (J2.out _) | with_reducible exact Calls_grn_same (J4.out _) | with_reducible exact Calls_grn_same (J5.out _)))))
              refine wpQuiet_nil ?_
              rintro _ ⟨p, rfl⟩
              have BP := hide (HBW.out.trans (p.h.mono (by simp)))
              go_wp2
              go_ret
              exact ⟨rfl, BP.out⟩
            | true =>
              rw [b4] at I4
              by_cases c5 : x.pk < 1
              · have b5 : decide (x.pk < 1) = true := decide_eq_true c5
                rw [chkH_bad (by unfold badR; simp [b5])]
                unfold hoV
                go_enter Try.func42, Try.ntmps42
                go_upto_region 1 with fail
                simp only [List.append]
                refine wp_plain_grn ?_
                repeat (go_big_quiet_step (first
                  | (go_at_call 50; (first | with_reducible exact Calls_grn_same (I2.out _) | with_reducible exact Calls_grn_same (I3.out _) | with_reducible exact Calls_grn_same (I4.out _) | with_reducible exact Calls_grn_same (J3.out _)))
                  | (go_at_call 51; (first | with_reducible exact Calls_grn_same (J2.out _) | with_reducible exact Calls_grn_same (J4.out _) | with_reducible exact Calls_grn_same (J5.out _)))))
                refine wpQuiet_nil ?_
                rintro _ ⟨p, rfl⟩
                have BP := hide (HBW.out.trans (p.h.mono (by simp)))
                go_wp2
                go_ret
                exact ⟨rfl, BP.out⟩
              · have b5 : decide (x.pk < 1) = false := decide_eq_false c5
                clear c5
                by_cases c6 : 4 < x.pk
                · have b6 : decide (4 < x.pk) = true := decide_eq_true c6
                  rw [chkH_bad (by unfold badR; simp [b6])]
                  unfold hoV
                  go_enter Try.func42, Try.ntmps42
                  go_upto_region 1 with fail
                  simp only [List.append]
                  refine wp_plain_grn ?_
                  repeat (go_big_quiet_step (first
                    | (go_at_call 50; (first | with_reducible exact Calls_grn_same (I2.out _) | with_reducible exact Calls_grn_same (I3.out _) | with_reducible exact Calls_grn_same (I4.out _) | with_reducible exact Calls_grn_same (J3.out _)))
                    | (go_at_call 51; (first | with_reducible exact Calls_grn_same (J2.out _) | with_reducible exact Calls_grn_same (J4.out _) | with_reducible exact Calls_grn_same (J5.out _)))))
                  refine wpQuiet_nil ?_
                  rintro _ ⟨p, rfl⟩
                  have BP := hide (HBW.out.trans (p.h.mono (by simp)))
                  go_wp2
                  go_ret
                  exact ⟨rfl, BP.out⟩
                · have b6 : decide (4 < x.pk) = false := decide_eq_false c6
                  clear c6
                  cases b7 : dayB x.plc with
                  | false =>
                    rw [b7] at J2
                    rw [chkH_bad (by unfold badR; simp [b7])]
                    unfold hoV
                    go_enter Try.func42, Try.ntmps42
                    go_upto_region 1 with fail
                    simp only [List.append]
                    refine wp_plain_grn ?_
                    repeat (go_big_quiet_step (first
                      | (go_at_call 50; (first | with_reducible exact Calls_grn_same (I2.out _) | with_reducible exact Calls_grn_same (I3.out _) | with_reducible exact Calls_grn_same (I4.out _) | with_reducible exact Calls_grn_same (J3.out _)))
                      | (go_at_call 51; (first | with_reducible exact Calls_grn_same (J2.out _) | with_reducible exact Calls_grn_same (J4.out _) | with_reducible exact Calls_grn_same (J5.out _)))))
                    refine wpQuiet_nil ?_
                    rintro _ ⟨p, rfl⟩
                    have BP := hide (HBW.out.trans (p.h.mono (by simp)))
                    go_wp2
                    go_ret
                    exact ⟨rfl, BP.out⟩
                  | true =>
                    rw [b7] at J2
                    cases z8 : (x.got != 0) with
                    | false =>
                      cases b9 : dayB x.unt with
                      | false =>
                        rw [b9] at J4
                        rw [chkH_bad (by unfold badR; simp [b9])]
                        unfold hoV
                        go_enter Try.func42, Try.ntmps42
                        go_upto_region 1 with fail
                        simp only [List.append]
                        refine wp_plain_grn ?_
                        repeat (go_big_quiet_step (first
                          | (go_at_call 50; (first | with_reducible exact Calls_grn_same (I2.out _) | with_reducible exact Calls_grn_same (I3.out _) | with_reducible exact Calls_grn_same (I4.out _) | with_reducible exact Calls_grn_same (J3.out _)))
                          | (go_at_call 51; (first | with_reducible exact Calls_grn_same (J2.out _) | with_reducible exact Calls_grn_same (J4.out _) | with_reducible exact Calls_grn_same (J5.out _)))))
                        refine wpQuiet_nil ?_
                        rintro _ ⟨p, rfl⟩
                        have BP := hide (HBW.out.trans (p.h.mono (by simp)))
                        go_wp2
                        go_ret
                        exact ⟨rfl, BP.out⟩
                      | true =>
                        rw [b9] at J4
                        cases b10 : dayB x.slp with
                        | false =>
                          rw [b10] at J5
                          rw [chkH_bad (by unfold badR; simp [b10])]
                          unfold hoV
                          go_enter Try.func42, Try.ntmps42
                          go_upto_region 1 with fail
                          simp only [List.append]
                          refine wp_plain_grn ?_
                          repeat (go_big_quiet_step (first
                            | (go_at_call 50; (first | with_reducible exact Calls_grn_same (I2.out _) | with_reducible exact Calls_grn_same (I3.out _) | with_reducible exact Calls_grn_same (I4.out _) | with_reducible exact Calls_grn_same (J3.out _)))
                            | (go_at_call 51; (first | with_reducible exact Calls_grn_same (J2.out _) | with_reducible exact Calls_grn_same (J4.out _) | with_reducible exact Calls_grn_same (J5.out _)))))
                          refine wpQuiet_nil ?_
                          rintro _ ⟨p, rfl⟩
                          have BP := hide (HBW.out.trans (p.h.mono (by simp)))
                          go_wp2
                          go_ret
                          exact ⟨rfl, BP.out⟩
                        | true =>
                          rw [b10] at J5
                          by_cases c11 : x.rnk < 0
                          · have b11 : decide (x.rnk < 0) = true := decide_eq_true c11
                            rw [chkH_bad (by unfold badR; simp [b11])]
                            unfold hoV
                            go_enter Try.func42, Try.ntmps42
                            go_upto_region 1 with fail
                            simp only [List.append]
                            refine wp_plain_grn ?_
                            repeat (go_big_quiet_step (first
                              | (go_at_call 50; (first | with_reducible exact Calls_grn_same (I2.out _) | with_reducible exact Calls_grn_same (I3.out _) | with_reducible exact Calls_grn_same (I4.out _) | with_reducible exact Calls_grn_same (J3.out _)))
                              | (go_at_call 51; (first | with_reducible exact Calls_grn_same (J2.out _) | with_reducible exact Calls_grn_same (J4.out _) | with_reducible exact Calls_grn_same (J5.out _)))))
                            refine wpQuiet_nil ?_
                            rintro _ ⟨p, rfl⟩
                            have BP := hide (HBW.out.trans (p.h.mono (by simp)))
                            go_wp2
                            go_ret
                            exact ⟨rfl, BP.out⟩
                          · have b11 : decide (x.rnk < 0) = false := decide_eq_false c11
                            clear c11
                            by_cases c12 : 9 < x.rnk
                            · have b12 : decide (9 < x.rnk) = true := decide_eq_true c12
                              rw [chkH_bad (by unfold badR; simp [b12])]
                              unfold hoV
                              go_enter Try.func42, Try.ntmps42
                              go_upto_region 1 with fail
                              simp only [List.append]
                              refine wp_plain_grn ?_
                              repeat (go_big_quiet_step (first
                                | (go_at_call 50; (first | with_reducible exact Calls_grn_same (I2.out _) | with_reducible exact Calls_grn_same (I3.out _) | with_reducible exact Calls_grn_same (I4.out _) | with_reducible exact Calls_grn_same (J3.out _)))
                                | (go_at_call 51; (first | with_reducible exact Calls_grn_same (J2.out _) | with_reducible exact Calls_grn_same (J4.out _) | with_reducible exact Calls_grn_same (J5.out _)))))
                              refine wpQuiet_nil ?_
                              rintro _ ⟨p, rfl⟩
                              have BP := hide (HBW.out.trans (p.h.mono (by simp)))
                              go_wp2
                              go_ret
                              exact ⟨rfl, BP.out⟩
                            · have b12 : decide (9 < x.rnk) = false := decide_eq_false c12
                              clear c12
                              have hb : badR x = false := by unfold badR; simp [b0, b1, b2, b3, z4, b4, b5, b6, b7, z8, b9, b10, b11, b12]
                              rw [chkH_R, hb, if_neg (by decide)]
                              obtain ⟨r2, hr2⟩ : ∃ r, r = (if (decide (x.st < 1) || decide (3 < x.st)) = true then 1 else if badH4 x = true then 12 else 0 : Int) := ⟨_, rfl⟩
                              rw [← hr2]
                              have HR := hide hr2
                              clear hr2 hb
                              unfold hoV
                              go_enter Try.func42, Try.ntmps42
                              go_upto_region 1 with fail
                              simp only [List.append]
                              refine wp_plain_grn ?_
                              repeat (go_big_quiet_step (first
                                | (go_at_call 50; (first | with_reducible exact Calls_grn_same (I2.out _) | with_reducible exact Calls_grn_same (I3.out _) | with_reducible exact Calls_grn_same (I4.out _) | with_reducible exact Calls_grn_same (J3.out _)))
                                | (go_at_call 51; (first | with_reducible exact Calls_grn_same (J2.out _) | with_reducible exact Calls_grn_same (J4.out _) | with_reducible exact Calls_grn_same (J5.out _)))))
                              refine wpQuiet_nil ?_
                              rintro _ ⟨p, rfl⟩
                              have BP := hide (HBW.out.trans (p.h.mono (by simp)))
                              have k6 := f6 p
                              have k7 := f7 p
                              have k8 := f8 p
                              go_wp2
                              all_goals go_ret
                              all_goals first
                                | (refine ⟨ret_int ?_, BP.out⟩; rw [HR.out]; clear HR; simp_all; done)
                                | (refine ⟨ret_int ?_, BP.out⟩; rw [HR.out]; clear HR; simp_all [badH4]; done)
                    | true =>
                      cases b8 : idB x.got with
                      | false =>
                        rw [b8] at J3
                        rw [chkH_bad (by unfold badR; simp [z8, b8])]
                        unfold hoV
                        go_enter Try.func42, Try.ntmps42
                        go_upto_region 1 with fail
                        simp only [List.append]
                        refine wp_plain_grn ?_
                        repeat (go_big_quiet_step (first
                          | (go_at_call 50; (first | with_reducible exact Calls_grn_same (I2.out _) | with_reducible exact Calls_grn_same (I3.out _) | with_reducible exact Calls_grn_same (I4.out _) | with_reducible exact Calls_grn_same (J3.out _)))
                          | (go_at_call 51; (first | with_reducible exact Calls_grn_same (J2.out _) | with_reducible exact Calls_grn_same (J4.out _) | with_reducible exact Calls_grn_same (J5.out _)))))
                        refine wpQuiet_nil ?_
                        rintro _ ⟨p, rfl⟩
                        have BP := hide (HBW.out.trans (p.h.mono (by simp)))
                        go_wp2
                        go_ret
                        exact ⟨rfl, BP.out⟩
                      | true =>
                        rw [b8] at J3
                        cases b9 : dayB x.unt with
                        | false =>
                          rw [b9] at J4
                          rw [chkH_bad (by unfold badR; simp [b9])]
                          unfold hoV
                          go_enter Try.func42, Try.ntmps42
                          go_upto_region 1 with fail
                          simp only [List.append]
                          refine wp_plain_grn ?_
                          repeat (go_big_quiet_step (first
                            | (go_at_call 50; (first | with_reducible exact Calls_grn_same (I2.out _) | with_reducible exact Calls_grn_same (I3.out _) | with_reducible exact Calls_grn_same (I4.out _) | with_reducible exact Calls_grn_same (J3.out _)))
                            | (go_at_call 51; (first | with_reducible exact Calls_grn_same (J2.out _) | with_reducible exact Calls_grn_same (J4.out _) | with_reducible exact Calls_grn_same (J5.out _)))))
                          refine wpQuiet_nil ?_
                          rintro _ ⟨p, rfl⟩
                          have BP := hide (HBW.out.trans (p.h.mono (by simp)))
                          go_wp2
                          go_ret
                          exact ⟨rfl, BP.out⟩
                        | true =>
                          rw [b9] at J4
                          cases b10 : dayB x.slp with
                          | false =>
                            rw [b10] at J5
                            rw [chkH_bad (by unfold badR; simp [b10])]
                            unfold hoV
                            go_enter Try.func42, Try.ntmps42
                            go_upto_region 1 with fail
                            simp only [List.append]
                            refine wp_plain_grn ?_
                            repeat (go_big_quiet_step (first
                              | (go_at_call 50; (first | with_reducible exact Calls_grn_same (I2.out _) | with_reducible exact Calls_grn_same (I3.out _) | with_reducible exact Calls_grn_same (I4.out _) | with_reducible exact Calls_grn_same (J3.out _)))
                              | (go_at_call 51; (first | with_reducible exact Calls_grn_same (J2.out _) | with_reducible exact Calls_grn_same (J4.out _) | with_reducible exact Calls_grn_same (J5.out _)))))
                            refine wpQuiet_nil ?_
                            rintro _ ⟨p, rfl⟩
                            have BP := hide (HBW.out.trans (p.h.mono (by simp)))
                            go_wp2
                            go_ret
                            exact ⟨rfl, BP.out⟩
                          | true =>
                            rw [b10] at J5
                            by_cases c11 : x.rnk < 0
                            · have b11 : decide (x.rnk < 0) = true := decide_eq_true c11
                              rw [chkH_bad (by unfold badR; simp [b11])]
                              unfold hoV
                              go_enter Try.func42, Try.ntmps42
                              go_upto_region 1 with fail
                              simp only [List.append]
                              refine wp_plain_grn ?_
                              repeat (go_big_quiet_step (first
                                | (go_at_call 50; (first | with_reducible exact Calls_grn_same (I2.out _) | with_reducible exact Calls_grn_same (I3.out _) | with_reducible exact Calls_grn_same (I4.out _) | with_reducible exact Calls_grn_same (J3.out _)))
                                | (go_at_call 51; (first | with_reducible exact Calls_grn_same (J2.out _) | with_reducible exact Calls_grn_same (J4.out _) | with_reducible exact Calls_grn_same (J5.out _)))))
                              refine wpQuiet_nil ?_
                              rintro _ ⟨p, rfl⟩
                              have BP := hide (HBW.out.trans (p.h.mono (by simp)))
                              go_wp2
                              go_ret
                              exact ⟨rfl, BP.out⟩
                            · have b11 : decide (x.rnk < 0) = false := decide_eq_false c11
                              clear c11
                              by_cases c12 : 9 < x.rnk
                              · have b12 : decide (9 < x.rnk) = true := decide_eq_true c12
                                rw [chkH_bad (by unfold badR; simp [b12])]
                                unfold hoV
                                go_enter Try.func42, Try.ntmps42
                                go_upto_region 1 with fail
                                simp only [List.append]
                                refine wp_plain_grn ?_
                                repeat (go_big_quiet_step (first
                                  | (go_at_call 50; (first | with_reducible exact Calls_grn_same (I2.out _) | with_reducible exact Calls_grn_same (I3.out _) | with_reducible exact Calls_grn_same (I4.out _) | with_reducible exact Calls_grn_same (J3.out _)))
                                  | (go_at_call 51; (first | with_reducible exact Calls_grn_same (J2.out _) | with_reducible exact Calls_grn_same (J4.out _) | with_reducible exact Calls_grn_same (J5.out _)))))
                                refine wpQuiet_nil ?_
                                rintro _ ⟨p, rfl⟩
                                have BP := hide (HBW.out.trans (p.h.mono (by simp)))
                                go_wp2
                                go_ret
                                exact ⟨rfl, BP.out⟩
                              · have b12 : decide (9 < x.rnk) = false := decide_eq_false c12
                                clear c12
                                have hb : badR x = false := by unfold badR; simp [b0, b1, b2, b3, z4, b4, b5, b6, b7, z8, b8, b9, b10, b11, b12]
                                rw [chkH_R, hb, if_neg (by decide)]
                                obtain ⟨r2, hr2⟩ : ∃ r, r = (if (decide (x.st < 1) || decide (3 < x.st)) = true then 1 else if badH4 x = true then 12 else 0 : Int) := ⟨_, rfl⟩
                                rw [← hr2]
                                have HR := hide hr2
                                clear hr2 hb
                                unfold hoV
                                go_enter Try.func42, Try.ntmps42
                                go_upto_region 1 with fail
                                simp only [List.append]
                                refine wp_plain_grn ?_
                                repeat (go_big_quiet_step (first
                                  | (go_at_call 50; (first | with_reducible exact Calls_grn_same (I2.out _) | with_reducible exact Calls_grn_same (I3.out _) | with_reducible exact Calls_grn_same (I4.out _) | with_reducible exact Calls_grn_same (J3.out _)))
                                  | (go_at_call 51; (first | with_reducible exact Calls_grn_same (J2.out _) | with_reducible exact Calls_grn_same (J4.out _) | with_reducible exact Calls_grn_same (J5.out _)))))
                                refine wpQuiet_nil ?_
                                rintro _ ⟨p, rfl⟩
                                have BP := hide (HBW.out.trans (p.h.mono (by simp)))
                                have k6 := f6 p
                                have k7 := f7 p
                                have k8 := f8 p
                                go_wp2
                                all_goals go_ret
                                all_goals first
                                  | (refine ⟨ret_int ?_, BP.out⟩; rw [HR.out]; clear HR; simp_all; done)
                                  | (refine ⟨ret_int ?_, BP.out⟩; rw [HR.out]; clear HR; simp_all [badH4]; done)
end Go.Proofs.Ytgjhjabnnhhkbaa
