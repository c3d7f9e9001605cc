/- Texts laid together by merge.py: OdD2. -/
import Derived.Test.YtbhndfphegflhaaGreatMrg16
set_option linter.unusedSimpArgs false
set_option linter.unusedVariables false
/- Walks: libraryref39.shape, the whole. -/
namespace Go.Proofs.YtbhndfphegflhaaGreat
open Go.RowKit

set_option maxRecDepth 100000 in
set_option maxHeartbeats 4000000 in
theorem shape_any (x : Od) (w : World) (hs : OdS w w.heap.size x) :
    Calls Tryz.prog 114 #[odV x] w fun e w' => e = .returned (.int .i64 (chkO x)) ∧ Below w.heap.size w w' := by
  cases hA : bad1 x || bad2 x with
  | true => exact shape_bad x w hA
  | false =>
    obtain ⟨hb1, hb2⟩ := Bool.or_eq_false_iff.1 hA
    have hr : chkO x = if bad3 x = true then 1 else if bad4 x = true then 12 else 0 := by unfold chkO; rw [hb1, hb2]; rfl
    unfold bad1 at hb1
    unfold bad2 at hb2
    simp only [Bool.or_eq_false_iff, Bool.not_eq_false'] at hb1 hb2
    obtain ⟨⟨⟨⟨g1, g2⟩, g3⟩, g4⟩, g5⟩ := hb1
    obtain ⟨⟨g6, g7⟩, g8⟩ := hb2
    obtain ⟨n1, n2⟩ := winB_iff.1 g4
    obtain ⟨n3, n4⟩ := winB_iff.1 g5
    obtain ⟨n5, n6⟩ := winB_iff.1 g6
    obtain ⟨n7, n8⟩ := winB_iff.1 g7
    have I1 := hide (fun W => rid39_any x.id W)
    have I2 := hide (fun W => rid39_any x.rcd W)
    have I3 := hide (fun W => rid39_any x.ven W)
    have J3 := hide (fun W => r04right_any x.paid W)
    rw [g1] at I1
    rw [g2] at I2
    rw [g3] at I3
    rw [g8] at J3
    have hbw := (Below.refl w.heap.size w).alloc (Nat.le_refl _) (.cells (odC x) 35)
    have bx := Box.new w 35 (odC x)
    have HBW := hide hbw
    have HBX := hide bx
    have HS := hide hs
    have HR := hide hr
    clear hbw bx hs hr g1 g2 g3 g4 g5 g6 g7 g8 hA
    have hln := HS.out.len
    have hbig := HS.out.big
    have hle := HS.out.le
    by_cases hB : (1 ≤ x.st ∧ x.st ≤ 3) ∧ 1 ≤ x.shn ∧ x.shn ≤ 4
    · obtain ⟨⟨s1, s2⟩, s3, s4⟩ := hB
      have hr3 : bad3 x = !shsOk [] x.sh := by
        unfold bad3 sharesV lenB
        rw [winB_iff.2 ⟨s1, s2⟩, winB_iff.2 (show (1 : Int) ≤ (x.sh.length : Int) ∧ (x.sh.length : Int) ≤ 4 by omega)]; simp
      have HR3 := hide hr3
      have m3 : (1 : Int) ≤ (x.shn : Int) := by omega
      have m4 : (x.shn : Int) ≤ 4 := by omega
      clear hr3 hln
      unfold odV
      go_enter Tryz.func114, Tryz.ntmps114
      go_wp2_with (first | (go_at_call 162; (first | with_reducible refine (I1.out _).mono ?_ | with_reducible refine (I2.out _).mono ?_ | with_reducible refine (I3.out _).mono ?_); rintro e w' ⟨rfl, rfl⟩) | (go_at_call 163; with_reducible refine (J3.out _).mono ?_; rintro e w' ⟨rfl, rfl⟩))
      have HRR := hide (show chkO x = if shsOk [] x.sh = false then 1 else if bad4 x = true then 12 else 0 from by rw [HR.out, HR3.out]; cases shsOk [] x.sh <;> rfl)
      clear HR HR3 I1 I2 I3 J3
      go_loopw [3] (fun i wr => ∃ k : Nat, k ≤ x.shn ∧ i = .int .i64 k ∧ Below (w.heap.size + 1) (w.alloc (.cells (odC x) 35)) wr ∧ shsOk [] x.sh = shsOk (x.sh.take k) (x.sh.drop k)) (fun i _ => x.shn - (intOf i).toNat)
      case atStart => exact ⟨0, Nat.zero_le _, rfl, Below.refl _ _, rfl⟩
      case round =>
        obtain ⟨k, hk, rfl, hb, ha⟩ := hrel
        have HA := hide ha
        have HB := hide hb
        have hz := hb.size
        obtain ⟨_, d0, d1, d2, d3, d4, d5, d6, d7, d8, d9⟩ := od_box HBX.out hb
        have hbo := HBW.out.trans (hb.mono (by omega))
        have HBO := hide hbo
        clear ha hb hbo
        by_cases hlt : k < x.shn
        · obtain ⟨b, off, y, hAe, hbB, hy, c0, c1⟩ := Shs_at (HS.out.below HBO.out) hlt
          have hst := shsOk_step hy
          have hr5 : chkO x = if (oidB y.fund && winB y.weight 1 100 && !(decide (0 ≤ ix (fun z => z.fund == y.fund) (x.sh.take k))) && shsOk (x.sh.take (k + 1)) (x.sh.drop (k + 1))) = false then 1 else if bad4 x = true then 12 else 0 := by rw [HRR.out, HA.out, hst]
          have hsn := HA.out.trans hst
          have HR5 := hide hr5
          have HSN := hide hsn
          have HHY := hide hy
          have HAE := hide hAe
          have I1 := hide (fun W => rid39_any y.fund W)
          rw [hAe] at d9
          have hkz : (k : Int) < (x.shn : Int) := by omega
          clear hr5 hsn hy hst hAe
          cases hq : oidB y.fund with
          | false =>
            have hr6 : chkO x = 1 := by rw [HR5.out, hq]; rfl
            rw [hq] at I1
            have HR6 := hide hr6
            clear hr6 hq
            go_wp2_with (go_at_call 162; refine (I1.out _).mono ?_; rintro e w' ⟨rfl, rfl⟩)
            go_ret
            exact ⟨ret_int HR6.out.symm, HBO.out⟩
          | true =>
            rw [hq] at I1
            by_cases hwt : 1 ≤ y.weight ∧ y.weight ≤ 100
            · obtain ⟨t1, t2⟩ := hwt
              have hw1 : winB y.weight 1 100 = true := winB_iff.2 ⟨t1, t2⟩
              have hr6 : chkO x = if (!(decide (0 ≤ ix (fun z => z.fund == y.fund) (x.sh.take k))) && shsOk (x.sh.take (k + 1)) (x.sh.drop (k + 1))) = false then 1 else if bad4 x = true then 12 else 0 := by rw [HR5.out, hq, hw1]; simp
              have hs6 : shsOk [] x.sh = (!(decide (0 ≤ ix (fun z => z.fund == y.fund) (x.sh.take k))) && shsOk (x.sh.take (k + 1)) (x.sh.drop (k + 1))) := by rw [HSN.out, hq, hw1]; simp
              have HR6 := hide hr6
              have HS6 := hide hs6
              clear hr6 hs6 hq hw1 HR5 HSN
              go_wp2_with (go_at_call 162; refine (I1.out _).mono ?_; rintro e w' ⟨rfl, rfl⟩)
              go_loopw [4] (fun i wr => ∃ j : Nat, j ≤ k ∧ i = .int .i64 j ∧ Below (w.heap.size + 1) (w.alloc (.cells (odC x) 35)) wr ∧ ix (fun z => z.fund == y.fund) (x.sh.take k) = idxP (fun z => z.fund == y.fund) ((x.sh.take k).drop j) j) (fun i _ => k - (intOf i).toNat)
              case atStart => exact ⟨0, Nat.zero_le _, rfl, HB.out, rfl⟩
              case round =>
                obtain ⟨j, hj, rfl, hb, ha⟩ := hrel
                clear HA HB HBO d0 d1 d2 d3 d4 d5 d6 d7 d8 d9 c0 c1
                have HA := hide ha
                have HB := hide hb
                obtain ⟨_, d0, d1, d2, d3, d4, d5, d6, d7, d8, d9⟩ := od_box HBX.out hb
                rw [HAE.out] at d9
                have hbo := HBW.out.trans (hb.mono (by omega))
                have HBO := hide hbo
                have hz' := hb.size
                clear ha hb hbo
                by_cases hjt : j < k
                · obtain ⟨b2, off2, y2, hA2, hbB2, hy2, e0, e1⟩ := Shs_at (HS.out.below HBO.out) hlt
                  obtain ⟨b3, off3, z, hA3, hbB3, hz3, f0, f1⟩ := Shs_at (HS.out.below HBO.out) (k := j) (by omega)
                  cases HAE.out.symm.trans hA2
                  cases HAE.out.symm.trans hA3
                  obtain rfl : y = y2 := by have := HHY.out; rw [hy2] at this; exact (Option.some.inj this).symm
                  have htk : (x.sh.take k)[j]? = some z := by rw [List.getElem?_take, if_pos hjt]; exact hz3
                  have hst := idxP_step (p := fun z : Sh => z.fund == y.fund) htk
                  rw [← HA.out] at hst
                  have HST := hide hst
                  have hjz : (j : Int) < (k : Int) := by omega
                  have hjz2 : (j : Int) < (x.shn : Int) := by omega
                  clear hst htk hz3 hy2 hA2 hA3
                  by_cases hzy : (z.fund == y.fund) = true
                  · have hix : decide (0 ≤ ix (fun z => z.fund == y.fund) (x.sh.take k)) = true := by
                      rw [HST.out, if_pos hzy]; simp
                    have hr7 : chkO x = 1 := by rw [HR6.out, hix]; rfl
                    have HR7 := hide hr7
                    clear hr7 hix
                    go_wp2_with fail
                    go_quiet (fail)
                    go_wp2
                    go_ret
                    exact ⟨ret_int HR7.out.symm, below_drewN HBO.out _⟩
                  · have hst2 : ix (fun z => z.fund == y.fund) (x.sh.take k) = idxP (fun z => z.fund == y.fund) ((x.sh.take k).drop (j + 1)) (j + 1) := by rw [HST.out, if_neg hzy]; simp
                    have HST2 := hide hst2
                    have hzf : (z.fund == y.fund) = false := by simpa using hzy
                    clear hst2 hzy
                    go_wp2_with fail
                    go_quiet (fail)
                    go_wp2
                    go_roundw
                    case rel => exact ⟨j + 1, by omega, by go_num, below_drewN HB.out _, HST2.out⟩
                    case measure => simp [intOf]; omega
                · obtain rfl : j = k := by omega
                  have hix : decide (0 ≤ ix (fun z => z.fund == y.fund) (x.sh.take j)) = false := by
                    rw [HA.out, idxP_end (by rw [List.length_take]; omega)]; rfl
                  have hs7 : shsOk [] x.sh = shsOk (x.sh.take (j + 1)) (x.sh.drop (j + 1)) := by rw [HS6.out, hix]; simp
                  have HS7 := hide hs7
                  clear hix hs7
                  go_wp2
                  go_roundw
                  case rel => exact ⟨j + 1, by omega, by go_num, HB.out, HS7.out⟩
                  case measure => simp [intOf]; omega
            · have hw1 : winB y.weight 1 100 = false := by
                cases h : winB y.weight 1 100 with
                | true => exact absurd (winB_iff.1 h) hwt
                | false => rfl
              have hr6 : chkO x = 1 := by rw [HR5.out, hw1]; simp
              have HR6 := hide hr6
              clear hr6 hw1 hq HR5 HSN
              by_cases u1 : y.weight < 1
              · clear hwt
                go_wp2_with (go_at_call 162; refine (I1.out _).mono ?_; rintro e w' ⟨rfl, rfl⟩)
                go_ret
                exact ⟨ret_int HR6.out.symm, HBO.out⟩
              · have u2 : 100 < y.weight := by omega
                clear hwt
                go_wp2_with (go_at_call 162; refine (I1.out _).mono ?_; rintro e w' ⟨rfl, rfl⟩)
                go_ret
                exact ⟨ret_int HR6.out.symm, HBO.out⟩
        · obtain rfl : k = x.shn := by omega
          have hok : shsOk [] x.sh = true := by rw [HA.out, ← HS.out.len, List.drop_length]; rfl
          have hr5 : chkO x = if bad4 x = true then 12 else 0 := by rw [HRR.out, hok]; rfl
          have HR5 := hide hr5
          clear hok hr5
          go_wp2
          all_goals go_ret
          all_goals (refine ⟨ret_int ?_, HBO.out⟩; rw [HR5.out]; clear HR5 HRR; simp_all [bad4])
    · have hr3 : bad3 x = true := by
        unfold bad3 sharesV lenB
        simp only [Bool.or_eq_true, Bool.not_eq_true', Bool.and_eq_false_iff, winB, decide_eq_false_iff_not]
        omega
      have h1 : chkO x = 1 := by rw [HR.out, hr3]; rfl
      rw [h1]
      clear h1 hr3 HR
      have HBB := hide hB
      clear hB
      unfold odV
      by_cases a1 : x.st < 1
      · go_enter Tryz.func114, Tryz.ntmps114
        go_wp2_with (first | (go_at_call 162; (first | with_reducible refine (I1.out _).mono ?_ | with_reducible refine (I2.out _).mono ?_ | with_reducible refine (I3.out _).mono ?_); rintro e w' ⟨rfl, rfl⟩) | (go_at_call 163; with_reducible refine (J3.out _).mono ?_; rintro e w' ⟨rfl, rfl⟩))
        go_ret
        exact ⟨rfl, HBW.out⟩
      · by_cases a2 : 3 < x.st
        · go_enter Tryz.func114, Tryz.ntmps114
          go_wp2_with (first | (go_at_call 162; (first | with_reducible refine (I1.out _).mono ?_ | with_reducible refine (I2.out _).mono ?_ | with_reducible refine (I3.out _).mono ?_); rintro e w' ⟨rfl, rfl⟩) | (go_at_call 163; with_reducible refine (J3.out _).mono ?_; rintro e w' ⟨rfl, rfl⟩))
          go_ret
          exact ⟨rfl, HBW.out⟩
        · by_cases a3 : (x.shn : Int) < 1
          · go_enter Tryz.func114, Tryz.ntmps114
            go_wp2_with (first | (go_at_call 162; (first | with_reducible refine (I1.out _).mono ?_ | with_reducible refine (I2.out _).mono ?_ | with_reducible refine (I3.out _).mono ?_); rintro e w' ⟨rfl, rfl⟩) | (go_at_call 163; with_reducible refine (J3.out _).mono ?_; rintro e w' ⟨rfl, rfl⟩))
            go_ret
            exact ⟨rfl, HBW.out⟩
          · have a4 : (4 : Int) < (x.shn : Int) := by have := HBB.out; omega
            go_enter Tryz.func114, Tryz.ntmps114
            go_wp2_with (first | (go_at_call 162; (first | with_reducible refine (I1.out _).mono ?_ | with_reducible refine (I2.out _).mono ?_ | with_reducible refine (I3.out _).mono ?_); rintro e w' ⟨rfl, rfl⟩) | (go_at_call 163; with_reducible refine (J3.out _).mono ?_; rintro e w' ⟨rfl, rfl⟩))
            go_ret
            exact ⟨rfl, HBW.out⟩
end Go.Proofs.YtbhndfphegflhaaGreat
