/- Texts laid together by merge.py: FuM. -/
import Derived.Test.YtbhndfphegflhaaGreatMrg2
set_option linter.unusedSimpArgs false
set_option linter.unusedVariables false
/- Walks: the reference's Right. -/
namespace Go.Proofs.YtbhndfphegflhaaGreat
open Go.RowKit Go.Maps

set_option maxRecDepth 100000 in
set_option maxHeartbeats 2000000 in
theorem rright_any (A : Option Addr) (n c : Nat) (xs : List Fu) (w : World) (hs : Fs w w.heap.size A n c xs) :
    Calls Tryz.prog 31 #[.slice A n c] w fun e w' => e = .returned (.int .i64 (rightR xs)) ∧ Below w.heap.size w w' := by
  obtain rfl := hs.len
  have hle := hs.le
  have hbig := hs.big
  have HS := hide hs
  clear hs
  by_cases h32 : 32 < xs.length
  · have hr : rightR xs = 13 := by unfold rightR; rw [if_pos h32]
    rw [hr]
    clear hr
    go_enter Tryz.func31, Tryz.ntmps31
    go_wp2
    go_ret
    exact ⟨rfl, Below.refl _ _⟩
  · have hr : rightR xs = if chkA none xs ≠ 0 then chkA none xs else if noneF xs = true then 9 else if cycR xs = true then 11 else if overF xs = true then 17 else 0 := by
      unfold rightR; rw [if_neg h32]
    have HR := hide hr
    clear hr
    go_enter Tryz.func31, Tryz.ntmps31
    go_wp2
    go_loopw [3] (fun i wr => ∃ k : Nat, k ≤ xs.length ∧ i = .int .i64 k ∧ Below w.heap.size w wr ∧ chkA none xs = chkA (prevAt xs k) (xs.drop k)) (fun i _ => xs.length - (intOf i).toNat)
    case atStart => exact ⟨0, Nat.zero_le _, rfl, Below.refl _ _, rfl⟩
    case round =>
      obtain ⟨k, hk, rfl, hb, ha⟩ := hrel
      have HA := hide ha
      have HB := hide hb
      have hz := hb.size
      clear ha hb
      by_cases hlt : k < xs.length
      · obtain ⟨b, off, x, rfl, hbB, hx, c0, c1, c2, c3, c4⟩ := Fs_at (HS.out.below HB.out) hlt
        have HX := hide (chkA_step hx)
        have hbw := HB.out.alloc hz (.cells #[.int .i64 x.id, .int .i64 x.parent, .int .i64 x.budget, .int .i64 x.enc, .int .i64 x.spent] 57)
        have HBW := hide hbw
        clear hx hbw
        by_cases hk0 : k = 0
        · subst hk0
          simp only [Nat.zero_mul, Nat.add_zero] at c0 c1 c2 c3 c4
          have hle' : ¬ (prevAt xs 0).any (fun q => decide (x.id ≤ q)) = true := by rw [prevAt, any_none]; decide
          have HLE := hide hle'
          clear hle'
          by_cases hbad : badF x = true
          · have HBAD := hide hbad
            clear hbad
            go_wp2_with fail
            go_quiet (fail)
            go_wp2_with (go_at_call 82; refine (amount_any _ _).mono ?_; rintro e w' ⟨rfl, rfl⟩)
            all_goals first
              | (go_ret; exact ⟨ret_int (by rw [HR.out, HA.out, HX.out, if_neg HLE.out, if_pos HBAD.out]; rfl), below_drewN HBW.out _⟩)
              | (exfalso; have hb := HBAD.out; simp only [badF, Bool.or_eq_true, decide_eq_true_eq] at hb; simp_all; done)
              | (exfalso; have hb := HBAD.out; simp only [badF, Bool.or_eq_true, decide_eq_true_eq] at hb; simp_all; omega)
          · obtain ⟨⟨p1, p2⟩, ⟨p3, p4⟩, hM, hW⟩ := badF_ok (Bool.eq_false_iff.2 hbad)
            have m1 := amount_any x.budget
            rw [mny_iff.2 hM.b] at m1
            have m2 := amount_any x.enc
            rw [mny_iff.2 hM.e] at m2
            have m3 := amount_any x.spent
            rw [mny_iff.2 hM.s] at m3
            have M1 := hide m1
            have M2 := hide m2
            have M3 := hide m3
            have HBAD := hide hbad
            clear hbad m1 m2 m3 hM hW
            go_wp2_with fail
            go_quiet (fail)
            go_wp2_with fail
            refine (M1.out _).mono ?_
            rintro e w' ⟨rfl, rfl⟩
            go_wp2_with fail
            refine (M2.out _).mono ?_
            rintro e w' ⟨rfl, rfl⟩
            go_wp2_with fail
            refine (M3.out _).mono ?_
            rintro e w' ⟨rfl, rfl⟩
            go_wp2
            go_roundw
            case rel => exact ⟨1, by omega, rfl, below_drewN HBW.out _, by rw [HA.out, HX.out, if_neg HLE.out, if_neg HBAD.out]⟩
            case measure => simp [intOf]; omega
        · obtain ⟨b', off', y, hA, hbB', hy, d0, d1, d2, d3, d4⟩ := Fs_at (HS.out.below HB.out) (k := k - 1) (by omega)
          cases hA
          have hpr : prevAt xs k = some y.id := by
            obtain ⟨j, rfl⟩ : ∃ j, k = j + 1 := ⟨k - 1, by omega⟩
            rw [prevAt]
            simp only [Nat.add_sub_cancel] at hy
            rw [hy]; rfl
          have d0' := fun o => (World.cell?_alloc_lt wr o ⟨b, off + (k - 1) * 5, none⟩ (Nat.lt_of_lt_of_le hbB hz)).trans d0
          have HPR := hide hpr
          clear hy d0 d1 d2 d3 d4 hpr
          have hk1 : (0 : Int) < (k : Int) := by omega
          have hk2 : 0 < k := by omega
          by_cases hxy : x.id ≤ y.id
          · have HXY := hide hxy
            go_wp2_with fail
            go_quiet (fail)
            go_wp2
            go_ret
            exact ⟨ret_int (by rw [HR.out, HA.out, HX.out, HPR.out, if_pos (show (some y.id).any (fun q => decide (x.id ≤ q)) = true from decide_eq_true HXY.out)]; rfl), below_drewN HBW.out _⟩
          · have hle' : ¬ (prevAt xs k).any (fun q => decide (x.id ≤ q)) = true := by rw [HPR.out]; simpa using hxy
            have HLE := hide hle'
            have hd : decide (x.id ≤ y.id) = false := by simpa using hxy
            clear hle'
            by_cases hbad : badF x = true
            · have HBAD := hide hbad
              clear hbad
              go_wp2_with fail
              go_quiet (fail)
              go_wp2_with (go_at_call 82; refine (amount_any _ _).mono ?_; rintro e w' ⟨rfl, rfl⟩)
              all_goals first
                | (go_ret; exact ⟨ret_int (by rw [HR.out, HA.out, HX.out, if_neg HLE.out, if_pos HBAD.out]; rfl), below_drewN HBW.out _⟩)
                | (exfalso; have hb := HBAD.out; simp only [badF, Bool.or_eq_true, decide_eq_true_eq] at hb; simp_all; done)
                | (exfalso; have hb := HBAD.out; simp only [badF, Bool.or_eq_true, decide_eq_true_eq] at hb; simp_all; omega)
            · obtain ⟨⟨p1, p2⟩, ⟨p3, p4⟩, hM, hW⟩ := badF_ok (Bool.eq_false_iff.2 hbad)
              have m1 := amount_any x.budget
              rw [mny_iff.2 hM.b] at m1
              have m2 := amount_any x.enc
              rw [mny_iff.2 hM.e] at m2
              have m3 := amount_any x.spent
              rw [mny_iff.2 hM.s] at m3
              have M1 := hide m1
              have M2 := hide m2
              have M3 := hide m3
              have HBAD := hide hbad
              clear hbad m1 m2 m3 hM hW
              go_wp2_with fail
              go_quiet (fail)
              go_wp2_with fail
              refine (M1.out _).mono ?_
              rintro e w' ⟨rfl, rfl⟩
              go_wp2_with fail
              refine (M2.out _).mono ?_
              rintro e w' ⟨rfl, rfl⟩
              go_wp2_with fail
              refine (M3.out _).mono ?_
              rintro e w' ⟨rfl, rfl⟩
              go_wp2
              go_roundw
              case rel => exact ⟨k + 1, by omega, by go_num, below_drewN HBW.out _, by rw [HA.out, HX.out, if_neg HLE.out, if_neg HBAD.out]⟩
              case measure => simp [intOf]; omega
      · have hA0 : chkA none xs = 0 := by rw [HA.out, List.drop_eq_nil_of_le (by omega), chkA]
        have HA0 := hide hA0
        have hok : ∀ x ∈ xs, badF x = false := chkA_ok xs none hA0
        have HOK := hide hok
        have hr2 : rightR xs = if noneF xs = true then 9 else if cycR xs = true then 11 else if overF xs = true then 17 else 0 := by rw [HR.out, if_neg (by rw [hA0]; decide)]
        have HR2 := hide hr2
        clear hA0 hok hr2 HA HR
        go_wp2
        go_loopw [5] (fun i wr => ∃ k : Nat, k ≤ xs.length ∧ i = .int .i64 k ∧ Below w.heap.size w wr ∧ noneF xs = (xs.drop k).any (fun f => decide (f.parent ≠ 0) && decide (atF xs f.parent < 0))) (fun i _ => xs.length - (intOf i).toNat)
        case atStart => exact ⟨0, Nat.zero_le _, rfl, HB.out, rfl⟩
        case round =>
          clear HB hz hlt hk
          obtain ⟨k, hk, rfl, hb, ha⟩ := hrel
          have HA := hide ha
          have HB := hide hb
          have hz := hb.size
          clear ha hb
          by_cases hlt : k < xs.length
          · have HSB := hide ((HS.out.below HB.out).more hz)
            obtain ⟨b, off, x, rfl, hbB, hx, c0, c1, c2, c3, c4⟩ := Fs_at HSB.out hlt
            have HX := hide (any_stepF (p := fun f => decide (f.parent ≠ 0) && decide (atF xs f.parent < 0)) hx)
            clear hx
            by_cases hp0 : x.parent = 0
            · have hp0' : (x.parent != 0) = false := by simpa using hp0
              have HP0 := hide hp0
              clear hp0
              go_wp2
              go_roundw
              case rel => exact ⟨k + 1, by omega, by go_num, HB.out, by rw [HA.out, HX.out]; simp [HP0.out]⟩
              case measure => simp [intOf]; omega
            · have hp0' : (x.parent != 0) = true := by simpa using hp0
              have hpl := at_any _ xs.length c xs x.parent wr _ HSB.out
              have HPL := hide hpl
              have HP0 := hide hp0
              clear hp0 hpl
              go_wp2_with fail
              refine (HPL.out).mono ?_
              rintro e w2 ⟨rfl, rfl⟩
              by_cases hneg : atF xs x.parent < 0
              · have HN := hide hneg
                go_wp2
                go_ret
                exact ⟨ret_int (by rw [HR2.out, if_pos (by rw [HA.out, HX.out]; simp [HP0.out, HN.out])]), HB.out⟩
              · have HN := hide hneg
                go_wp2
                go_roundw
                case rel => exact ⟨k + 1, by omega, by go_num, HB.out, by rw [HA.out, HX.out, decide_eq_false (p := atF xs x.parent < 0) (by have := HN.out; omega), Bool.and_false, Bool.false_or]⟩
                case measure => simp [intOf]; omega
          · have hN0 : noneF xs = false := by rw [HA.out, List.drop_eq_nil_of_le (by omega)]; rfl
            have hr3 : rightR xs = if cycR xs = true then 11 else if overF xs = true then 17 else 0 := by
              rw [HR2.out, hN0, if_neg (by decide)]
            have HR3 := hide hr3
            clear hN0 hr3 HA HR2
            go_wp2
            go_loopw [6] (fun i wr => ∃ k : Nat, k ≤ xs.length ∧ i = .int .i64 k ∧ Below w.heap.size w wr ∧ cycR xs = (xs.drop k).any (fun f => decide (f.parent ≠ 0) && wiR xs (xs.length + 1) f.parent f.id)) (fun i _ => xs.length - (intOf i).toNat)
            case atStart => exact ⟨0, Nat.zero_le _, rfl, HB.out, rfl⟩
            case round =>
              clear HB hz hlt hk
              obtain ⟨k, hk, rfl, hb, ha⟩ := hrel
              have HA := hide ha
              have HB := hide hb
              have hz := hb.size
              clear ha hb
              by_cases hlt : k < xs.length
              · have HSB := hide ((HS.out.below HB.out).more hz)
                obtain ⟨b, off, x, rfl, hbB, hx, c0, c1, c2, c3, c4⟩ := Fs_at HSB.out hlt
                have HX := hide (any_stepF (p := fun f => decide (f.parent ≠ 0) && wiR xs (xs.length + 1) f.parent f.id) hx)
                have hkk : (k : Int) < (xs.length : Int) := by omega
                clear hx
                by_cases hp0 : x.parent = 0
                · have hp0' : (x.parent != 0) = false := by simpa using hp0
                  have HP0 := hide hp0
                  clear hp0
                  go_wp2
                  go_quiet (fail)
                  go_wp2
                  go_roundw
                  case rel => exact ⟨k + 1, by omega, by go_num, below_drewN HB.out _, by rw [HA.out, HX.out]; simp [HP0.out]⟩
                  case measure => simp [intOf]; omega
                · have hp0' : (x.parent != 0) = true := by simpa using hp0
                  have hpl := fun W (hW : Fs W w.heap.size (some ⟨b, off, none⟩) xs.length c xs) => within_any _ xs.length c xs x.parent x.id W _ hW
                  have HP0 := hide hp0
                  have HSD := hide (HS.out.below HB.out)
                  clear hp0
                  generalize hwi : wiR xs (xs.length + 1) x.parent x.id = wi at hpl
                  have HWI := hide hwi
                  have HPL := hide hpl
                  clear hwi hpl
                  cases wi with
                  | true =>
                    go_wp2
                    go_quiet ((go_at_call 84; exact Calls.quiet_of_same ((HPL.out _ (HSD.out.drewN _)).mono fun _ _ h => ⟨h.1, h.2.symm⟩)))
                    go_wp2
                    go_ret
                    exact ⟨ret_int (by rw [HR3.out, if_pos (by rw [HA.out, HX.out, HWI.out]; simp [HP0.out])]), below_drewN HB.out _⟩
                  | false =>
                    go_wp2
                    go_quiet ((go_at_call 84; exact Calls.quiet_of_same ((HPL.out _ (HSD.out.drewN _)).mono fun _ _ h => ⟨h.1, h.2.symm⟩)))
                    go_wp2
                    go_roundw
                    case rel => exact ⟨k + 1, by omega, by go_num, below_drewN HB.out _, by rw [HA.out, HX.out, HWI.out, Bool.and_false, Bool.false_or]⟩
                    case measure => simp [intOf]; omega
              · have hN0 : cycR xs = false := by rw [HA.out, List.drop_eq_nil_of_le (by omega)]; rfl
                have hr4 : rightR xs = if overF xs = true then 17 else 0 := by
                  rw [HR3.out, hN0, if_neg (by decide)]
                have HR4 := hide hr4
                clear hN0 hr4 HA HR3
                go_wp2
                go_loopw [7] (fun i wr => ∃ k : Nat, k ≤ xs.length ∧ i = .int .i64 k ∧ Below w.heap.size w wr ∧ overF xs = (xs.drop k).any (fun f => decide (f.budget < f.enc + f.spent))) (fun i _ => xs.length - (intOf i).toNat)
                case atStart => exact ⟨0, Nat.zero_le _, rfl, HB.out, rfl⟩
                case round =>
                  clear HB hz hlt hk
                  obtain ⟨k, hk, rfl, hb, ha⟩ := hrel
                  have HA := hide ha
                  have HB := hide hb
                  have hz := hb.size
                  clear ha hb
                  by_cases hlt : k < xs.length
                  · obtain ⟨b, off, x, rfl, hbB, hx, c0, c1, c2, c3, c4⟩ := Fs_at (HS.out.below HB.out) hlt
                    have hM := (badF_ok (HOK.out x (List.mem_of_getElem? hx))).2.2.1
                    have HX := hide (any_stepF (p := fun f => decide (f.budget < f.enc + f.spent)) hx)
                    have hkk : (k : Int) < (xs.length : Int) := by omega
                    obtain ⟨e1, e2⟩ := hM.e
                    obtain ⟨s1, s2⟩ := hM.s
                    have hw64 : IntKind.i64.wrap (x.enc + x.spent) = x.enc + x.spent := IntWalk.i64_in _ (by omega)
                    clear hx hM
                    by_cases ho : x.budget < x.enc + x.spent
                    · have HO := hide ho
                      go_wp2
                      go_quiet (fail)
                      go_wp2
                      go_ret
                      exact ⟨ret_int (by rw [HR4.out, if_pos (by rw [HA.out, HX.out]; simp [HO.out])]), below_drewN HB.out _⟩
                    · have HO := hide ho
                      have hd : decide (x.budget < x.enc + x.spent) = false := by simpa using ho
                      go_wp2
                      go_quiet (fail)
                      go_wp2
                      go_roundw
                      case rel => exact ⟨k + 1, by omega, by go_num, below_drewN HB.out _, by rw [HA.out, HX.out, decide_eq_false (p := x.budget < x.enc + x.spent) (by have := HO.out; omega), Bool.false_or]⟩
                      case measure => simp [intOf]; omega
                  · have hN0 : overF xs = false := by rw [HA.out, List.drop_eq_nil_of_le (by omega)]; rfl
                    have hr5 : rightR xs = 0 := by rw [HR4.out, hN0, if_neg (by decide)]
                    have HR5 := hide hr5
                    clear hN0 hr5 HR4
                    go_wp2
                    go_ret
                    exact ⟨ret_int HR5.out.symm, HB.out⟩
end Go.Proofs.YtbhndfphegflhaaGreat
