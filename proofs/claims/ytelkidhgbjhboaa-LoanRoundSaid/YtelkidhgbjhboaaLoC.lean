/- Walks: Right of loan. Printed by gen_lo_right.py. -/
import Derived.Test.YtelkidhgbjhboaaLoA
namespace Go.Proofs.Ytelkidhgbjhboaa
open Go.RowKit

set_option maxRecDepth 100000 in
set_option maxHeartbeats 2000000 in
theorem lright_any (A : Option Addr) (n c : Nat) (xs : List Lo) (w : World) (hs : Los w w.heap.size A n c xs) :
    Calls Try.prog 12 #[.slice A n c] w fun e w' => e = .returned (.int .i64 (rightL xs)) ∧ Below w.heap.size w w' := by
  obtain rfl := hs.len
  have hle := hs.le
  have hbig := hs.big
  have HS := hide hs
  clear hs
  by_cases h64 : 64 < xs.length
  · have hr : rightL xs = 13 := by unfold rightL; rw [if_pos h64]
    rw [hr]
    clear hr
    go_enter Try.func12, Try.ntmps12
    go_wp2
    go_ret
    exact ⟨rfl, Below.refl _ _⟩
  · have hr : rightL xs = chkL none xs := by unfold rightL; rw [if_neg h64]
    have HR := hide hr
    clear hr
    go_enter Try.func12, Try.ntmps12
    go_wp2
    go_loopw [10] (fun i wr => ∃ k : Nat, k ≤ xs.length ∧ i = .int .i64 k ∧ Below w.heap.size w wr ∧ chkL none xs = chkL (prevL xs k) (xs.drop k)) (fun i _ => xs.length - (intOf i).toNat)
    case atStart => exact ⟨0, Nat.zero_le _, rfl, Below.refl _ _, rfl⟩
    case round =>
      obtain ⟨k, hk, rfl, hb, ha⟩ := hrel
      have HA := hide ha
      have HB := hide hb
      have hz := hb.size
      clear ha hb
      by_cases hlt : k < xs.length
      · obtain ⟨b, off, x, rfl, hbB, hx, c0, c1, c2, c3, c4, c5⟩ := Los_at (HS.out.below HB.out) hlt
        have HX := hide (chkL_step hx)
        have hbw := HB.out.alloc hz (.cells (loC x) 28)
        have HBW := hide hbw
        clear hx hbw
        by_cases hk0 : k = 0
        · subst hk0
          simp only [Nat.zero_mul, Nat.add_zero] at c0 c1 c2 c3 c4 c5
          have hle' : ¬ (prevL xs 0).any (fun q => decide (x.item ≤ q)) = true := by rw [prevL, anyL_none]; decide
          have HLE := hide hle'
          clear hle'
          by_cases hbad : badL x = true
          · skip
            have HBAD := hide hbad
            clear hbad
            go_wp2_with fail
            go_quiet (fail)
            go_wp2_with (first | (go_at_call 31; refine (lid_any _ _).mono ?_; rintro e w' ⟨rfl, rfl⟩) | (go_at_call 32; refine (lday_any _ _).mono ?_; rintro e w' ⟨rfl, rfl⟩))
            all_goals first
              | (go_ret; exact ⟨ret_int (by rw [HR.out, HA.out, HX.out, if_neg HLE.out, if_pos HBAD.out]), below_drewN HBW.out _⟩)
              | (exfalso; have hb := HBAD.out; simp only [badL, Bool.or_eq_true, decide_eq_true_eq] at hb; simp_all; done)
              | (exfalso; have hb := HBAD.out; simp only [badL, Bool.or_eq_true, decide_eq_true_eq] at hb; simp_all; omega)
              | (exfalso; have hb := HBAD.out; simp only [badL, Bool.or_eq_true, decide_eq_true_eq] at hb; omega)
          · skip
            have hM := badL_ok (Bool.eq_false_iff.2 hbad)
            obtain ⟨p1, p2⟩ := hM.item
            obtain ⟨p3, p4⟩ := hM.patron
            obtain ⟨p5, p6⟩ := hM.out
            obtain ⟨p7, p8⟩ := hM.due
            have p9 := hM.od
            obtain ⟨p10, p11⟩ := hM.ren
            have m1 := fun W => lid_any x.item W
            rw [idB_iff.2 hM.item] at m1
            have m2 := fun W => lid_any x.patron W
            rw [idB_iff.2 hM.patron] at m2
            have m3 := fun W => lday_any x.out W
            rw [dayB_iff.2 hM.out] at m3
            have m4 := fun W => lday_any x.due W
            rw [dayB_iff.2 hM.due] at m4
            have M1 := hide m1
            have M2 := hide m2
            have M3 := hide m3
            have M4 := hide m4
            clear m1 m2 m3 m4
            have HBAD := hide hbad
            clear hbad hM
            go_wp2_with fail
            go_quiet (fail)
            go_wp2_with fail
            refine (M1.out _).mono ?_
            rintro e w' ⟨rfl, rfl⟩
            go_wp2_with fail
            refine (M2.out _).mono ?_
            rintro e w' ⟨rfl, rfl⟩
            go_wp2_with fail
            refine (M3.out _).mono ?_
            rintro e w' ⟨rfl, rfl⟩
            go_wp2_with fail
            refine (M4.out _).mono ?_
            rintro e w' ⟨rfl, rfl⟩
            go_wp2
            go_roundw
            case rel => exact ⟨1, by omega, rfl, below_drewN HBW.out _, by rw [HA.out, HX.out, if_neg HLE.out, if_neg HBAD.out]⟩
            case measure => simp [intOf]; omega
        · obtain ⟨b', off', y, hA, hbB', hy, d0, d1, d2, d3, d4, d5⟩ := Los_at (HS.out.below HB.out) (k := k - 1) (by omega)
          cases hA
          have hpr : prevL xs k = some y.item := by
            obtain ⟨j, rfl⟩ : ∃ j, k = j + 1 := ⟨k - 1, by omega⟩
            rw [prevL]
            simp only [Nat.add_sub_cancel] at hy
            rw [hy]; rfl
          have d0' := fun o => (World.cell?_alloc_lt wr o ⟨b, off + (k - 1) * 6, none⟩ (Nat.lt_of_lt_of_le hbB hz)).trans d0
          have HPR := hide hpr
          clear hy d0 d1 d2 d3 d4 d5 hpr
          have hk1 : (0 : Int) < (k : Int) := by omega
          have hk2 : 0 < k := by omega
          by_cases hxy : x.item ≤ y.item
          · have HXY := hide hxy
            go_wp2_with fail
            go_quiet (fail)
            go_wp2
            go_ret
            exact ⟨ret_int (by rw [HR.out, HA.out, HX.out, HPR.out, if_pos (show (some y.item).any (fun q => decide (x.item ≤ q)) = true from decide_eq_true HXY.out)]), below_drewN HBW.out _⟩
          · have hle' : ¬ (prevL xs k).any (fun q => decide (x.item ≤ q)) = true := by rw [HPR.out]; simpa using hxy
            have HLE := hide hle'
            have hd : decide (x.item ≤ y.item) = false := by simpa using hxy
            clear hle'
            by_cases hbad : badL x = true
            · skip
              have HBAD := hide hbad
              clear hbad
              go_wp2_with fail
              go_quiet (fail)
              go_wp2_with (first | (go_at_call 31; refine (lid_any _ _).mono ?_; rintro e w' ⟨rfl, rfl⟩) | (go_at_call 32; refine (lday_any _ _).mono ?_; rintro e w' ⟨rfl, rfl⟩))
              all_goals first
                | (go_ret; exact ⟨ret_int (by rw [HR.out, HA.out, HX.out, if_neg HLE.out, if_pos HBAD.out]), below_drewN HBW.out _⟩)
                | (exfalso; have hb := HBAD.out; simp only [badL, Bool.or_eq_true, decide_eq_true_eq] at hb; simp_all; done)
                | (exfalso; have hb := HBAD.out; simp only [badL, Bool.or_eq_true, decide_eq_true_eq] at hb; simp_all; omega)
                | (exfalso; have hb := HBAD.out; simp only [badL, Bool.or_eq_true, decide_eq_true_eq] at hb; omega)
            · skip
              have hM := badL_ok (Bool.eq_false_iff.2 hbad)
              obtain ⟨p1, p2⟩ := hM.item
              obtain ⟨p3, p4⟩ := hM.patron
              obtain ⟨p5, p6⟩ := hM.out
              obtain ⟨p7, p8⟩ := hM.due
              have p9 := hM.od
              obtain ⟨p10, p11⟩ := hM.ren
              have m1 := fun W => lid_any x.item W
              rw [idB_iff.2 hM.item] at m1
              have m2 := fun W => lid_any x.patron W
              rw [idB_iff.2 hM.patron] at m2
              have m3 := fun W => lday_any x.out W
              rw [dayB_iff.2 hM.out] at m3
              have m4 := fun W => lday_any x.due W
              rw [dayB_iff.2 hM.due] at m4
              have M1 := hide m1
              have M2 := hide m2
              have M3 := hide m3
              have M4 := hide m4
              clear m1 m2 m3 m4
              have HBAD := hide hbad
              clear hbad hM
              go_wp2_with fail
              go_quiet (fail)
              go_wp2_with fail
              refine (M1.out _).mono ?_
              rintro e w' ⟨rfl, rfl⟩
              go_wp2_with fail
              refine (M2.out _).mono ?_
              rintro e w' ⟨rfl, rfl⟩
              go_wp2_with fail
              refine (M3.out _).mono ?_
              rintro e w' ⟨rfl, rfl⟩
              go_wp2_with fail
              refine (M4.out _).mono ?_
              rintro e w' ⟨rfl, rfl⟩
              go_wp2
              go_roundw
              case rel => exact ⟨k + 1, by omega, by go_num, below_drewN HBW.out _, by rw [HA.out, HX.out, if_neg HLE.out, if_neg HBAD.out]⟩
              case measure => simp [intOf]; omega
      · have hkn : k = xs.length := by omega
        subst hkn
        go_wp2
        go_ret
        exact ⟨ret_int (by rw [HR.out, HA.out, List.drop_length]; rfl), HB.out⟩
end Go.Proofs.Ytelkidhgbjhboaa
