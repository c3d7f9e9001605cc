/- Walks: libraryref32.Right. Printed by gen_ho_rright.py. -/
import Derived.Test.YtgjhjabnnhhkbaaHoC
import Derived.Test.YtgjhjabnnhhkbaaHoA2
namespace Go.Proofs.Ytgjhjabnnhhkbaa
open Go.RowKit

set_option maxRecDepth 100000 in
set_option maxHeartbeats 2000000 in
theorem r32right_any (A : Option Addr) (n c : Nat) (xs : List Ho) (w : World) (hs : Hos w w.heap.size A n c xs) :
    Calls Try.prog 13 #[.slice A n c] w fun e w' => e = .returned (.int .i64 (rightH xs)) ∧ Below w.heap.size w w' := by
  obtain rfl := hs.len
  have hle := hs.le
  have hbig := hs.big
  have HS := hide hs
  clear hs
  by_cases h64 : 64 < xs.length
  · have hr : rightH xs = 13 := by unfold rightH; rw [if_pos h64]
    rw [hr]
    clear hr
    go_enter Try.func13, Try.ntmps13
    go_wp2
    go_ret
    exact ⟨rfl, Below.refl _ _⟩
  · have hr : rightH xs = if (chkHs none xs != 0) = true then chkHs none xs else if tw alkR [] xs = true then 7 else 0 := rightH_R h64
    have HR := hide hr
    have HN64 := hide h64
    clear hr
    go_enter Try.func13, Try.ntmps13
    go_wp2
    go_loopw [3] (fun i wr => ∃ k : Nat, k ≤ xs.length ∧ i = .int .i64 k ∧ Below w.heap.size w wr ∧ chkHs none xs = chkHs (prevH xs k) (xs.drop k)) (fun i _ => xs.length - (intOf i).toNat)
    case atStart => exact ⟨0, Nat.zero_le _, rfl, Below.refl _ _, rfl⟩
    case round =>
      obtain ⟨k, hk, rfl, hb, ha⟩ := hrel
      have HA := hide ha
      have HB := hide hb
      have hz := hb.size
      clear ha hb
      by_cases hlt : k < xs.length
      · obtain ⟨b, off, x, rfl, hbB, hx, c0, c1, c2, c3, c4, c5, c6, c7, c8, c9, c10⟩ := Hos_at (HS.out.below HB.out) hlt
        have HX := hide (chkHs_step hx)
        have HBW := HB
        have hc := fun W => hshape_any x W
        generalize chkH x = ce at hc HX
        unfold hoV at hc
        have HC := hide hc
        clear hx hc
        by_cases hk0 : k = 0
        · subst hk0
          simp only [Nat.zero_mul, Nat.add_zero] at c0 c1 c2 c3 c4 c5 c6 c7 c8 c9 c10
          have HLE := hide (show ¬ (prevH xs 0).any (fun q => decide (x.id ≤ q)) = true from by rw [prevH, anyO_none]; decide)
          by_cases hce : (ce != 0) = true
          · have hn : ¬ ce = 0 := by simpa using hce
            have HCE := hide hce
            clear hce
            go_wp2_with fail
            go_quiet (fail)
            go_wp2_with fail
            refine (HC.out _).mono ?_
            rintro e w' ⟨rfl, hb'⟩
            go_wp2
            go_ret
            exact ⟨ret_int (rightH_err HN64.out (by rw [HA.out, HX.out, if_neg HLE.out, if_pos HCE.out]) HCE.out).symm, (below_drewN HBW.out _).trans (hb'.mono (Below.size (below_drewN HBW.out _)))⟩
          · have hn : ce = 0 := by simpa using hce
            have HCE := hide hce
            clear hce
            subst hn
            go_wp2_with fail
            go_quiet (fail)
            go_wp2_with fail
            refine (HC.out _).mono ?_
            rintro e w' ⟨rfl, hb'⟩
            go_wp2
            go_roundw
            case rel => exact ⟨1, by omega, rfl, (below_drewN HBW.out _).trans (hb'.mono (Below.size (below_drewN HBW.out _))), by rw [HA.out, HX.out, if_neg HLE.out, if_neg HCE.out]⟩
            case measure => simp [intOf]; omega
        · obtain ⟨b', off', y, hA, hbB', hy, d0, d1, d2, d3, d4, d5, d6, d7, d8, d9, d10⟩ := Hos_at (HS.out.below HB.out) (k := k - 1) (by omega)
          cases hA
          have hpr : prevH xs k = some y.id := by
            obtain ⟨j, rfl⟩ : ∃ j, k = j + 1 := ⟨k - 1, by omega⟩
            rw [prevH]
            simp only [Nat.add_sub_cancel] at hy
            rw [hy]; rfl
          have d0' := fun o => (World.cell?_alloc_lt wr o ⟨b, off + (k - 1) * 11, none⟩ (Nat.lt_of_lt_of_le hbB hz)).trans d0
          have HPR := hide hpr
          clear hy d1 d2 d3 d4 d5 d6 d7 d8 d9 d10 hpr
          have hk1 : (0 : Int) < (k : Int) := by omega
          have hk2 : 0 < k := by omega
          by_cases hxy : x.id ≤ y.id
          · have HXY := hide hxy
            go_wp2_with fail
            go_quiet (fail)
            go_wp2
            go_ret
            exact ⟨ret_int (rightH_err HN64.out (by rw [HA.out, HX.out, HPR.out, if_pos (show (some y.id).any (fun q => decide (x.id ≤ q)) = true from decide_eq_true HXY.out)]) (by decide)).symm, below_drewN HBW.out _⟩
          · have HLE := hide (show ¬ (prevH xs k).any (fun q => decide (x.id ≤ q)) = true from by rw [HPR.out]; simpa using hxy)
            have hd : decide (x.id ≤ y.id) = false := by simpa using hxy
            by_cases hce : (ce != 0) = true
            · have hn : ¬ ce = 0 := by simpa using hce
              have HCE := hide hce
              clear hce
              go_wp2_with fail
              go_quiet (fail)
              go_wp2_with fail
              refine (HC.out _).mono ?_
              rintro e w' ⟨rfl, hb'⟩
              go_wp2
              go_ret
              exact ⟨ret_int (rightH_err HN64.out (by rw [HA.out, HX.out, if_neg HLE.out, if_pos HCE.out]) HCE.out).symm, (below_drewN HBW.out _).trans (hb'.mono (Below.size (below_drewN HBW.out _)))⟩
            · have hn : ce = 0 := by simpa using hce
              have HCE := hide hce
              clear hce
              subst hn
              go_wp2_with fail
              go_quiet (fail)
              go_wp2_with fail
              refine (HC.out _).mono ?_
              rintro e w' ⟨rfl, hb'⟩
              go_wp2
              go_roundw
              case rel => exact ⟨k + 1, by omega, by go_num, (below_drewN HBW.out _).trans (hb'.mono (Below.size (below_drewN HBW.out _))), by rw [HA.out, HX.out, if_neg HLE.out, if_neg HCE.out]⟩
              case measure => simp [intOf]; omega
      · obtain rfl : k = xs.length := by omega
        have hc0 : chkHs none xs = 0 := by rw [HA.out, List.drop_length]; rfl
        have hr2 : rightH xs = if tw alkR [] xs = true then 7 else 0 := by rw [HR.out, hc0]; rfl
        have HR2 := hide hr2
        clear hc0 hr2 HR HA
        go_wp2
        go_loopw [5] (fun s5 wr => ∃ k : Nat, k ≤ xs.length ∧ s5 = .int .i64 k ∧ Below w.heap.size w wr ∧ tw alkR [] xs = tw alkR (xs.take k) (xs.drop k)) (fun s5 _ => xs.length - (intOf s5).toNat)
        case atStart => exact ⟨0, Nat.zero_le _, rfl, HB.out, rfl⟩
        case round =>
          obtain ⟨k, hk, rfl, hb, ha⟩ := hrel
          clear HB
          have HA := hide ha
          have HB := hide hb
          clear hb ha
          by_cases hlt : k < xs.length
          · obtain ⟨b, off, x, hA, hbB, hx, c0⟩ := HS.out.at_ hlt
            have HX := hide hx
            have HST := hide (tw_step (p := alkR) hx)
            have hkz : (k : Int) < (xs.length : Int) := by omega
            clear hx c0
            go_wp2
            go_loopw [6] (fun s6 wi => ∃ j : Nat, j ≤ k ∧ s6 = .int .i64 j ∧ Below w.heap.size w wi ∧ (xs.take k).any (fun y => alkR y x) = ((xs.take k).drop j).any (fun y => alkR y x)) (fun s6 _ => k - (intOf s6).toNat)
            case atStart => exact ⟨0, Nat.zero_le _, rfl, HB.out, rfl⟩
            case round =>
              obtain ⟨j, hj, rfl, hb, ha⟩ := hrel
              clear HB
              have HB := hide hb
              have HY := hide ha
              clear hb ha
              by_cases hjt : j < k
              · obtain ⟨b1, off1, x1, hA1, hbB1, hx1, c0, c1, c2, c3, c4, c5, c6, c7, c8, c9, c10⟩ := Hos_at (HS.out.below HB.out) hlt
                obtain ⟨b2, off2, y, hA2, hbB2, hy, d0, d1, d2, d3, d4, d5, d6, d7, d8, d9, d10⟩ := Hos_at (HS.out.below HB.out) (k := j) (by omega)
                obtain rfl : x = x1 := by have := HX.out; rw [hx1] at this; exact (Option.some.inj this).symm
                cases hA1.symm.trans hA2
                have htk : (xs.take k)[j]? = some y := by rw [List.getElem?_take, if_pos hjt]; exact hy
                have hst := any_step (p := fun y => alkR y x) htk
                rw [← HY.out] at hst
                have HQ := hide hst
                have hjz : (j : Int) < (k : Int) := by omega
                have hjz2 : (j : Int) < (xs.length : Int) := by omega
                have HA1 := hide hA
                subst hA1
                clear hx1 hy htk hst hA hA2
                have f1 := Grn.cell c1
                have f2 := Grn.cell c2
                have f7 := Grn.cell c7
                have g1 := Grn.cell d1
                have g2 := Grn.cell d2
                have g7 := Grn.cell d7
                clear c0 c3 c4 c5 c6 c8 c9 c10 d0 d3 d4 d5 d6 d8 d9 d10
                cases bp : (x.pat == y.pat) with
                | false =>
                  cases bg : decide (0 < x.got) with
                  | false =>
                    have hal : alkR y x = false := by unfold alkR; simp [*]
                    have HAL := hide hal
                    clear hal
                    go_wp2_with fail
                    refine wp_region_grn (by kernel_rfl) (by kernel_rfl) ?_
                    repeat (go_big_quiet_step (fail))
                    refine wpQuiet_nil ?_
                    rintro _ ⟨pp, rfl⟩
                    have hb2 := hide (HB.out.trans (pp.h.mono HB.out.size))
                    go_wp2
                    go_roundw
                    case rel => exact ⟨j + 1, by omega, by go_num, hb2.out, by rw [HQ.out, HAL.out, Bool.false_or]⟩
                    case measure => simp [intOf]; omega
                  | true =>
                    cases be : (x.got == y.got) with
                    | false =>
                      have hal : alkR y x = false := by unfold alkR; simp [*]
                      have HAL := hide hal
                      clear hal
                      go_wp2_with fail
                      refine wp_region_grn (by kernel_rfl) (by kernel_rfl) ?_
                      repeat (go_big_quiet_step (fail))
                      refine wpQuiet_nil ?_
                      rintro _ ⟨pp, rfl⟩
                      have hb2 := hide (HB.out.trans (pp.h.mono HB.out.size))
                      go_wp2
                      go_roundw
                      case rel => exact ⟨j + 1, by omega, by go_num, hb2.out, by rw [HQ.out, HAL.out, Bool.false_or]⟩
                      case measure => simp [intOf]; omega
                    | true =>
                      have hal : alkR y x = true := by unfold alkR; simp [*]
                      have HAL := hide hal
                      clear hal
                      go_wp2_with fail
                      refine wp_region_grn (by kernel_rfl) (by kernel_rfl) ?_
                      repeat (go_big_quiet_step (fail))
                      refine wpQuiet_nil ?_
                      rintro _ ⟨pp, rfl⟩
                      have hb2 := hide (HB.out.trans (pp.h.mono HB.out.size))
                      go_wp2
                      go_ret
                      exact ⟨ret_int (by rw [HR2.out, HA.out, HST.out, HQ.out, HAL.out]; rfl), hb2.out⟩
                | true =>
                  cases br : (x.rcd == y.rcd) with
                  | false =>
                    cases bg : decide (0 < x.got) with
                    | false =>
                      have hal : alkR y x = false := by unfold alkR; simp [*]
                      have HAL := hide hal
                      clear hal
                      go_wp2_with fail
                      refine wp_region_grn (by kernel_rfl) (by kernel_rfl) ?_
                      repeat (go_big_quiet_step (fail))
                      refine wpQuiet_nil ?_
                      rintro _ ⟨pp, rfl⟩
                      have hb2 := hide (HB.out.trans (pp.h.mono HB.out.size))
                      go_wp2
                      go_roundw
                      case rel => exact ⟨j + 1, by omega, by go_num, hb2.out, by rw [HQ.out, HAL.out, Bool.false_or]⟩
                      case measure => simp [intOf]; omega
                    | true =>
                      cases be : (x.got == y.got) with
                      | false =>
                        have hal : alkR y x = false := by unfold alkR; simp [*]
                        have HAL := hide hal
                        clear hal
                        go_wp2_with fail
                        refine wp_region_grn (by kernel_rfl) (by kernel_rfl) ?_
                        repeat (go_big_quiet_step (fail))
                        refine wpQuiet_nil ?_
                        rintro _ ⟨pp, rfl⟩
                        have hb2 := hide (HB.out.trans (pp.h.mono HB.out.size))
                        go_wp2
                        go_roundw
                        case rel => exact ⟨j + 1, by omega, by go_num, hb2.out, by rw [HQ.out, HAL.out, Bool.false_or]⟩
                        case measure => simp [intOf]; omega
                      | true =>
                        have hal : alkR y x = true := by unfold alkR; simp [*]
                        have HAL := hide hal
                        clear hal
                        go_wp2_with fail
                        refine wp_region_grn (by kernel_rfl) (by kernel_rfl) ?_
                        repeat (go_big_quiet_step (fail))
                        refine wpQuiet_nil ?_
                        rintro _ ⟨pp, rfl⟩
                        have hb2 := hide (HB.out.trans (pp.h.mono HB.out.size))
                        go_wp2
                        go_ret
                        exact ⟨ret_int (by rw [HR2.out, HA.out, HST.out, HQ.out, HAL.out]; rfl), hb2.out⟩
                  | true =>
                    have hal : alkR y x = true := by unfold alkR; simp [*]
                    have HAL := hide hal
                    clear hal
                    go_wp2_with fail
                    refine wp_region_grn (by kernel_rfl) (by kernel_rfl) ?_
                    repeat (go_big_quiet_step (fail))
                    refine wpQuiet_nil ?_
                    rintro _ ⟨pp, rfl⟩
                    have hb2 := hide (HB.out.trans (pp.h.mono HB.out.size))
                    go_wp2
                    go_ret
                    exact ⟨ret_int (by rw [HR2.out, HA.out, HST.out, HQ.out, HAL.out]; rfl), hb2.out⟩
              · obtain rfl : j = k := by omega
                have hjz : ¬ (j : Int) < (j : Int) := by omega
                go_wp2
                go_roundw
                case rel => exact ⟨j + 1, by omega, by go_num, HB.out, by rw [HA.out, HST.out, HY.out, List.drop_eq_nil_of_le (by rw [List.length_take]; omega)]; rfl⟩
                case measure => simp [intOf]; omega
          · obtain rfl : k = xs.length := by omega
            have hkz : ¬ (xs.length : Int) < (xs.length : Int) := by omega
            go_wp2
            go_ret
            exact ⟨ret_int (by rw [HR2.out, HA.out, List.drop_length]; rfl), HB.out⟩
end Go.Proofs.Ytgjhjabnnhhkbaa
