/- Walks: hold.Right. Printed by gen_ho_right.py. -/
import Derived.Test.YtgjhjabnnhhkbaaHoB
namespace Go.Proofs.Ytgjhjabnnhhkbaa
open Go.RowKit

theorem rightH_err {xs : List Ho} {v : Int} (h64 : ¬ 64 < xs.length) (h : chkHs none xs = v) (hv : (v != 0) = true) : rightH xs = v := by
  unfold rightH; rw [if_neg h64, h, if_pos hv]

set_option maxRecDepth 100000 in
set_option maxHeartbeats 2000000 in
theorem hright_any (A : Option Addr) (n c : Nat) (xs : List Ho) (w : World) (hs : Hos w w.heap.size A n c xs) :
    Calls Try.prog 12 #[.slice A n c] w fun e w' => e = .returned (.int .i64 (rightH xs)) ∧ Below w.heap.size w w' := by
  obtain rfl := hs.len
  have hle := hs.le
  have hbig := hs.big
  have HS := hide hs
  clear hs
  by_cases h64 : 64 < xs.length
  · have hr : rightH xs = 13 := by unfold rightH; rw [if_pos h64]
    rw [hr]
    clear hr
    go_enter Try.func12, Try.ntmps12
    go_wp2
    go_ret
    exact ⟨rfl, Below.refl _ _⟩
  · have hr : rightH xs = if (chkHs none xs != 0) = true then chkHs none xs else if (tw alk1 [] xs || tw alk2 [] xs) = true then 7 else 0 := by unfold rightH; rw [if_neg h64]
    have HR := hide hr
    have HN64 := hide h64
    have ht1 := fun W (hW : Below w.heap.size w W) => twice_any 40 alk1 e_alk1 A xs.length c xs W ((HS.out.below hW).more hW.size) (fun W a b => alk1_any a b W)
    have ht2 := fun W (hW : Below w.heap.size w W) => twice_any 41 alk2 e_alk2 A xs.length c xs W ((HS.out.below hW).more hW.size) (fun W a b => alk2_any a b W)
    generalize tw alk1 [] xs = q1 at ht1 hr
    generalize tw alk2 [] xs = q2 at ht2 hr
    clear HR
    have HR := hide hr
    have T1 := hide ht1
    have T2 := hide ht2
    clear hr ht1 ht2
    go_enter Try.func12, Try.ntmps12
    go_wp2
    go_loopw [11] (fun i wr => ∃ k : Nat, k ≤ xs.length ∧ i = .int .i64 k ∧ Below w.heap.size w wr ∧ chkHs none xs = chkHs (prevH xs k) (xs.drop k)) (fun i _ => xs.length - (intOf i).toNat)
    case atStart => exact ⟨0, Nat.zero_le _, rfl, Below.refl _ _, rfl⟩
    case round =>
      obtain ⟨k, hk, rfl, hb, ha⟩ := hrel
      have HA := hide ha
      have HB := hide hb
      have hz := hb.size
      clear ha hb
      by_cases hlt : k < xs.length
      · obtain ⟨b, off, x, rfl, hbB, hx, c0, c1, c2, c3, c4, c5, c6, c7, c8, c9, c10⟩ := Hos_at (HS.out.below HB.out) hlt
        have HX := hide (chkHs_step hx)
        have HBW := hide (HB.out.alloc hz (.cells (hoC x) 47))
        have hc := fun W => hcheck_any x W
        generalize chkH x = ce at hc HX
        unfold hoV at hc
        have HC := hide hc
        clear hx hc
        by_cases hk0 : k = 0
        · subst hk0
          simp only [Nat.zero_mul, Nat.add_zero] at c0 c1 c2 c3 c4 c5 c6 c7 c8 c9 c10
          have HLE := hide (show ¬ (prevH xs 0).any (fun q => decide (x.id ≤ q)) = true from by rw [prevH, anyO_none]; decide)
          by_cases hce : (ce != 0) = true
          · have hn : ¬ ce = 0 := by simpa using hce
            have HCE := hide hce
            clear hce
            go_wp2_with fail
            go_quiet (fail)
            go_wp2_with fail
            refine (HC.out _).mono ?_
            rintro e w' ⟨rfl, hb'⟩
            go_wp2
            go_ret
            exact ⟨ret_int (rightH_err HN64.out (by rw [HA.out, HX.out, if_neg HLE.out, if_pos HCE.out]) HCE.out).symm, (below_drewN HBW.out _).trans (hb'.mono (Below.size (below_drewN HBW.out _)))⟩
          · have hn : ce = 0 := by simpa using hce
            have HCE := hide hce
            clear hce
            subst hn
            go_wp2_with fail
            go_quiet (fail)
            go_wp2_with fail
            refine (HC.out _).mono ?_
            rintro e w' ⟨rfl, hb'⟩
            go_wp2
            go_roundw
            case rel => exact ⟨1, by omega, rfl, (below_drewN HBW.out _).trans (hb'.mono (Below.size (below_drewN HBW.out _))), by rw [HA.out, HX.out, if_neg HLE.out, if_neg HCE.out]⟩
            case measure => simp [intOf]; omega
        · obtain ⟨b', off', y, hA, hbB', hy, d0, d1, d2, d3, d4, d5, d6, d7, d8, d9, d10⟩ := Hos_at (HS.out.below HB.out) (k := k - 1) (by omega)
          cases hA
          have hpr : prevH xs k = some y.id := by
            obtain ⟨j, rfl⟩ : ∃ j, k = j + 1 := ⟨k - 1, by omega⟩
            rw [prevH]
            simp only [Nat.add_sub_cancel] at hy
            rw [hy]; rfl
          have d0' := fun o => (World.cell?_alloc_lt wr o ⟨b, off + (k - 1) * 11, none⟩ (Nat.lt_of_lt_of_le hbB hz)).trans d0
          have HPR := hide hpr
          clear hy d1 d2 d3 d4 d5 d6 d7 d8 d9 d10 hpr d0
          have hk1 : (0 : Int) < (k : Int) := by omega
          have hk2 : 0 < k := by omega
          by_cases hxy : x.id ≤ y.id
          · have HXY := hide hxy
            go_wp2_with fail
            go_quiet (fail)
            go_wp2
            go_ret
            exact ⟨ret_int (rightH_err HN64.out (by rw [HA.out, HX.out, HPR.out, if_pos (show (some y.id).any (fun q => decide (x.id ≤ q)) = true from decide_eq_true HXY.out)]) (by decide)).symm, below_drewN HBW.out _⟩
          · have HLE := hide (show ¬ (prevH xs k).any (fun q => decide (x.id ≤ q)) = true from by rw [HPR.out]; simpa using hxy)
            have hd : decide (x.id ≤ y.id) = false := by simpa using hxy
            by_cases hce : (ce != 0) = true
            · have hn : ¬ ce = 0 := by simpa using hce
              have HCE := hide hce
              clear hce
              go_wp2_with fail
              go_quiet (fail)
              go_wp2_with fail
              refine (HC.out _).mono ?_
              rintro e w' ⟨rfl, hb'⟩
              go_wp2
              go_ret
              exact ⟨ret_int (rightH_err HN64.out (by rw [HA.out, HX.out, if_neg HLE.out, if_pos HCE.out]) HCE.out).symm, (below_drewN HBW.out _).trans (hb'.mono (Below.size (below_drewN HBW.out _)))⟩
            · have hn : ce = 0 := by simpa using hce
              have HCE := hide hce
              clear hce
              subst hn
              go_wp2_with fail
              go_quiet (fail)
              go_wp2_with fail
              refine (HC.out _).mono ?_
              rintro e w' ⟨rfl, hb'⟩
              go_wp2
              go_roundw
              case rel => exact ⟨k + 1, by omega, by go_num, (below_drewN HBW.out _).trans (hb'.mono (Below.size (below_drewN HBW.out _))), by rw [HA.out, HX.out, if_neg HLE.out, if_neg HCE.out]⟩
              case measure => simp [intOf]; omega
      · obtain rfl : k = xs.length := by omega
        have hc0 : chkHs none xs = 0 := by rw [HA.out, List.drop_length]; rfl
        have hr2 : rightH xs = if (q1 || q2) = true then 7 else 0 := by rw [HR.out, hc0]; rfl
        have HR2 := hide hr2
        clear hc0 hr2 HR
        cases q1 with
        | true =>
          go_wp2_with fail
          refine (T1.out _ HB.out).mono ?_
          rintro e w2 ⟨rfl, hb⟩
          have B2 := hide (HB.out.trans (hb.mono HB.out.size))
          clear hb
          go_wp2
          go_ret
          exact ⟨ret_int (by rw [HR2.out]; rfl), B2.out⟩
        | false =>
          cases q2 with
          | true =>
            go_wp2_with fail
            refine (T1.out _ HB.out).mono ?_
            rintro e w2 ⟨rfl, hb⟩
            have B2 := hide (HB.out.trans (hb.mono HB.out.size))
            clear hb
            go_wp2_with fail
            refine (T2.out _ B2.out).mono ?_
            rintro e w3 ⟨rfl, hb⟩
            have B3 := hide (B2.out.trans (hb.mono B2.out.size))
            clear hb
            go_wp2
            go_ret
            exact ⟨ret_int (by rw [HR2.out]; rfl), B3.out⟩
          | false =>
            go_wp2_with fail
            refine (T1.out _ HB.out).mono ?_
            rintro e w2 ⟨rfl, hb⟩
            have B2 := hide (HB.out.trans (hb.mono HB.out.size))
            clear hb
            go_wp2_with fail
            refine (T2.out _ B2.out).mono ?_
            rintro e w3 ⟨rfl, hb⟩
            have B3 := hide (B2.out.trans (hb.mono B2.out.size))
            clear hb
            go_wp2
            go_ret
            exact ⟨ret_int (by rw [HR2.out]; rfl), B3.out⟩
end Go.Proofs.Ytgjhjabnnhhkbaa
