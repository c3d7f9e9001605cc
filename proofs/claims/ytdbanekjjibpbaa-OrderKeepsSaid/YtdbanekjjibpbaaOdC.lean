/- Walks: order.Right. Printed by gen_od_right.py. -/
import Derived.Test.YtdbanekjjibpbaaOdB
namespace Go.Proofs.Ytdbanekjjibpbaa
open Go.RowKit

set_option maxRecDepth 100000 in
set_option maxHeartbeats 2000000 in
theorem oright_any (A : Option Addr) (n c : Nat) (xs : List Od) (w : World) (hs : Ods w w.heap.size A n c xs) (hss : ∀ x ∈ xs, OdS w w.heap.size x) :
    Calls Try.prog 28 #[.slice A n c] w fun e w' => e = .returned (.int .i64 (rightO xs)) ∧ Below w.heap.size w w' := by
  obtain rfl := hs.len
  have hle := hs.le
  have hbig := hs.big
  have HS := hide hs
  have HSS := hide hss
  clear hs hss
  by_cases h64 : 64 < xs.length
  · have hr : rightO xs = 13 := by unfold rightO; rw [if_pos h64]
    rw [hr]
    clear hr
    go_enter Try.func28, Try.ntmps28
    go_wp2
    go_ret
    exact ⟨rfl, Below.refl _ _⟩
  · have hr : rightO xs = chkOs none xs := by unfold rightO; rw [if_neg h64]
    have HR := hide hr
    clear hr
    go_enter Try.func28, Try.ntmps28
    go_wp2
    go_loopw [11] (fun i wr => ∃ k : Nat, k ≤ xs.length ∧ i = .int .i64 k ∧ Below w.heap.size w wr ∧ chkOs none xs = chkOs (prevO xs k) (xs.drop k)) (fun i _ => xs.length - (intOf i).toNat)
    case atStart => exact ⟨0, Nat.zero_le _, rfl, Below.refl _ _, rfl⟩
    case round =>
      obtain ⟨k, hk, rfl, hb, ha⟩ := hrel
      have HA := hide ha
      have HB := hide hb
      have hz := hb.size
      clear ha hb
      by_cases hlt : k < xs.length
      · obtain ⟨b, off, x, rfl, hbB, hx, c0, c1, c2, c3, c4, c5, c6, c7, c8, c9⟩ := Ods_at (HS.out.below HB.out) hlt
        have HX := hide (chkOs_step hx)
        have HBW := hide (HB.out.alloc hz (.cells (odC x) 37))
        have hc := fun W (hW : Below w.heap.size w W) => ocheck_any x W (((HSS.out x (List.mem_of_getElem? hx)).below hW).more hW.size)
        generalize chkO x = ce at hc HX
        unfold odV at hc
        have HC := hide hc
        clear hx hc
        by_cases hk0 : k = 0
        · subst hk0
          simp only [Nat.zero_mul, Nat.add_zero] at c0 c1 c2 c3 c4 c5 c6 c7 c8 c9
          have HLE := hide (show ¬ (prevO xs 0).any (fun q => decide (x.id ≤ q)) = true from by rw [prevO, anyO_none]; decide)
          by_cases hce : (ce != 0) = true
          · have hn : ¬ ce = 0 := by simpa using hce
            have HCE := hide hce
            clear hce
            go_wp2_with fail
            go_quiet (fail)
            go_wp2_with fail
            refine (HC.out _ (below_drewN HBW.out _)).mono ?_
            rintro e w' ⟨rfl, hb'⟩
            go_wp2
            go_ret
            exact ⟨ret_int (by rw [HR.out, HA.out, HX.out, if_neg HLE.out, if_pos HCE.out]), (below_drewN HBW.out _).trans (hb'.mono (Below.size (below_drewN HBW.out _)))⟩
          · have hn : ce = 0 := by simpa using hce
            have HCE := hide hce
            clear hce
            subst hn
            go_wp2_with fail
            go_quiet (fail)
            go_wp2_with fail
            refine (HC.out _ (below_drewN HBW.out _)).mono ?_
            rintro e w' ⟨rfl, hb'⟩
            go_wp2
            go_roundw
            case rel => exact ⟨1, by omega, rfl, (below_drewN HBW.out _).trans (hb'.mono (Below.size (below_drewN HBW.out _))), by rw [HA.out, HX.out, if_neg HLE.out, if_neg HCE.out]⟩
            case measure => simp [intOf]; omega
        · obtain ⟨b', off', y, hA, hbB', hy, d0, d1, d2, d3, d4, d5, d6, d7, d8, d9⟩ := Ods_at (HS.out.below HB.out) (k := k - 1) (by omega)
          cases hA
          have hpr : prevO xs k = some y.id := by
            obtain ⟨j, rfl⟩ : ∃ j, k = j + 1 := ⟨k - 1, by omega⟩
            rw [prevO]
            simp only [Nat.add_sub_cancel] at hy
            rw [hy]; rfl
          have d0' := fun o => (World.cell?_alloc_lt wr o ⟨b, off + (k - 1) * 10, none⟩ (Nat.lt_of_lt_of_le hbB hz)).trans d0
          have HPR := hide hpr
          clear hy d1 d2 d3 d4 d5 d6 d7 d8 d9 hpr d0
          have hk1 : (0 : Int) < (k : Int) := by omega
          have hk2 : 0 < k := by omega
          by_cases hxy : x.id ≤ y.id
          · have HXY := hide hxy
            go_wp2_with fail
            go_quiet (fail)
            go_wp2
            go_ret
            exact ⟨ret_int (by rw [HR.out, HA.out, HX.out, HPR.out, if_pos (show (some y.id).any (fun q => decide (x.id ≤ q)) = true from decide_eq_true HXY.out)]), below_drewN HBW.out _⟩
          · have HLE := hide (show ¬ (prevO xs k).any (fun q => decide (x.id ≤ q)) = true from by rw [HPR.out]; simpa using hxy)
            have hd : decide (x.id ≤ y.id) = false := by simpa using hxy
            by_cases hce : (ce != 0) = true
            · have hn : ¬ ce = 0 := by simpa using hce
              have HCE := hide hce
              clear hce
              go_wp2_with fail
              go_quiet (fail)
              go_wp2_with fail
              refine (HC.out _ (below_drewN HBW.out _)).mono ?_
              rintro e w' ⟨rfl, hb'⟩
              go_wp2
              go_ret
              exact ⟨ret_int (by rw [HR.out, HA.out, HX.out, if_neg HLE.out, if_pos HCE.out]), (below_drewN HBW.out _).trans (hb'.mono (Below.size (below_drewN HBW.out _)))⟩
            · have hn : ce = 0 := by simpa using hce
              have HCE := hide hce
              clear hce
              subst hn
              go_wp2_with fail
              go_quiet (fail)
              go_wp2_with fail
              refine (HC.out _ (below_drewN HBW.out _)).mono ?_
              rintro e w' ⟨rfl, hb'⟩
              go_wp2
              go_roundw
              case rel => exact ⟨k + 1, by omega, by go_num, (below_drewN HBW.out _).trans (hb'.mono (Below.size (below_drewN HBW.out _))), by rw [HA.out, HX.out, if_neg HLE.out, if_neg HCE.out]⟩
              case measure => simp [intOf]; omega
      · obtain rfl : k = xs.length := by omega
        go_wp2
        go_ret
        exact ⟨ret_int (by rw [HR.out, HA.out, List.drop_length]; rfl), HB.out⟩
end Go.Proofs.Ytdbanekjjibpbaa
