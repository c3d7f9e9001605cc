/- Walks: the law OrderShares. -/
import Derived.Test.YtdbanekjjibpbaaOdT1
import Derived.Test.YtdbanekjjibpbaaShE
namespace Go.Proofs.Ytdbanekjjibpbaa
open Go.RowKit

theorem sumI_step {xs : List Int} {k : Nat} {x : Int} (h : xs[k]? = some x) : (xs.take (k + 1)).sum = (xs.take k).sum + x := sum_step h
theorem sumI_bd {M : Int} (hM : 0 ≤ M) : ∀ (xs : List Int), (∀ x ∈ xs, 0 ≤ x ∧ x ≤ M) → 0 ≤ xs.sum ∧ xs.sum ≤ xs.length * M
  | [], _ => by simp
  | x :: r, h => by
    have h1 := h x (by simp)
    have ih := sumI_bd hM r (fun y hy => h y (by simp [hy]))
    rw [List.sum_cons, List.length_cons]
    push_cast
    rw [Int.add_mul]; omega
theorem shareF_bd {t : Int} {ws : List Int} (h : WsV t ws) : ∀ y ∈ shareF t ws, 0 ≤ y ∧ y ≤ 100000000016 := by
  intro y hy
  have h1 := baseF_bd (t := t) (S := ws.sum) ⟨h.t0, h.t1⟩ h.S.1 h.w
  have h2 := bump_bd 100000000000 _ _ h1.1 y (show y ∈ bump (baseF t ws.sum ws) ((ordF t ws.sum ws).take (leftF t ws.sum ws).toNat) from hy)
  have h3 : ((ordF t ws.sum ws).take (leftF t ws.sum ws).toNat).length ≤ 16 := by rw [List.length_take, ordF_len]; have := h.n1; omega
  omega

set_option maxRecDepth 100000 in
set_option maxHeartbeats 4000000 in
theorem orderShares_any (x : Od) (t : Int) (w : World) (hx : x.shn ≤ 8 → OdS w w.heap.size x) :
    LawO 7 #[odV x, .int .i64 t] w := by
  unfold LawO
  have B0 := hide ((Below.refl w.heap.size w).alloc (Nat.le_refl _) (.cells (odC x) 37))
  have Z0 := hide (Below.refl (w.heap.size + 1) (w.alloc (.cells (odC x) 37)))
  have HZ := hide (fun W (hW : Below (w.heap.size + 1) (w.alloc (.cells (odC x) 37)) W) => (Box.new w 37 (odC x)).below hW (by omega))
  by_cases h8 : x.shn ≤ 8
  · have h8z : ¬ (8 : Int) < (x.shn : Int) := by omega
    have hX := fun W (hW : Below w.heap.size w W) => ((hx h8).below hW).more hW.size
    have hle := (hx h8).le
    have HX := hide hX
    have hlen := (hx h8).len
    have HLEN := hide hlen
    have hR := fun (W : World) (hW : Below w.heap.size w W) => oright_any (some ⟨W.heap.size, 0, none⟩) 1 1 [x] (W.alloc (.cells (odC x) 37)) ((od_sl1 (x := x) (Box.new W 37 (odC x))).more (by simp)) (fun y hy => by rw [List.mem_singleton.1 hy]; exact hX _ (hW.alloc hW.size _))
    by_cases hr : rightO [x] = 0
    · rw [hr] at hR
      have hchk : chkO x = 0 := chkOs_ok _ _ (VldO.of hr).chk x (by simp)
      have hsv := (chkO_M hchk).2.2.2.1
      have hS := fun W (hW : Below w.heap.size w W) => osplit_any x t W (hX W hW) hsv
      have HR := hide hR
      by_cases ht : mnyS t = true
      · have hWV := wsO_V hsv ht
        have e1 : splitO x t = (0, shareF t (wsO x)) := by unfold splitO; rw [if_pos ht]
        rw [e1] at hS
        have hwl : (wsO x).length = x.shn := by simp [wsO]; omega
        have n0 := hWV.n0
        have n1 := hWV.n1
        rw [hwl] at n0 n1
        have h4 : x.shn ≤ 4 := by have := (sharesV_W hsv).1; omega
        have t0 := hWV.t0
        have t1 := hWV.t1
        have hsl : (shareF t (wsO x)).length = x.shn := by rw [shareF_len, hwl]
        have hwb : ∀ y ∈ wsO x, 1 ≤ y ∧ y ≤ 100 := (sharesV_W hsv).2
        have hfar := fun (q : Nat) (hq : q < (wsO x).length) => share_far hWV hq
        have hsum := share_sum hWV
        have hsb := shareF_bd hWV
        have hwk : ∀ (k : Nat) (y : Sh), x.sh[k]? = some y → (wsO x)[k]? = some y.weight := fun k y h => by unfold wsO; rw [List.getElem?_map, h]; rfl
        generalize shareF t (wsO x) = ss at hS hsl hfar hsum hsb
        generalize wsO x = ws at hwl hwb hfar hwk
        have HWB := hide hwb
        have HFAR := hide hfar
        have HSUM := hide hsum
        have HSB := hide hsb
        have HWK := hide hwk
        have HWL := hide hwl
        have HSL := hide hsl
        unfold odV at hS
        have HS := hide hS
        have t0n : ¬ t < 0 := by omega
        have t1n : ¬ 100000000 < t := by omega
        have hw400 : 0 ≤ ws.sum ∧ ws.sum ≤ 400 := by
          have := sumI_bd (M := 100) (by omega) ws (fun y hy => by have := hwb y hy; omega)
          omega
        have HW4 := hide hw400
        clear hx hX hlen hR hr hchk hsv hS ht hWV e1 hwl hsl hwb hfar hsum hsb hwk hw400
        unfold odV
        go_enter Try.func7, Try.ntmps7
        go_wp2_with fail
        refine (oalive_any _).mono ?_
        rintro e w1 ⟨rfl, hb⟩
        have B1 := hide (B0.out.trans (hb.mono (by simp)))
        have Z1 := hide (Z0.out.trans (hb.mono (by simp)))
        have hz1 := Z1.out.size
        simp only [World.size_alloc] at hz1
        obtain ⟨_, d0, d1, d2, d3, d4, d5, d6, d7, d8, d9⟩ := od_box (HZ.out _ Z1.out) (Below.refl _ _)
        clear hb B0 Z0
        go_wp2_with fail
        refine (HR.out _ B1.out).mono ?_
        rintro e w2 ⟨rfl, hb⟩
        have B2 := hide ((B1.out.alloc B1.out.size _).trans (hb.mono (Nat.le_trans B1.out.size (by simp))))
        have Z2 := hide ((Z1.out.alloc hz1 _).trans (hb.mono (Nat.le_trans hz1 (by simp))))
        clear d0 d1 d2 d3 d4 d5 d6 d7 d8 d9
        obtain ⟨_, d0, d1, d2, d3, d4, d5, d6, d7, d8, d9⟩ := od_box (HZ.out _ Z2.out) (Below.refl _ _)
        have hz2 := Z2.out.size
        simp only [World.size_alloc] at hz2
        clear hb B1 Z1
        go_wp2_with fail
        refine (HS.out _ B2.out).mono ?_
        rintro e w3 ⟨v, rfl, hown, hb⟩
        have B3 := hide (B2.out.trans (hb.mono B2.out.size))
        have Z3 := hide (Z2.out.trans (hb.mono hz2))
        obtain ⟨A1, c1, hv, hsl1⟩ := Ino_sl hown (by rw [HSL.out]; omega)
        rw [HSL.out] at hv hsl1
        subst hv
        have S1 := hide hsl1
        have hz3 := Z3.out.size
        simp only [World.size_alloc] at hz3
        have hbig1 := hsl1.big
        clear hb B2 Z2 hown hsl1 HS HR d0 d1 d2 d3 d4 d5 d6 d7 d8 d9
        obtain ⟨_, d0, d1, d2, d3, d4, d5, d6, d7, d8, d9⟩ := od_box (HZ.out _ Z3.out) (Below.refl _ _)
        clear d0 d1 d2 d3 d4 d5 d6 d7 d8
        have hX3 := hide (HX.out _ B3.out)
        go_wp2
        go_loop [7, 8, 9] (fun s7 s8 s9 => ∃ (k : Nat) (a b : Int), k ≤ x.shn ∧ s9 = .int .i64 k ∧ s7 = .int .i64 a ∧ s8 = .int .i64 b ∧ a = (ws.take k).sum ∧ b = (ss.take k).sum) (fun _ _ s9 => x.shn - (intOf s9).toNat)
        case atStart => exact ⟨0, 0, 0, Nat.zero_le _, rfl, rfl, rfl, rfl, rfl⟩
        case round =>
          obtain ⟨k, a, b, hk, rfl, rfl, rfl, ha, hb⟩ := hrel
          have HA := hide ha
          have HBB := hide hb
          have ab : 0 ≤ a ∧ a ≤ 400 := by
            have h1 := sumI_bd (M := 100) (by omega) (ws.take k) (fun y hy => by have := HWB.out y (List.mem_of_mem_take hy); omega)
            have h2 : (ws.take k).length ≤ 4 := by rw [List.length_take, HWL.out]; omega
            omega
          have bb : 0 ≤ b ∧ b ≤ 400000000064 := by
            have h1 := sumI_bd (M := 100000000016) (by omega) (ss.take k) (fun y hy => HSB.out y (List.mem_of_mem_take hy))
            have h2 : (ss.take k).length ≤ 4 := by rw [List.length_take, HSL.out]; omega
            omega
          obtain ⟨ab1, ab2⟩ := ab
          obtain ⟨bb1, bb2⟩ := bb
          clear ha hb
          by_cases hlt : k < x.shn
          · obtain ⟨b1, off1, y, hA1, hbB1, hy, e0, e1⟩ := Shs_at hX3.out hlt
            obtain ⟨b2, off2, u, hA2, hbB2, hu, f0⟩ := Is_at S1.out hlt
            have hyw := HWK.out k y hy
            have HST1 := hide (sumI_step hyw)
            have HST2 := hide (sumI_step hu)
            have hyb := HWB.out _ (List.mem_of_getElem? hyw)
            have hub := HSB.out _ (List.mem_of_getElem? hu)
            obtain ⟨hyb1, hyb2⟩ := hyb
            obtain ⟨hub1, hub2⟩ := hub
            have w1' : IntKind.i64.wrap (a + y.weight) = a + y.weight := by rw [IntKind.wrap_i64]; omega
            have w2' : IntKind.i64.wrap (b + u) = b + u := by rw [IntKind.wrap_i64]; omega
            have hkz : (k : Int) < (x.shn : Int) := by omega
            rw [hA1] at d9
            have HA1 := hide hA1
            subst hA2
            clear hy hu hyw hA1
            go_wp2
            go_round
            case rel => exact ⟨k + 1, a + y.weight, b + u, by omega, by go_num, rfl, rfl, by rw [HST1.out, HA.out], by rw [HST2.out, HBB.out]⟩
            case measure => simp [intOf]; omega
          · have hkn : k = x.shn := by omega
            have haw : a = ws.sum := by rw [HA.out, List.take_of_length_le (by rw [HWL.out]; omega)]
            have hbt : b = t := by rw [HBB.out, List.take_of_length_le (by rw [HSL.out]; omega), HSUM.out]
            subst haw
            subst hbt
            have hkz : ¬ (k : Int) < (x.shn : Int) := by omega
            have Q3 := hide (Below.refl w3.heap.size w3)
            have hneg : IntKind.i64.wrap (-ws.sum) = -ws.sum := by rw [IntKind.wrap_i64]; omega
            clear HA HBB
            go_wp2
            go_loopw [10] (fun s10 wr => ∃ j : Nat, j ≤ x.shn ∧ s10 = .int .i64 j ∧ Below w3.heap.size w3 wr) (fun s10 _ => x.shn - (intOf s10).toNat)
            case atStart => exact ⟨0, Nat.zero_le _, rfl, Q3.out⟩
            case round =>
              obtain ⟨j, hj, rfl, hb⟩ := hrel
              clear Q3
              have Q3 := hide hb
              have hz := hb.size
              have d9' := (hb.cell (p := ⟨w.heap.size, 9, none⟩) (show w.heap.size < w3.heap.size by omega)).trans d9
              by_cases hjt : j < x.shn
              · obtain ⟨b1, off1, y, hA1, hbB1, hy, e0, e1⟩ := Shs_at (hX3.out.below hb) hjt
                obtain ⟨b2, off2, u, hA2, hbB2, hu, f0⟩ := Is_at (S1.out.below hb) hjt
                have hyw := HWK.out j y hy
                obtain ⟨hyb1, hyb2⟩ := HWB.out _ (List.mem_of_getElem? hyw)
                obtain ⟨hub1, hub2⟩ := HSB.out _ (List.mem_of_getElem? hu)
                have hf := HFAR.out j (by rw [HWL.out]; exact hjt)
                rw [List.getD_eq_getElem?_getD, List.getD_eq_getElem?_getD, hu, hyw] at hf
                simp only [Option.getD_some] at hf
                obtain ⟨hf1, hf2⟩ := hf
                have m1 : 0 ≤ u * ws.sum := Int.mul_nonneg hub1 ab1
                have m2 : u * ws.sum ≤ 100000000016 * 400 := Int.mul_le_mul hub2 ab2 ab1 (by omega)
                have m3 : 0 ≤ b * y.weight := Int.mul_nonneg t0 (by omega)
                have m4 : b * y.weight ≤ 100000000 * 100 := Int.mul_le_mul t1 hyb2 (by omega) (by omega)
                have x1 : IntKind.i64.wrap (u * ws.sum) = u * ws.sum := by rw [IntKind.wrap_i64]; omega
                have x2 : IntKind.i64.wrap (b * y.weight) = b * y.weight := by rw [IntKind.wrap_i64]; omega
                have x3 : IntKind.i64.wrap (u * ws.sum - b * y.weight) = u * ws.sum - b * y.weight := by rw [IntKind.wrap_i64]; omega
                have c1' : ¬ ws.sum ≤ u * ws.sum - b * y.weight := by omega
                have c2' : ¬ u * ws.sum - b * y.weight ≤ -ws.sum := by omega
                have hjz : (j : Int) < (x.shn : Int) := by omega
                rw [hA1] at d9'
                have HA1 := hide hA1
                subst hA2
                clear hy hu hyw hA1 hb d9
                go_wp2_with fail
                go_quiet (fail)
                go_wp2
                go_roundw
                case rel => exact ⟨j + 1, by omega, by go_num, below_drewN Q3.out _⟩
                case measure => simp [intOf]; omega
              · clear hb
                have hjz : ¬ (j : Int) < (x.shn : Int) := by omega
                go_wp2
                go_ret
                exact ⟨rfl, B3.out.trans (Q3.out.mono B3.out.size)⟩
      · have ht' : mnyS t = false := by simpa using ht
        have e1 : splitO x t = (2, []) := by unfold splitO; rw [if_neg ht]
        rw [e1] at hS
        unfold odV at hS
        have HS := hide hS
        have htt : t < 0 ∨ (¬ t < 0 ∧ 100000000 < t) := by
          unfold mnyS at ht'
          rw [Bool.and_eq_false_iff, decide_eq_false_iff_not, decide_eq_false_iff_not] at ht'
          omega
        clear hx hX hlen hR hr hchk hsv hS ht ht' e1
        unfold odV
        rcases htt with h0 | ⟨h0, h1⟩
        all_goals
          go_enter Try.func7, Try.ntmps7
          go_wp2_with fail
          refine (oalive_any _).mono ?_
          rintro e w1 ⟨rfl, hb⟩
          have B1 := hide (B0.out.trans (hb.mono (by simp)))
          have Z1 := hide (Z0.out.trans (hb.mono (by simp)))
          have hz1 := Z1.out.size
          simp only [World.size_alloc] at hz1
          obtain ⟨_, d0, d1, d2, d3, d4, d5, d6, d7, d8, d9⟩ := od_box (HZ.out _ Z1.out) (Below.refl _ _)
          clear hb B0 Z0
          go_wp2_with fail
          refine (HR.out _ B1.out).mono ?_
          rintro e w2 ⟨rfl, hb⟩
          have B2 := hide ((B1.out.alloc B1.out.size _).trans (hb.mono (Nat.le_trans B1.out.size (by simp))))
          have Z2 := hide ((Z1.out.alloc hz1 _).trans (hb.mono (Nat.le_trans hz1 (by simp))))
          clear d0 d1 d2 d3 d4 d5 d6 d7 d8 d9
          obtain ⟨_, d0, d1, d2, d3, d4, d5, d6, d7, d8, d9⟩ := od_box (HZ.out _ Z2.out) (Below.refl _ _)
          clear hb B1 Z1
          go_wp2_with fail
          refine (HS.out _ B2.out).mono ?_
          rintro e w3 ⟨v, rfl, hown, hb⟩
          have B3 := hide (B2.out.trans (hb.mono B2.out.size))
          clear hb
          go_wp2
          go_ret
          exact ⟨rfl, B3.out⟩
    · have hrb : (rightO [x] != 0) = true := by simpa using hr
      generalize rightO [x] = r at hR hrb
      have HR := hide hR
      clear hx hX hlen hR hr
      unfold odV
      go_enter Try.func7, Try.ntmps7
      go_wp2_with fail
      refine (oalive_any _).mono ?_
      rintro e w1 ⟨rfl, hb⟩
      have B1 := hide (B0.out.trans (hb.mono (by simp)))
      have Z1 := hide (Z0.out.trans (hb.mono (by simp)))
      obtain ⟨_, d0, d1, d2, d3, d4, d5, d6, d7, d8, d9⟩ := od_box (HZ.out _ Z1.out) (Below.refl _ _)
      clear hb B0 Z0
      go_wp2_with fail
      refine (HR.out _ B1.out).mono ?_
      rintro e w2 ⟨rfl, hb⟩
      have B2 := hide ((B1.out.alloc B1.out.size _).trans (hb.mono (Nat.le_trans B1.out.size (by simp))))
      clear hb
      go_wp2
      go_ret
      exact ⟨rfl, B2.out⟩
  · have h8z : (8 : Int) < (x.shn : Int) := by omega
    clear hx
    unfold odV
    go_enter Try.func7, Try.ntmps7
    go_wp2_with fail
    refine (oalive_any _).mono ?_
    rintro e w1 ⟨rfl, hb⟩
    have B1 := hide (B0.out.trans (hb.mono (by simp)))
    have Z1 := hide (Z0.out.trans (hb.mono (by simp)))
    obtain ⟨_, d0, d1, d2, d3, d4, d5, d6, d7, d8, d9⟩ := od_box (HZ.out _ Z1.out) (Below.refl _ _)
    clear hb B0 Z0
    go_wp2
    go_ret
    exact ⟨rfl, B1.out⟩
end Go.Proofs.Ytdbanekjjibpbaa
