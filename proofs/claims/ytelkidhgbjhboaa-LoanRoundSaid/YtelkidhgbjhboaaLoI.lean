/- Walks: Renew, Recall of the reference. -/
import Derived.Test.YtelkidhgbjhboaaLoG
namespace Go.Proofs.Ytelkidhgbjhboaa
open Go.RowKit

/-- A store of one cell of one element, and the row reads on as a list. -/
theorem lo_store {w : World} {base g n cap : Nat} {xs : List Lo} (h : w.ownsRow base 28 6 (.slice (some ⟨g, 0, none⟩) n cap) n (xs.flatMap loE)) {i j : Nat} {x y : Lo} {u : Value} (hx : xs[i]? = some x) (hj : j < 6) (he : loE y = (loE x).set j u) :
    (w.setCell ⟨g, i * 6 + j, none⟩ u).ownsRow base 28 6 (.slice (some ⟨g, 0, none⟩) n cap) n ((xs.set i y).flatMap loE) := own_set loE_len h hx hj he

set_option maxHeartbeats 1000000 in
theorem rrenew_any (A : Option Addr) (n c : Nat) (xs : List Lo) (item due : Int) (w : World) (hs : Los w w.heap.size A n c xs) (hn : n ≤ 1000) (hm : ∀ x ∈ xs, LoM x) :
    Calls Try.prog 19 #[.slice A n c, .int .i64 item, .int .i64 due] w (ResL w (renewL xs item due)) := by
  obtain ⟨i0, hi0, hz0, hz1, hz2⟩ := info_parts lo_info
  obtain rfl := hs.len
  have hp := lat_any A xs.length c xs item w _ hs
  have hbig := hs.big
  have HS := hide hs
  have HI := hide (And.intro hi0 (And.intro hz0 (And.intro hz1 hz2)))
  unfold atL at hp
  rcases fst_cases (fun x => x.item == item) xs with ⟨h1, h2, _⟩ | ⟨i, x, h1, h2, h3, h4, _⟩
  · have e1 : renewL xs item due = (9, []) := by unfold renewL atL; rw [if_pos h1]
    rw [e1]
    rw [h1] at hp
    have HP := hide hp
    clear hp h1 h2 e1 hs hi0 hz0 hz1 hz2
    go_enter Try.func19, Try.ntmps19
    go_wp2_with fail
    refine HP.out.mono ?_
    rintro e w1 ⟨rfl, rfl⟩
    go_wp2
    go_ret2
    exact ResL.nil (Below.refl _ _)
  · have hi : i < xs.length := (List.getElem?_eq_some_iff.1 h2).1
    have hM := hm x (List.mem_of_getElem? h2)
    rw [h1] at hp
    have hne : ¬ (atL xs item = -1) := by unfold atL; rw [h1]; omega
    have hat : (atL xs item).toNat = i := by unfold atL; rw [h1]; rfl
    obtain ⟨b, off, y, rfl, hbB, hy, c0, c1, c2, c3, c4, c5⟩ := Los_at hs hi
    obtain rfl : x = y := by rw [hy] at h2; exact (Option.some.inj h2).symm
    have HP := hide hp
    have HX := hide hy
    by_cases hr : x.rcl = true
    · have e1 : renewL xs item due = (12, []) := by unfold renewL; rw [if_neg hne, h4, if_pos hr]
      rw [e1]
      rw [hr] at c5
      clear hp h1 h2 e1 hs hi0 hz0 hz1 hz2 hne hat h4 hr hy c0 c1 c2 c3 c4
      go_enter Try.func19, Try.ntmps19
      go_wp2_with fail
      refine HP.out.mono ?_
      rintro e w1 ⟨rfl, rfl⟩
      go_wp2
      go_ret2
      exact ResL.nil (Below.refl _ _)
    · have e1 : renewL xs item due = chd (xs.set i (renF due x)) := by unfold renewL; rw [if_neg hne, h4, if_neg hr, hat]
      rw [e1]
      have hr' : x.rcl = false := by simpa using hr
      rw [hr'] at c5
      have ⟨q1, q2⟩ := hM.ren
      clear hp h1 h2 e1 hs hi0 hz0 hz1 hz2 hne hat h4 hr hy c0 c1 c2 c3 c4 hM hr'
      have HSA := hide (HS.out.alloc (Nat.le_refl _) (.cells #[] 28))
      go_enter Try.func19, Try.ntmps19
      go_wp2_with fail
      refine HP.out.mono ?_
      rintro e w1 ⟨rfl, rfl⟩
      go_wp2_with (at_builtin; go_must (refine wpList_append_sl _ rfl _ _ 22 rfl w.heap.size 28 i0 _ 48 Try.underlying22 HI.out.1 HI.out.2.1 HI.out.2.2.1 HI.out.2.2.2 rfl (by decide) loE_len loE_one _ 0 [] rfl (World.ownsRow_made w #[] 0 (Nat.le_refl _) (Nat.zero_le _) rfl) _ _ _ rfl HSA.out (by unfold maxLen; omega) (by omega) (by simp) ?_))
      intro v' w1 hown hg hat
      have B1 := hide (((Below.refl _ w).alloc (Nat.le_refl _) (.cells #[] 28)).grown hg (by simp) (by intro k hk; simp [Value.ownBlock] at hk; omega))
      rcases own_box hown with ⟨_, h0⟩ | ⟨g, cap, cur, rfl, hbg, hB, hnc, hcm, hcs, htk⟩
      · omega
      · have HO := hide hown
        obtain ⟨d0, d1, d2, d3, d4, d5⟩ := lo_cells (b := g) (o := i * 6) (own_cell loE_len hown rfl HX.out)
        have hfz := fun j => hB.frz j
        have hne : g ≠ b := by omega
        obtain ⟨b', off', z, hA, _, hz, _, _, _, _, c4, _⟩ := Los_at (HS.out.below B1.out) hi
        cases hA
        obtain rfl : z = x := by have := HX.out; rw [hz] at this; exact Option.some.inj this
        clear hown hg hat hB hcs htk c5 d0 d1 d2 d5 HSA hz
        go_wp2_with fail
        have o1 := lo_store HO.out (y := { z with due := due }) (u := .int .i64 due) HX.out (show 3 < 6 from by decide) rfl
        have o2 := lo_store o1 (i := i) (j := 4) (x := { z with due := due }) (y := renF due z) (u := .int .i64 (z.ren + 1)) (set_get HX.out) (by decide) rfl
        rw [List.set_set] at o2
        have hsl := Sl.of_own loE_len o2 (by simp) hbig
        refine (rchecked_any _ _ _ _ _ hsl).mono ?_
        rintro e w2 ⟨A2, n2, c2, rfl, hsl2, hb⟩
        have B2 := hide ((((B1.out.setCell (p := ⟨g, i * 6 + 3, none⟩) hbg (.int .i64 due)).setCell (p := ⟨g, i * 6 + 4, none⟩) hbg (.int .i64 (z.ren + 1)))).trans (hb.mono (by have := B1.out.size; simpa using this)))
        clear o1 o2 hsl hb
        go_wp2
        go_ret2
        exact ⟨A2, n2, c2, rfl, hsl2, B2.out⟩

theorem own_drewN {w : World} {base k n : Nat} {t : TypeId} {v : Value} {ys : List Value} (h : w.ownsRow base t k v n ys) (m : Nat) : (w.drewN m).ownsRow base t k v n ys := h

set_option maxHeartbeats 1000000 in
theorem rrecall_any (A : Option Addr) (n c : Nat) (xs : List Lo) (item due : Int) (w : World) (hs : Los w w.heap.size A n c xs) (hn : n ≤ 1000) :
    Calls Try.prog 21 #[.slice A n c, .int .i64 item, .int .i64 due] w (ResL w (recallL xs item due)) := by
  obtain ⟨i0, hi0, hz0, hz1, hz2⟩ := info_parts lo_info
  obtain rfl := hs.len
  have hp := lat_any A xs.length c xs item w _ hs
  have hbig := hs.big
  have HS := hide hs
  have HI := hide (And.intro hi0 (And.intro hz0 (And.intro hz1 hz2)))
  unfold atL at hp
  rcases fst_cases (fun x => x.item == item) xs with ⟨h1, h2, _⟩ | ⟨i, x, h1, h2, h3, h4, _⟩
  · have e1 : recallL xs item due = (9, []) := by unfold recallL atL; rw [if_pos h1]
    rw [e1]
    rw [h1] at hp
    have HP := hide hp
    clear hp h1 h2 e1 hs hi0 hz0 hz1 hz2
    go_enter Try.func21, Try.ntmps21
    go_wp2_with fail
    refine HP.out.mono ?_
    rintro e w1 ⟨rfl, rfl⟩
    go_wp2
    go_ret2
    exact ResL.nil (Below.refl _ _)
  · have hi : i < xs.length := (List.getElem?_eq_some_iff.1 h2).1
    rw [h1] at hp
    have hne : ¬ (atL xs item = -1) := by unfold atL; rw [h1]; omega
    have hat : (atL xs item).toNat = i := by unfold atL; rw [h1]; rfl
    obtain ⟨b, off, y, rfl, hbB, hy, c0, c1, c2, c3, c4, c5⟩ := Los_at hs hi
    obtain rfl : x = y := by rw [hy] at h2; exact (Option.some.inj h2).symm
    have HP := hide hp
    have HX := hide hy
    by_cases hr : x.rcl = true
    · have e1 : recallL xs item due = (12, []) := by unfold recallL; rw [if_neg hne, h4, if_pos hr]
      rw [e1]
      rw [hr] at c5
      clear hp h1 h2 e1 hs hi0 hz0 hz1 hz2 hne hat h4 hr hy c0 c1 c2 c3 c4
      go_enter Try.func21, Try.ntmps21
      go_wp2_with fail
      refine HP.out.mono ?_
      rintro e w1 ⟨rfl, rfl⟩
      go_wp2
      go_ret2
      exact ResL.nil (Below.refl _ _)
    · have hr' : x.rcl = false := by simpa using hr
      rw [hr'] at c5
      cases hdd : dayB due with
      | false =>
        have e1 : recallL xs item due = (2, []) := by unfold recallL; rw [if_neg hne, h4, if_neg hr, if_pos hdd]
        rw [e1]
        have hd : ¬ (0 ≤ due ∧ due ≤ 109572) := fun h => by rw [dayB_iff.2 h] at hdd; cases hdd
        clear hp h1 h2 e1 hs hi0 hz0 hz1 hz2 hne hat h4 hr hy c0 c1 c2 c3 c4 hr' hdd
        by_cases hneg : due < 0
        · go_enter Try.func21, Try.ntmps21
          go_wp2_with fail
          refine HP.out.mono ?_
          rintro e w1 ⟨rfl, rfl⟩
          go_wp2
          go_ret2
          exact ResL.nil (Below.refl _ _)
        · have hup : 109572 < due := by omega
          go_enter Try.func21, Try.ntmps21
          go_wp2_with fail
          refine HP.out.mono ?_
          rintro e w1 ⟨rfl, rfl⟩
          go_wp2
          go_ret2
          exact ResL.nil (Below.refl _ _)
      | true =>
        have e1 : recallL xs item due = (0, xs.set i (recF due x)) := by unfold recallL; rw [if_neg hne, h4, if_neg hr, if_neg (by rw [hdd]; decide), hat]
        rw [e1]
        obtain ⟨u1, u2⟩ := dayB_iff.1 hdd
        clear hp h1 h2 e1 hs hi0 hz0 hz1 hz2 hne hat h4 hr hy c0 c1 c2 c3 c4 hr' hdd
        have HSA := hide (HS.out.alloc (Nat.le_refl _) (.cells #[] 28))
        by_cases h5 : due < x.due
        · by_cases h6 : due < x.out
          · skip
            go_enter Try.func21, Try.ntmps21
            go_wp2_with fail
            refine HP.out.mono ?_
            rintro e w1 ⟨rfl, rfl⟩
            go_wp2_with (at_builtin; go_must (refine wpList_append_sl _ rfl _ _ 22 rfl w.heap.size 28 i0 _ 48 Try.underlying22 HI.out.1 HI.out.2.1 HI.out.2.2.1 HI.out.2.2.2 rfl (by decide) loE_len loE_one _ 0 [] rfl (World.ownsRow_made w #[] 0 (Nat.le_refl _) (Nat.zero_le _) rfl) _ _ _ rfl HSA.out (by unfold maxLen; omega) (by omega) (by simp) ?_))
            intro v' w1 hown hg hat
            have B1 := hide (((Below.refl _ w).alloc (Nat.le_refl _) (.cells #[] 28)).grown hg (by simp) (by intro k hk; simp [Value.ownBlock] at hk; omega))
            rcases own_box hown with ⟨_, h0⟩ | ⟨g, cap, cur, rfl, hbg, hB, hnc, hcm, hcs, htk⟩
            · omega
            · have HO := hide hown
              have hne : g ≠ b := by omega
              obtain ⟨d0, d1, d2, d3, d4, d5⟩ := lo_cells (b := g) (o := i * 6) (own_cell loE_len hown rfl HX.out)
              have hfz := fun j => hB.frz j
              obtain ⟨b', off', z, hA, _, hz, c0, c1, c2, c3, c4, _⟩ := Los_at (HS.out.below B1.out) hi
              cases hA
              obtain rfl : z = x := by have := HX.out; rw [hz] at this; exact Option.some.inj this
              clear hown hg hat hB hcs htk c5 d0 d1 HSA hz c0 c1 c4 d4
              go_wp2_with fail
              go_quiet (fail)
              go_wp2
              go_ret2
              have o0 := lo_store HO.out (i := i) (j := 5) (x := z) (y := { z with rcl := true }) (u := .bool true) HX.out (by decide) rfl
              have o1 := lo_store o0 (i := i) (j := 3) (x := { z with rcl := true }) (y := { z with rcl := true, due := due }) (u := .int .i64 due) (set_get HX.out) (by decide) rfl
              rw [List.set_set] at o1
              have o2 := lo_store (own_drewN o1 nq) (i := i) (j := 3) (x := { z with rcl := true, due := due }) (y := { z with rcl := true, due := z.out }) (u := .int .i64 z.out) (set_get HX.out) (by decide) rfl
              rw [List.set_set] at o2
              have hfin : { z with rcl := true, due := z.out } = recF due z := by simp only [recF, Lo.mk.injEq, true_and, and_true]; omega
              rw [hfin] at o2
              have hsl := Sl.of_own loE_len o2 (by simp) hbig
              exact ⟨_, _, _, rfl, hsl, (below_drewN (((B1.out).setCell (p := ⟨g, i * 6 + 5, none⟩) hbg (.bool true)).setCell (p := ⟨g, i * 6 + 3, none⟩) hbg (.int .i64 due)) nq).setCell (p := ⟨g, i * 6 + 3, none⟩) hbg (.int .i64 z.out)⟩
          · skip
            go_enter Try.func21, Try.ntmps21
            go_wp2_with fail
            refine HP.out.mono ?_
            rintro e w1 ⟨rfl, rfl⟩
            go_wp2_with (at_builtin; go_must (refine wpList_append_sl _ rfl _ _ 22 rfl w.heap.size 28 i0 _ 48 Try.underlying22 HI.out.1 HI.out.2.1 HI.out.2.2.1 HI.out.2.2.2 rfl (by decide) loE_len loE_one _ 0 [] rfl (World.ownsRow_made w #[] 0 (Nat.le_refl _) (Nat.zero_le _) rfl) _ _ _ rfl HSA.out (by unfold maxLen; omega) (by omega) (by simp) ?_))
            intro v' w1 hown hg hat
            have B1 := hide (((Below.refl _ w).alloc (Nat.le_refl _) (.cells #[] 28)).grown hg (by simp) (by intro k hk; simp [Value.ownBlock] at hk; omega))
            rcases own_box hown with ⟨_, h0⟩ | ⟨g, cap, cur, rfl, hbg, hB, hnc, hcm, hcs, htk⟩
            · omega
            · have HO := hide hown
              have hne : g ≠ b := by omega
              obtain ⟨d0, d1, d2, d3, d4, d5⟩ := lo_cells (b := g) (o := i * 6) (own_cell loE_len hown rfl HX.out)
              have hfz := fun j => hB.frz j
              obtain ⟨b', off', z, hA, _, hz, c0, c1, c2, c3, c4, _⟩ := Los_at (HS.out.below B1.out) hi
              cases hA
              obtain rfl : z = x := by have := HX.out; rw [hz] at this; exact Option.some.inj this
              clear hown hg hat hB hcs htk c5 d0 d1 HSA hz c0 c1 c4 d4
              go_wp2_with fail
              go_quiet (fail)
              go_wp2
              go_ret2
              have o0 := lo_store HO.out (i := i) (j := 5) (x := z) (y := { z with rcl := true }) (u := .bool true) HX.out (by decide) rfl
              have o1 := lo_store o0 (i := i) (j := 3) (x := { z with rcl := true }) (y := { z with rcl := true, due := due }) (u := .int .i64 due) (set_get HX.out) (by decide) rfl
              rw [List.set_set] at o1
              have hfin : { z with rcl := true, due := due } = recF due z := by simp only [recF, Lo.mk.injEq, true_and, and_true]; omega
              rw [hfin] at o1
              have hsl := Sl.of_own loE_len (own_drewN o1 nq) (by simp) hbig
              exact ⟨_, _, _, rfl, hsl, below_drewN (((B1.out).setCell (p := ⟨g, i * 6 + 5, none⟩) hbg (.bool true)).setCell (p := ⟨g, i * 6 + 3, none⟩) hbg (.int .i64 due)) nq⟩
        · by_cases h6 : x.due < x.out
          · skip
            go_enter Try.func21, Try.ntmps21
            go_wp2_with fail
            refine HP.out.mono ?_
            rintro e w1 ⟨rfl, rfl⟩
            go_wp2_with (at_builtin; go_must (refine wpList_append_sl _ rfl _ _ 22 rfl w.heap.size 28 i0 _ 48 Try.underlying22 HI.out.1 HI.out.2.1 HI.out.2.2.1 HI.out.2.2.2 rfl (by decide) loE_len loE_one _ 0 [] rfl (World.ownsRow_made w #[] 0 (Nat.le_refl _) (Nat.zero_le _) rfl) _ _ _ rfl HSA.out (by unfold maxLen; omega) (by omega) (by simp) ?_))
            intro v' w1 hown hg hat
            have B1 := hide (((Below.refl _ w).alloc (Nat.le_refl _) (.cells #[] 28)).grown hg (by simp) (by intro k hk; simp [Value.ownBlock] at hk; omega))
            rcases own_box hown with ⟨_, h0⟩ | ⟨g, cap, cur, rfl, hbg, hB, hnc, hcm, hcs, htk⟩
            · omega
            · have HO := hide hown
              have hne : g ≠ b := by omega
              obtain ⟨d0, d1, d2, d3, d4, d5⟩ := lo_cells (b := g) (o := i * 6) (own_cell loE_len hown rfl HX.out)
              have hfz := fun j => hB.frz j
              obtain ⟨b', off', z, hA, _, hz, c0, c1, c2, c3, c4, _⟩ := Los_at (HS.out.below B1.out) hi
              cases hA
              obtain rfl : z = x := by have := HX.out; rw [hz] at this; exact Option.some.inj this
              clear hown hg hat hB hcs htk c5 d0 d1 HSA hz c0 c1 c4 d4
              go_wp2_with fail
              go_quiet (fail)
              go_wp2
              go_ret2
              have o0 := lo_store HO.out (i := i) (j := 5) (x := z) (y := { z with rcl := true }) (u := .bool true) HX.out (by decide) rfl
              have o1 := lo_store (own_drewN o0 nq) (i := i) (j := 3) (x := { z with rcl := true }) (y := { z with rcl := true, due := z.out }) (u := .int .i64 z.out) (set_get HX.out) (by decide) rfl
              rw [List.set_set] at o1
              have hfin : { z with rcl := true, due := z.out } = recF due z := by simp only [recF, Lo.mk.injEq, true_and, and_true]; omega
              rw [hfin] at o1
              have hsl := Sl.of_own loE_len o1 (by simp) hbig
              exact ⟨_, _, _, rfl, hsl, (below_drewN ((B1.out).setCell (p := ⟨g, i * 6 + 5, none⟩) hbg (.bool true)) nq).setCell (p := ⟨g, i * 6 + 3, none⟩) hbg (.int .i64 z.out)⟩
          · skip
            go_enter Try.func21, Try.ntmps21
            go_wp2_with fail
            refine HP.out.mono ?_
            rintro e w1 ⟨rfl, rfl⟩
            go_wp2_with (at_builtin; go_must (refine wpList_append_sl _ rfl _ _ 22 rfl w.heap.size 28 i0 _ 48 Try.underlying22 HI.out.1 HI.out.2.1 HI.out.2.2.1 HI.out.2.2.2 rfl (by decide) loE_len loE_one _ 0 [] rfl (World.ownsRow_made w #[] 0 (Nat.le_refl _) (Nat.zero_le _) rfl) _ _ _ rfl HSA.out (by unfold maxLen; omega) (by omega) (by simp) ?_))
            intro v' w1 hown hg hat
            have B1 := hide (((Below.refl _ w).alloc (Nat.le_refl _) (.cells #[] 28)).grown hg (by simp) (by intro k hk; simp [Value.ownBlock] at hk; omega))
            rcases own_box hown with ⟨_, h0⟩ | ⟨g, cap, cur, rfl, hbg, hB, hnc, hcm, hcs, htk⟩
            · omega
            · have HO := hide hown
              have hne : g ≠ b := by omega
              obtain ⟨d0, d1, d2, d3, d4, d5⟩ := lo_cells (b := g) (o := i * 6) (own_cell loE_len hown rfl HX.out)
              have hfz := fun j => hB.frz j
              obtain ⟨b', off', z, hA, _, hz, c0, c1, c2, c3, c4, _⟩ := Los_at (HS.out.below B1.out) hi
              cases hA
              obtain rfl : z = x := by have := HX.out; rw [hz] at this; exact Option.some.inj this
              clear hown hg hat hB hcs htk c5 d0 d1 HSA hz c0 c1 c4 d4
              go_wp2_with fail
              go_quiet (fail)
              go_wp2
              go_ret2
              have o0 := lo_store HO.out (i := i) (j := 5) (x := z) (y := { z with rcl := true }) (u := .bool true) HX.out (by decide) rfl
              have hfin : { z with rcl := true } = recF due z := by simp only [recF, Lo.mk.injEq, true_and, and_true]; omega
              rw [hfin] at o0
              have hsl := Sl.of_own loE_len (own_drewN o0 nq) (by simp) hbig
              exact ⟨_, _, _, rfl, hsl, below_drewN ((B1.out).setCell (p := ⟨g, i * 6 + 5, none⟩) hbg (.bool true)) nq⟩
end Go.Proofs.Ytelkidhgbjhboaa
