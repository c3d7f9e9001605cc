/- Walks: Renew of loan. -/
import Derived.Test.YtelkidhgbjhboaaLoE
namespace Go.Proofs.Ytelkidhgbjhboaa
open Go.RowKit

set_option maxHeartbeats 800000 in
theorem lrenew_any (A : Option Addr) (n c : Nat) (xs : List Lo) (item due : Int) (w : World) (hs : Los w w.heap.size A n c xs) (hn : n ≤ 1000) (hm : ∀ x ∈ xs, LoM x) :
    Calls Try.prog 18 #[.slice A n c, .int .i64 item, .int .i64 due] w (ResL w (renewL xs item due)) := by
  obtain rfl := hs.len
  have hsl : ∀ W, Below w.heap.size w W → Los W W.heap.size A xs.length c xs := fun W hW => (hs.below hW).more hW.size
  have hf := fun W (hW : Below w.heap.size w W) b hb hc => firstOf_any item b A xs.length c xs W (hsl W hW) hb hc
  have HSL := hide hsl
  have B1 := hide ((Below.refl w.heap.size w).alloc (Nat.le_refl _) (.cells #[.int .i64 item] 3))
  rcases fst_cases (fun x => x.item == item) xs with ⟨h1, h2, _⟩ | ⟨i, x, h1, h2, h3, h4, _⟩
  · have e1 : renewL xs item due = (9, []) := by unfold renewL atL; rw [if_pos h1]
    rw [e1]
    rw [h2] at hf
    have HF := hide hf
    clear hf hsl hs h1 h2 e1
    unfold loV lo0 at HF
    go_enter Try.func18, Try.ntmps18
    go_wp2_with fail
    refine (of_any item _).mono ?_
    rintro e w1 ⟨rfl, rfl⟩
    go_wp2_with fail
    refine (HF.out _ B1.out _ (by simp) (by simp [go_sem])).mono ?_
    rintro e w2 ⟨rfl, hb⟩
    have B2 := hide (B1.out.trans (hb.mono (by simp)))
    have hz2 := B2.out.size
    clear hb
    go_wp2
    go_ret2
    exact ResL.nil (B2.out.alloc hz2 _)
  · have hi : i < xs.length := (List.getElem?_eq_some_iff.1 h2).1
    have hM := hm x (List.mem_of_getElem? h2)
    rw [h4] at hf
    have hne : ¬ (atL xs item = -1) := by unfold atL; rw [h1]; omega
    have hat : (atL xs item).toNat = i := by unfold atL; rw [h1]; rfl
    by_cases hr : x.rcl = true
    · have e1 : renewL xs item due = (12, []) := by unfold renewL; rw [if_neg hne, h4, if_pos hr]
      rw [e1]
      unfold loV at hf
      rw [hr] at hf
      have HF := hide hf
      clear hf hsl hs h1 h2 e1 h4 hne hat hr hm
      go_enter Try.func18, Try.ntmps18
      go_wp2_with fail
      refine (of_any item _).mono ?_
      rintro e w1 ⟨rfl, rfl⟩
      go_wp2_with fail
      refine (HF.out _ B1.out _ (by simp) (by simp [go_sem])).mono ?_
      rintro e w2 ⟨rfl, hb⟩
      have B2 := hide (B1.out.trans (hb.mono (by simp)))
      have hz2 := B2.out.size
      clear hb
      go_wp2
      go_ret2
      exact ResL.nil (B2.out.alloc hz2 _)
    · have e1 : renewL xs item due = chd (xs.set i (renF due x)) := by unfold renewL; rw [if_neg hne, h4, if_neg hr, hat]
      rw [e1]
      have hr' : x.rcl = false := by simpa using hr
      have hw := fun W (hW : Below w.heap.size w W) => lwith_any A xs.length c i (renF due x) xs W (hsl W hW) hn hi
      have hyl : (xs.set i (renF due x)).length = xs.length := List.length_set
      generalize xs.set i (renF due x) = ys at hw hyl ⊢
      unfold loV at hf hw
      simp only [renF, hr'] at hf hw
      have hW1 : IntKind.i64.wrap (x.ren + 1) = x.ren + 1 := by have := hM.ren; rw [IntKind.wrap_i64]; omega
      have ⟨q1, q2⟩ := hM.ren
      have HF := hide hf
      have HW := hide hw
      have HYL := hide hyl
      clear hf hw hsl hs h1 h2 e1 h4 hne hat hr hr' hm hyl hM
      go_enter Try.func18, Try.ntmps18
      go_wp2_with fail
      refine (of_any item _).mono ?_
      rintro e w1 ⟨rfl, rfl⟩
      go_wp2_with fail
      refine (HF.out _ B1.out _ (by simp) (by simp [go_sem])).mono ?_
      rintro e w2 ⟨rfl, hb⟩
      have B2 := hide (B1.out.trans (hb.mono (by simp)))
      have hz2 := B2.out.size
      clear hb HF
      go_wp2_with fail
      refine (HW.out _ ?_).mono ?_
      · exact B2.out.alloc hz2 _
      rintro e w3 ⟨v, rfl, hown, hb⟩
      have B3 := hide ((B2.out.alloc hz2 _).trans (hb.mono (by simp; omega)))
      obtain ⟨A1, c1, hv, hsl⟩ := Loo_sl hown (by rw [HYL.out]; omega)
      subst hv
      have HC := hide (lchecked_any A1 _ c1 ys w3 hsl)
      clear hown hb hsl HW
      go_wp2_with fail
      refine HC.out.mono ?_
      rintro e w4 ⟨A2, n2, c2, rfl, hsl, hb⟩
      go_wp2
      go_ret2
      exact ⟨A2, n2, c2, rfl, hsl, B3.out.trans (hb.mono B3.out.size)⟩
-- MORE

set_option maxHeartbeats 800000 in
theorem lrecall_any (A : Option Addr) (n c : Nat) (xs : List Lo) (item due : Int) (w : World) (hs : Los w w.heap.size A n c xs) (hn : n ≤ 1000) :
    Calls Try.prog 20 #[.slice A n c, .int .i64 item, .int .i64 due] w (ResL w (recallL xs item due)) := by
  obtain rfl := hs.len
  have hsl : ∀ W, Below w.heap.size w W → Los W W.heap.size A xs.length c xs := fun W hW => (hs.below hW).more hW.size
  have hf := fun W (hW : Below w.heap.size w W) b hb hc => firstOf_any item b A xs.length c xs W (hsl W hW) hb hc
  have hd := fun W => lday_any due W
  have HSL := hide hsl
  have B1 := hide ((Below.refl w.heap.size w).alloc (Nat.le_refl _) (.cells #[.int .i64 item] 3))
  rcases fst_cases (fun x => x.item == item) xs with ⟨h1, h2, _⟩ | ⟨i, x, h1, h2, h3, h4, _⟩
  · have e1 : recallL xs item due = (9, []) := by unfold recallL atL; rw [if_pos h1]
    rw [e1]
    rw [h2] at hf
    have HF := hide hf
    clear hf hsl hs h1 h2 e1 hd
    unfold loV lo0 at HF
    go_enter Try.func20, Try.ntmps20
    go_wp2_with fail
    refine (of_any item _).mono ?_
    rintro e w1 ⟨rfl, rfl⟩
    go_wp2_with fail
    refine (HF.out _ B1.out _ (by simp) (by simp [go_sem])).mono ?_
    rintro e w2 ⟨rfl, hb⟩
    have B2 := hide (B1.out.trans (hb.mono (by simp)))
    have hz2 := B2.out.size
    clear hb
    go_wp2
    go_ret2
    exact ResL.nil (B2.out.alloc hz2 _)
  · have hi : i < xs.length := (List.getElem?_eq_some_iff.1 h2).1
    rw [h4] at hf
    have hne : ¬ (atL xs item = -1) := by unfold atL; rw [h1]; omega
    have hat : (atL xs item).toNat = i := by unfold atL; rw [h1]; rfl
    by_cases hr : x.rcl = true
    · have e1 : recallL xs item due = (12, []) := by unfold recallL; rw [if_neg hne, h4, if_pos hr]
      rw [e1]
      unfold loV at hf
      rw [hr] at hf
      have HF := hide hf
      clear hf hsl hs h1 h2 e1 h4 hne hat hr hd
      go_enter Try.func20, Try.ntmps20
      go_wp2_with fail
      refine (of_any item _).mono ?_
      rintro e w1 ⟨rfl, rfl⟩
      go_wp2_with fail
      refine (HF.out _ B1.out _ (by simp) (by simp [go_sem])).mono ?_
      rintro e w2 ⟨rfl, hb⟩
      have B2 := hide (B1.out.trans (hb.mono (by simp)))
      have hz2 := B2.out.size
      clear hb
      go_wp2
      go_ret2
      exact ResL.nil (B2.out.alloc hz2 _)
    · have hr' : x.rcl = false := by simpa using hr
      cases hdd : dayB due with
      | false =>
        have e1 : recallL xs item due = (2, []) := by unfold recallL; rw [if_neg hne, h4, if_neg hr, if_pos hdd]
        rw [e1]
        rw [hdd] at hd
        unfold loV at hf
        rw [hr'] at hf
        have HF := hide hf
        have HD := hide hd
        clear hf hsl hs h1 h2 e1 h4 hne hat hr hr' hd hdd
        go_enter Try.func20, Try.ntmps20
        go_wp2_with fail
        refine (of_any item _).mono ?_
        rintro e w1 ⟨rfl, rfl⟩
        go_wp2_with fail
        refine (HF.out _ B1.out _ (by simp) (by simp [go_sem])).mono ?_
        rintro e w2 ⟨rfl, hb⟩
        have B2 := hide (B1.out.trans (hb.mono (by simp)))
        have hz2 := B2.out.size
        clear hb
        go_wp2_with fail
        refine (HD.out _).mono ?_
        rintro e w3 ⟨rfl, rfl⟩
        go_wp2
        go_ret2
        exact ResL.nil (B2.out.alloc hz2 _)
      | true =>
        have e1 : recallL xs item due = (0, xs.set i (recF due x)) := by unfold recallL; rw [if_neg hne, h4, if_neg hr, if_neg (by rw [hdd]; decide), hat]
        rw [e1]
        rw [hdd] at hd
        have hw : ∀ D, D = max (min x.due due) x.out → ∀ W, Below w.heap.size w W → Calls Try.prog 41 #[.slice A xs.length c, .int .i64 i, .agg #[.int .i64 x.item, .int .i64 x.patron, .int .i64 x.out, .int .i64 D, .int .i64 x.ren, .bool true]] W fun e w' => ∃ v, e = .returned v ∧ Loo w' W.heap.size v (xs.set i (recF due x)) ∧ Below W.heap.size W w' := by
          rintro _ rfl W hW
          exact lwith_any A xs.length c i (recF due x) xs W (hsl W hW) hn hi
        have hyl : (xs.set i (recF due x)).length = xs.length := List.length_set
        generalize xs.set i (recF due x) = ys at hw hyl ⊢
        unfold loV at hf
        rw [hr'] at hf
        have HF := hide hf
        have HD := hide hd
        have HW := hide hw
        have HYL := hide hyl
        clear hf hsl hs h1 h2 e1 h4 hne hat hr hr' hd hdd hw hyl
        go_enter Try.func20, Try.ntmps20
        go_wp2_with fail
        refine (of_any item _).mono ?_
        rintro e w1 ⟨rfl, rfl⟩
        go_wp2_with fail
        refine (HF.out _ B1.out _ (by simp) (by simp [go_sem])).mono ?_
        rintro e w2 ⟨rfl, hb⟩
        have B2 := hide (B1.out.trans (hb.mono (by simp)))
        have hz2 := B2.out.size
        clear hb
        go_wp2_with fail
        refine (HD.out _).mono ?_
        rintro e w3 ⟨rfl, rfl⟩
        go_wp2_with fail
        all_goals
          refine (HW.out _ ?_ _ ?_).mono ?_
          · omega
          · exact B2.out.alloc hz2 _
          rintro e w3 ⟨v, rfl, hown, hb⟩
          have B3 := hide ((B2.out.alloc hz2 _).trans (hb.mono (by simp; omega)))
          obtain ⟨A1, c1, hv, hsl⟩ := Loo_sl hown (by rw [HYL.out]; omega)
          subst hv
          clear hown hb HW
          go_wp2
          go_ret2
          exact ⟨A1, _, c1, rfl, hsl, B3.out⟩

/-- What Back hands back. -/
def ResB (w : World) (r : Int × List Lo × Lo) (e : Ending) (w' : World) : Prop :=
  ∃ A n c, e = .returned (.tuple #[.slice A n c, loV r.2.2, .int .i64 r.1]) ∧ Los w' w'.heap.size A n c r.2.1 ∧ Below w.heap.size w w'

theorem ResB.of {w w' : World} {r : Int × List Lo × Lo} {A : Option Addr} {n c : Nat} (h : Los w' w'.heap.size A n c r.2.1) (hb : Below w.heap.size w w') : ResB w r (.returned (.tuple #[.slice A n c, loV r.2.2, .int .i64 r.1])) w' := ⟨A, n, c, rfl, h, hb⟩

/-- A row of the call's own is not turned by a store into an older block. -/
theorem own_far {w : World} {base k n : Nat} {t : TypeId} {v : Value} {ys : List Value} (h : w.ownsRow base t k v n ys) {p : Addr} (hp : p.block < base) (u : Value) : (w.setCell p u).ownsRow base t k v n ys := by
  rcases own_box h with ⟨h1, h2⟩ | ⟨g, cap, cur, rfl, hbg, hB, hnc, hcm, hcs, htk⟩
  · exact ⟨h.1, .inl ⟨h1, h2⟩⟩
  · exact (hB.far (p := p) (by omega) u).own hbg hnc hcm hcs htk

set_option maxHeartbeats 800000 in
theorem lback_any (A : Option Addr) (n c : Nat) (xs : List Lo) (item : Int) (w : World) (hs : Los w w.heap.size A n c xs) (hn : n ≤ 1000) :
    Calls Try.prog 29 #[.slice A n c, .int .i64 item] w (ResB w (backL xs item)) := by
  obtain rfl := hs.len
  have hsl : ∀ W, Below w.heap.size w W → Los W W.heap.size A xs.length c xs := fun W hW => (hs.below hW).more hW.size
  have hf := fun W (hW : Below w.heap.size w W) b hb hc => firstOf_any item b A xs.length c xs W (hsl W hW) hb hc
  have HSL := hide hsl
  have HX : Hid (Box (w.alloc (.cells #[.int .i64 0, .int .i64 0, .int .i64 0, .int .i64 0, .int .i64 0, .bool false] 28)) w.heap.size 28 (loC lo0)) := hide (Box.new w 28 (loC lo0))
  have B1 := hide (((Below.refl w.heap.size w).alloc (Nat.le_refl _) (.cells #[.int .i64 0, .int .i64 0, .int .i64 0, .int .i64 0, .int .i64 0, .bool false] 28)).alloc (by simp) (.cells #[.int .i64 item] 3))
  have C1 := hide ((Below.refl (w.heap.size + 1) (w.alloc (.cells #[.int .i64 0, .int .i64 0, .int .i64 0, .int .i64 0, .int .i64 0, .bool false] 28))).alloc (by simp) (.cells #[.int .i64 item] 3))
  rcases fst_cases (fun x => x.item == item) xs with ⟨h1, h2, _⟩ | ⟨i, x, h1, h2, h3, h4, _⟩
  · have e1 : backL xs item = (9, [], lo0) := by unfold backL atL; rw [if_pos h1]
    rw [e1]
    rw [h2] at hf
    have HF := hide hf
    clear hf hsl hs h1 h2 e1
    unfold loV lo0 at HF
    go_enter Try.func29, Try.ntmps29
    go_wp2_with fail
    refine (of_any item _).mono ?_
    rintro e w1 ⟨rfl, rfl⟩
    go_wp2_with fail
    refine (HF.out _ B1.out _ (by simp) (by simp [go_sem])).mono ?_
    rintro e w2 ⟨rfl, hb⟩
    have B2 := hide (B1.out.trans (hb.mono (by simp; omega)))
    have C2 := hide (C1.out.trans (hb.mono (by simp)))
    have hz2 := C2.out.size
    simp at hz2
    obtain ⟨bx, r0, r1, r2, r3, r4, r5⟩ := lo_box HX.out C2.out
    have hfz := fun j => bx.frz j
    clear bx hb
    simp only [lo0] at r0 r1 r2 r3 r4 r5
    have hz : w.heap.size < w2.heap.size := by omega
    go_wp2
    have hal : ∀ (W : World) (o : Obj) (j : Nat), w.heap.size < W.heap.size → (W.alloc o).cell? ⟨w.heap.size, j, none⟩ = W.cell? ⟨w.heap.size, j, none⟩ := fun W o j h => World.cell?_alloc_lt W o _ h
    refine bodyPost_ret (v := .tuple #[.slice none 0 0, loV lo0, .int .i64 9]) ?_ ?_ ?_
    · simp [results, Try.results29, go_sem, r0, r1, r2, r3, r4, r5, hal, hz, loV, lo0]
    · rfl
    · exact ResB.of (r := (9, [], lo0)) Sl.none_ ((below_lo B2.out (Nat.le_refl _) _ _ _ _ _ _).alloc (by simp; omega) _)
  · have hi : i < xs.length := (List.getElem?_eq_some_iff.1 h2).1
    rw [h4] at hf
    have hne : ¬ (atL xs item = -1) := by unfold atL; rw [h1]; omega
    have hat : (atL xs item).toNat = i := by unfold atL; rw [h1]; rfl
    have e1 : backL xs item = (0, xs.take i ++ xs.drop (i + 1), x) := by unfold backL; rw [if_neg hne, hat, h4]
    rw [e1]
    have hw := fun W (hW : Below w.heap.size w W) => lwithout_any A xs.length c i xs W (hsl W hW) hn hi
    have hyl : (xs.take i ++ xs.drop (i + 1)).length ≤ xs.length := by simp; omega
    generalize xs.take i ++ xs.drop (i + 1) = ys at hw hyl ⊢
    have HF := hide hf
    have HW := hide hw
    clear hf hsl hs h1 h2 e1 h4 hne hat hw
    obtain ⟨x0, x1, x2, x3, x4, x5⟩ := x
    unfold loV at HF
    go_enter Try.func29, Try.ntmps29
    go_wp2_with fail
    refine (of_any item _).mono ?_
    rintro e w1 ⟨rfl, rfl⟩
    go_wp2_with fail
    refine (HF.out _ B1.out _ (by simp) (by simp [go_sem])).mono ?_
    rintro e w2 ⟨rfl, hb⟩
    have B2 := hide (B1.out.trans (hb.mono (by simp; omega)))
    have C2 := hide (C1.out.trans (hb.mono (by simp)))
    have hz2 := C2.out.size
    simp at hz2
    clear hb HF
    go_wp2_with fail
    have HWA := hide (HW.out _ (B2.out.alloc (by omega) (.cells #[.int .i64 x0, .int .i64 x1, .int .i64 x2, .int .i64 x3, .int .i64 x4, .bool x5] 28)).drew)
    have hk : ∀ W, Below (w2.alloc (.cells #[.int .i64 x0, .int .i64 x1, .int .i64 x2, .int .i64 x3, .int .i64 x4, .bool x5] 28)).drew.heap.size (w2.alloc (.cells #[.int .i64 x0, .int .i64 x1, .int .i64 x2, .int .i64 x3, .int .i64 x4, .bool x5] 28)).drew W →
        (Box W w.heap.size 28 (loC lo0)) ∧ (Box W w2.heap.size 28 (loC ⟨x0, x1, x2, x3, x4, x5⟩)) := fun W hW =>
      ⟨HX.out.below (((C2.out.alloc (by omega) _).drew).trans (hW.mono (by simp; omega))) (by omega), ((Box.new w2 28 (loC ⟨x0, x1, x2, x3, x4, x5⟩)).drew).below hW (by simp)⟩
    have HK := hide hk
    have hzz : w.heap.size < w2.heap.size := by omega
    clear hk
    go_region_with ((go_at_call 42; refine HWA.out.mono ?_; rintro e w3 ⟨v, rfl, hown, hb⟩; have r0 := (HK.out _ hb).1.cell 0; have r1 := (HK.out _ hb).1.cell 1; have r2 := (HK.out _ hb).1.cell 2; have r3 := (HK.out _ hb).1.cell 3; have r4 := (HK.out _ hb).1.cell 4; have r5 := (HK.out _ hb).1.cell 5; have c0 := (HK.out _ hb).2.cell 0; have c1 := (HK.out _ hb).2.cell 1; have c2 := (HK.out _ hb).2.cell 2; have c3 := (HK.out _ hb).2.cell 3; have c4 := (HK.out _ hb).2.cell 4; have c5 := (HK.out _ hb).2.cell 5; have hfz := fun j => (HK.out _ hb).1.frz j; have hbk := hide hb; have hok := hide hown; clear hb hown; simp [lo0] at r0 r1 r2 r3 r4 r5 c0 c1 c2 c3 c4 c5))
    all_goals
      have hok2 := own_far hok.out (p := ⟨w.heap.size, 0, none⟩) (by simp; omega) (.int .i64 x0)
      have hok2 := own_far hok2 (p := ⟨w.heap.size, 1, none⟩) (by simp; omega) (.int .i64 x1)
      have hok2 := own_far hok2 (p := ⟨w.heap.size, 2, none⟩) (by simp; omega) (.int .i64 x2)
      have hok2 := own_far hok2 (p := ⟨w.heap.size, 3, none⟩) (by simp; omega) (.int .i64 x3)
      have hok2 := own_far hok2 (p := ⟨w.heap.size, 4, none⟩) (by simp; omega) (.int .i64 x4)
      have hok2 := own_far hok2 (p := ⟨w.heap.size, 5, none⟩) (by simp; omega) (.bool x5)
      obtain ⟨A1, c1, hv, hsl⟩ := Loo_sl hok2 (by omega)
      subst hv
      have HS2 := hide hsl
      have HB3 := hide (below_lo ((B2.out.alloc (by omega) _).drew.trans (hbk.out.mono (by simp; omega))) (Nat.le_refl _) (.int .i64 x0) (.int .i64 x1) (.int .i64 x2) (.int .i64 x3) (.int .i64 x4) (.bool x5))
      clear hsl hok2 hok hbk
      go_wp2
      refine bodyPost_ret (v := .tuple #[.slice A1 ys.length c1, loV ⟨x0, x1, x2, x3, x4, x5⟩, .int .i64 0]) ?_ ?_ ?_
      · simp [results, Try.results29, go_sem, r0, r1, r2, r3, r4, r5, loV]
      · rfl
      · exact ResB.of (r := (0, ys, ⟨x0, x1, x2, x3, x4, x5⟩)) HS2.out HB3.out
end Go.Proofs.Ytelkidhgbjhboaa
