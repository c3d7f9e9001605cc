/- Walks: slices.Insert of one element. Printed by gen_ins.py. -/
import Derived.Test.YtelkidhgbjhboaaLoKit
import Derived.Deep.RegionLaw
namespace Go.Proofs.Ytelkidhgbjhboaa
open Go.RowKit

theorem lo_sl1 {w : World} {g : Nat} {x : Lo} (h : Box w g 28 (loC x)) : Los w (g + 1) (some ⟨g, 0, none⟩) 1 1 [x] :=
  Sl.of_box (t := 28) loE_len (xs := [x]) (show Box w g 28 (([x] : List Lo).flatMap loE).toArray from h) rfl (Nat.le_refl _) (by omega)

/-- At the end: an append. -/
theorem lo_ins_end (base : Nat) (v : Value) (n : Nat) (xs : List Lo) (x : Lo) (vb : Nat) (w : World) (hown : w.ownsRow base 28 6 v n (xs.flatMap loE)) (hn : n ≤ 1000) (hb : base ≤ w.heap.size) (hV : Box w vb 28 (loC x)) :
    Calls Try.prog 37 #[v, .int .i64 n, .slice (some ⟨vb, 0, none⟩) 1 1] w fun e w' => ∃ v', e = .returned v' ∧ w'.ownsRow base 28 6 v' (n + 1) ((xs ++ [x]).flatMap loE) ∧ Below base w w' := by
  obtain ⟨i0, hi, hz0, hz1, hz2⟩ := info_parts lo_info
  have HV := hide (lo_sl1 hV)
  have HO := hide hown
  rcases own_box hown with ⟨rfl, rfl⟩ | ⟨g, cap, cur, rfl, hbg, hB, hnc, hcm, hcs, htk⟩
  · clear hown hV
    go_enter Try.func37, Try.ntmps37
    go_wp2_with (at_builtin; go_must (refine wpList_append_sl _ rfl _ _ 22 rfl base 28 i0 _ 48 Try.underlying22 hi hz0 hz1 hz2 rfl (by decide) loE_len loE_one _ 0 _ rfl HO.out _ 1 1 rfl HV.out (by unfold maxLen; omega) (by omega) hb ?_))
    intro v' w1 hown hg hat
    go_wp2
    go_ret
    refine ⟨v', rfl, by simpa using hown, (Below.refl base w).grown hg hb (by intro k hk; simp [Value.ownBlock] at hk)⟩
  · have HC := hide (And.intro hcs htk)
    clear hown hV hB hcs htk
    unfold maxLen at hcm
    go_enter Try.func37, Try.ntmps37
    go_wp2_with (at_builtin; go_must (refine wpList_append_sl _ rfl _ _ 22 rfl base 28 i0 _ 48 Try.underlying22 hi hz0 hz1 hz2 rfl (by decide) loE_len loE_one _ n _ rfl HO.out _ 1 1 rfl HV.out (by unfold maxLen; omega) (by omega) hb ?_))
    all_goals
      intro v' w1 hown hg hat
      go_wp2
      go_ret
      exact ⟨v', rfl, by rw [List.flatMap_append]; exact hown, (Below.refl base w).grown hg hb (by intro k hk; simp [Value.ownBlock] at hk; omega)⟩

/-- Inside, where there is room. -/
theorem lo_ins_room (g n cap i : Nat) (cur : Array Value) (x : Lo) (vb : Nat) (w : World) (hB : Box w g 28 cur) (hV : Box w vb 28 (loC x)) (hne : vb ≠ g) (hi : i < n) (hroom : n + 1 ≤ cap) (_hcm : cap ≤ maxLen)
    (hcs : cur.size = cap * 6) (hn : n ≤ 1000) (h1 : ∀ u ∈ cur.toList.take (n * 6), u.oneCell' = true) :
    Calls Try.prog 37 #[.slice (some ⟨g, 0, none⟩) n cap, .int .i64 i, .slice (some ⟨vb, 0, none⟩) 1 1] w fun e w' =>
      e = .returned (.slice (some ⟨g, 0, none⟩) (n + 1) cap) ∧ w' = (w.drew.setCells g ((i + 1) * 6) ((cur.toList.take (n * 6)).drop (i * 6))).setCells g (i * 6) (loE x) := by
  obtain ⟨i0, hi0, hz0, hz1, hz2⟩ := info_parts lo_info
  obtain ⟨ms, hms⟩ : ∃ ms, ms = (cur.toList.take (n * 6)).drop (i * 6) := ⟨_, rfl⟩
  have hml : ms.length = (n - i) * 6 := by rw [hms]; simp; omega
  have hmc : ∀ j v, ms[j]? = some v → w.drew.cell? ((⟨g, i * 6, none⟩ : Addr).add j) = some v := by
    intro j v hj
    rw [hms, List.getElem?_drop, List.getElem?_take] at hj
    split at hj
    · rw [Addr.add_lit]
      exact (hB.drew.cell _).trans (by simpa using hj)
    · cases hj
  have hm1 : ∀ u ∈ ms, u.oneCell' = true := fun u hu => h1 u (List.mem_of_mem_drop (hms ▸ hu))
  have hsA := World.shape_box hV
  have hsB := World.shape_box hB
  have hov : ∀ lb cb, (callFunc 45 #[.slice (some ⟨vb, 0, none⟩) 1 1, .slice (some ⟨g, (i + 1) * 6, none⟩) lb cb]).run Try.prog w = .ok (.value (.bool false)) w := fun lb cb => by
    rw [run_callFunc_extern Try.func45 (by kernel_rfl) (by kernel_rfl) (by kernel_rfl) (e := Extern.SlicesOverlaps.overlaps #[22, 22] #[4]) (by kernel_rfl),
      Lib.run_overlaps_apart w 22 4 28 Try.underlying22 6 Try.sizeOf28 ⟨vb, 0, none⟩ ⟨g, (i + 1) * 6, none⟩ 1 1 lb cb hne 28 28 6 (cap * 6) hsA (hcs ▸ hsB) (by omega) (hV.frz 0) (hV.frz 6)]
    rfl
  have hcp1 : ∀ ty dc sc, (Builtin.copy_ #[22, 22] ty #[.slice (some ⟨g, (i + 1) * 6, none⟩) (n - i) dc, .slice (some ⟨g, i * 6, none⟩) (n + 1 - i) sc]).run Try.prog w.drew = .ok (goInt (Nat.min (n + 1 - i) (n - i))) (w.drew.setCells g ((i + 1) * 6) ms) := fun ty dc sc =>
    run_copy_box _ _ ty 28 i0 6 ((i + 1) * 6) (n - i) dc ⟨g, i * 6, none⟩ (n + 1 - i) sc ms Try.underlying22 hi0 hz1 hB.drew (by rw [hml]; simp only [Nat.min_def]; split <;> omega) (by rw [hml, hcs]; omega) hmc hm1
  obtain ⟨W1, hW1⟩ : ∃ W1, W1 = w.drew.setCells g ((i + 1) * 6) ms := ⟨_, rfl⟩
  have hB1 : Box W1 g 28 (splice cur.toList ((i + 1) * 6) ms).toArray := by rw [hW1]; exact hB.drew.setCells _ _ _ _ (by rw [hml, hcs]; omega)
  have hV1 : Box W1 vb 28 (loC x) := by rw [hW1]; exact Box.far_setCells hne _ _ _ hV.drew
  rw [← hW1] at hcp1
  have hcp2 : ∀ ty dc, (Builtin.copy_ #[22, 22] ty #[.slice (some ⟨g, i * 6, none⟩) (n + 1 - i) dc, .slice (some ⟨vb, 0, none⟩) 1 1]).run Try.prog W1 = .ok (goInt (Nat.min 1 (n + 1 - i))) (W1.setCells g (i * 6) (loE x)) := fun ty dc =>
    run_copy_box _ _ ty 28 i0 6 (i * 6) (n + 1 - i) dc ⟨vb, 0, none⟩ 1 1 (loE x) Try.underlying22 hi0 hz1 hB1 (by rw [loE_len]; simp only [Nat.min_def]; split <;> omega)
      (by rw [loE_len]; simp only [List.size_toArray]; rw [length_splice _ _ _ (by rw [hml]; simp; omega)]; simp; omega) (fun j v hj => by rw [Addr.add_lit, Nat.zero_add]; exact (hV1.cell j).trans (by simpa [loE] using hj)) (loE_one x)
  have hw1 : IntKind.i64.wrap ((i : Int) + 1) = (i : Int) + 1 := by rw [IntKind.wrap_i64]; omega
  have hb1 : (0 : Int) ≤ (i : Int) + 1 := by omega
  have hin : i ≤ n := by omega
  have htn : ((i : Int) + 1).toNat = i + 1 := by omega
  have hb2 : ¬ (cap = i + 1) := by omega
  have hb3 : (i : Int) ≤ (n : Int) + 1 := by omega
  have hb4 : ¬ (cap = i) := by omega
  unfold maxLen at _hcm
  have HW := hide hW1
  have HMS := hide hms
  have hz2' : ¬ ((i : Int) = (n : Int)) := by omega
  clear hW1 hms hml hmc hm1 hsA hsB hB hV hB1 hV1 h1 hcs hne hz0 hz1 hz2 hi0
  go_enter Try.func37, Try.ntmps37
  go_wp2_with (simp only [hov])
  go_region_law (refine step_copy_run1 rfl _ _ 22 22 rfl _ _ (by simp [Act.eval, Act.put]) (by simp [Act.eval, Act.put]) (hcp1 _ _ _) ?_)
  go_wp2_with (at_builtin; refine wpList_copy_run1 _ rfl _ _ 22 22 rfl _ _ rfl rfl (hcp2 _ _) ?_)
  go_ret
  exact ⟨rfl, by rw [HW.out, HMS.out]⟩

/-- Inside, where there is no room: a new row. -/
theorem lo_ins_grow (g n i : Nat) (cur : Array Value) (x : Lo) (vb : Nat) (w : World) (hB : Box w g 28 cur) (hV : Box w vb 28 (loC x)) (hi : i < n)
    (hcs : cur.size = n * 6) (hn : n ≤ 1000) (h1 : ∀ u ∈ cur.toList, u.oneCell' = true) :
    Calls Try.prog 37 #[.slice (some ⟨g, 0, none⟩) n n, .int .i64 i, .slice (some ⟨vb, 0, none⟩) 1 1] w fun e w' =>
      ∃ G cur', e = .returned (.slice (some ⟨w.heap.size, 0, none⟩) (n + 1) G) ∧ Box w' w.heap.size 28 cur' ∧ n + 1 ≤ G ∧ G ≤ maxLen ∧ cur'.size = G * 6 ∧
        cur'.toList.take ((n + 1) * 6) = cur.toList.take (i * 6) ++ loE x ++ cur.toList.drop (i * 6) ∧ Below w.heap.size w w' := by
  obtain ⟨i0, hi0, hz0, hz1, hz2⟩ := info_parts lo_info
  have hgw := hB.lt
  have hvw := hV.lt
  obtain ⟨ms, hms⟩ : ∃ ms, ms = cur.toList.drop (i * 6) := ⟨_, rfl⟩
  have hml : ms.length = (n - i) * 6 := by rw [hms]; simp; omega
  have hm1 : ∀ u ∈ ms, u.oneCell' = true := fun u hu => h1 u (List.mem_of_mem_drop (hms ▸ hu))
  obtain ⟨G, hG⟩ : ∃ G, G = grownCap w (n + 1) n 28 := ⟨_, rfl⟩
  obtain ⟨Z, hZ⟩ : ∃ Z, Z = Builtin.zeroCells (Value.agg #[.int .i64 0, .int .i64 0, .int .i64 0, .int .i64 0, .int .i64 0, .bool false]).cells (n + 1 - i) ++ Builtin.zeroCells (Value.agg #[.int .i64 0, .int .i64 0, .int .i64 0, .int .i64 0, .int .i64 0, .bool false]).cells (G - (n + 1)) := ⟨_, rfl⟩
  have hGn : n + 1 ≤ G := by rw [hG]; exact grownCap_ge w _ _ _
  have hGm : G ≤ maxLen := by rw [hG]; exact grownCap_le_maxLen w _ _ _ (by unfold maxLen; omega)
  have hZs : Z.size = (G - i) * 6 := by
    have hz : (Value.agg #[.int .i64 0, .int .i64 0, .int .i64 0, .int .i64 0, .int .i64 0, .bool false]).cells.size = 6 := rfl
    rw [hZ, Array.size_append, size_zeroCells, size_zeroCells, hz, ← Nat.add_mul]
    congr 1
    omega
  have hold : (Builtin.firstCells i0.size i (.slice (some ⟨g, 0, none⟩) i n)).run Try.prog w.drew = .ok (cur.toList.take (i * 6)).toArray w.drew := by
    rw [hz1]
    refine run_firstCells_some w.drew 6 i ⟨g, 0, none⟩ i n _ (by simp; omega) (fun j v hj => ?_)
    rw [Addr.add_lit, Nat.zero_add, hB.drew.cell]
    rw [List.getElem?_take] at hj
    split at hj
    · simpa using hj
    · cases hj
  have hkk : (n : Int) + 1 - (i : Int) = ((n + 1 - i : Nat) : Int) := by omega
  have hik : i + (n + 1 - i) = n + 1 := by omega
  have hrz : ∀ ty, (Builtin.append_ #[22, 3] ty #[.slice (some ⟨g, 0, none⟩) i n, .int .i64 ((n : Int) + 1 - (i : Int))]).run Try.prog w =
      .ok (.slice (some ⟨w.heap.size, 0, none⟩) (n + 1) G) (w.drew.alloc (.cells ((cur.toList.take (i * 6)).toArray ++ Z) 28)) := fun ty => by
    have h := Lib.run_append_grow_zeros w 22 3 ty 28 i0 _ .i64 .i64 Try.underlying22 Try.underlying3 hi0 hz0 (some ⟨g, 0, none⟩) i n _ hold (n + 1 - i) (by omega) (by rw [hz1]; omega) (by omega) (by omega) (by rw [hz2]; omega) (by rw [hz2, hik]; exact growslice_fits (by omega) (by omega))
    rw [hik, ← hG, Array.append_assoc, ← hZ] at h
    rw [hkk]
    exact h
  obtain ⟨W1, hW1⟩ : ∃ W1, W1 = w.drew.alloc (.cells ((cur.toList.take (i * 6)).toArray ++ Z) 28) := ⟨_, rfl⟩
  have b1 : Box W1 w.heap.size 28 ((cur.toList.take (i * 6)).toArray ++ Z) := by rw [hW1]; exact Box.new w.drew _ _
  have s1 : ((cur.toList.take (i * 6)).toArray ++ Z).size = G * 6 := by simp; omega
  have v1 : Box W1 vb 28 (loC x) := by rw [hW1]; exact hV.drew.alloc _
  have g1 : Box W1 g 28 cur := by rw [hW1]; exact hB.drew.alloc _
  have e1 : Below w.heap.size w W1 := by rw [hW1]; exact (Below.refl _ w).drew.alloc (Nat.le_refl _) _
  rw [← hW1] at hrz
  have hcA : ∀ ty dc, (Builtin.copy_ #[22, 22] ty #[.slice (some ⟨w.heap.size, i * 6, none⟩) (n + 1 - i) dc, .slice (some ⟨vb, 0, none⟩) 1 1]).run Try.prog W1 = .ok (goInt (Nat.min 1 (n + 1 - i))) (W1.setCells w.heap.size (i * 6) (loE x)) := fun ty dc =>
    run_copy_box _ _ ty 28 i0 6 (i * 6) (n + 1 - i) dc ⟨vb, 0, none⟩ 1 1 (loE x) Try.underlying22 hi0 hz1 b1 (by rw [loE_len]; simp only [Nat.min_def]; split <;> omega) (by rw [loE_len, s1]; omega)
      (fun j v hj => by rw [Addr.add_lit, Nat.zero_add]; exact (v1.cell j).trans (by simpa [loE] using hj)) (loE_one x)
  obtain ⟨W2, hW2⟩ : ∃ W2, W2 = W1.setCells w.heap.size (i * 6) (loE x) := ⟨_, rfl⟩
  have b2 : Box W2 w.heap.size 28 (splice ((cur.toList.take (i * 6)).toArray ++ Z).toList (i * 6) (loE x)).toArray := by rw [hW2]; exact b1.setCells _ _ _ _ (by rw [loE_len, s1]; omega)
  have s2 : (splice ((cur.toList.take (i * 6)).toArray ++ Z).toList (i * 6) (loE x)).toArray.size = G * 6 := by
    rw [List.size_toArray, splice_len _ _ _ (by rw [loE_len, Array.length_toList, s1]; omega), Array.length_toList, s1]
  have g2 : Box W2 g 28 cur := by rw [hW2]; exact Box.far_setCells (by omega) _ _ _ g1
  have e2 : Below w.heap.size w W2 := by rw [hW2]; exact below_setCells (Nat.le_refl _) _ _ _ e1
  rw [← hW2] at hcA
  have hcB : ∀ ty dc sc, (Builtin.copy_ #[22, 22] ty #[.slice (some ⟨w.heap.size, (i + 1) * 6, none⟩) (n - i) dc, .slice (some ⟨g, i * 6, none⟩) (n - i) sc]).run Try.prog W2.drew = .ok (goInt (Nat.min (n - i) (n - i))) (W2.drew.setCells w.heap.size ((i + 1) * 6) ms) := fun ty dc sc =>
    run_copy_box _ _ ty 28 i0 6 ((i + 1) * 6) (n - i) dc ⟨g, i * 6, none⟩ (n - i) sc ms Try.underlying22 hi0 hz1 b2.drew (by rw [hml]; simp only [Nat.min_def]; split <;> omega) (by rw [hml, s2]; omega)
      (fun j v hj => by
        rw [Addr.add_lit]
        rw [hms, List.getElem?_drop] at hj
        exact (g2.drew.cell _).trans (by simpa using hj)) hm1
  have b3 := b2.drew.setCells ms ((i + 1) * 6) _ _ (by rw [hml, s2]; omega)
  have e3 := below_setCells (b := w.heap.size) (Nat.le_refl _) ms ((i + 1) * 6) _ e2.drew
  have hfin : (splice (splice ((cur.toList.take (i * 6)).toArray ++ Z).toList (i * 6) (loE x)) ((i + 1) * 6) ms).take ((n + 1) * 6) = cur.toList.take (i * 6) ++ loE x ++ cur.toList.drop (i * 6) := by
    have h := splice_two ((cur.toList.take (i * 6)).toArray ++ Z).toList (loE x) ms (i * 6) (by rw [loE_len, hml, Array.length_toList, s1]; omega)
    rw [loE_len, hml, show i * 6 + 6 = (i + 1) * 6 from by omega, show (i + 1) * 6 + (n - i) * 6 = (n + 1) * 6 from by omega] at h
    have e4 : (((cur.toList.take (i * 6)).toArray ++ Z).toList).take (i * 6) = cur.toList.take (i * 6) := by
      rw [Array.toList_append, List.take_append_of_le_length (by simp; omega)]
      exact List.take_of_length_le (by rw [List.toList_toArray, List.length_take]; exact Nat.min_le_left _ _)
    rw [h, e4, hms]
  have s3 : (splice (splice ((cur.toList.take (i * 6)).toArray ++ Z).toList (i * 6) (loE x)) ((i + 1) * 6) ms).toArray.size = G * 6 := by
    rw [List.size_toArray, splice_len _ _ _ (by rw [hml]; rw [List.size_toArray] at s2; rw [s2]; omega)]; simpa using s2
  have HF := hide (And.intro b3 (And.intro e3 (And.intro hfin s3)))
  have hw1 : IntKind.i64.wrap ((i : Int) + 1) = (i : Int) + 1 := by rw [IntKind.wrap_i64]; omega
  have hb1 : (0 : Int) ≤ (i : Int) + 1 := by omega
  have hin : i ≤ n := by omega
  have htn : ((i : Int) + 1).toNat = i + 1 := by omega
  have hGi : ¬ (G = i) := by omega
  have hGim : ¬ (G = i + 1) := by omega
  have hci : ¬ (n = i) := by omega
  have hb3 : (i : Int) ≤ (n : Int) := by omega
  have hz2' : ¬ ((i : Int) = (n : Int)) := by omega
  have HGm := hide hGm
  unfold maxLen at hGm
  clear hW1 hW2 hms hml hm1 hB hV h1 hcs hz0 hz1 hz2 hi0 hG hZ hZs hold hkk hik b1 s1 v1 g1 e1 b2 s2 g2 e2 b3 e3 hfin s3
  go_enter Try.func37, Try.ntmps37
  go_wp2_with (first
    | (at_builtin; refine Lib.wpList_append_run _ rfl _ _ _ _ rfl _ _ rfl rfl _ _ (hrz _) ?_)
    | (at_builtin; refine wpList_copy_run1 _ rfl _ _ 22 22 rfl _ _ rfl rfl (hcA _ _) ?_))
  go_region_law (refine step_copy_run1 rfl _ _ 22 22 rfl _ _ (by simp [Act.eval, Act.put]) (by simp [Act.eval, Act.put]) (hcB _ _ _) ?_)
  go_wp2
  go_ret
  exact ⟨G, _, rfl, HF.out.1, hGn, HGm.out, HF.out.2.2.2, HF.out.2.2.1, HF.out.2.1⟩

/-- slices.Insert of one element into a row of the call's own. -/
theorem lo_insert (base : Nat) (v : Value) (n i : Nat) (xs : List Lo) (x : Lo) (vb : Nat) (w : World) (hown : w.ownsRow base 28 6 v n (xs.flatMap loE)) (hl : xs.length = n) (hi : i ≤ n) (hn : n ≤ 1000) (hb : base ≤ w.heap.size)
    (hV : Box w vb 28 (loC x)) (hne : v.ownBlock ≠ some vb) :
    Calls Try.prog 37 #[v, .int .i64 i, .slice (some ⟨vb, 0, none⟩) 1 1] w fun e w' => ∃ v', e = .returned v' ∧ w'.ownsRow base 28 6 v' (n + 1) ((xs.take i ++ x :: xs.drop i).flatMap loE) ∧ Below base w w' := by
  by_cases hin : i = n
  · subst hin
    rw [List.take_of_length_le (by omega), List.drop_of_length_le (by omega)]
    exact lo_ins_end base v i xs x vb w hown hn hb hV
  · rcases own_box hown with ⟨_, h0⟩ | ⟨g, cap, cur, rfl, hbg, hB, hnc, hcm, hcs, htk⟩
    · omega
    · have hf : (xs.flatMap loE).take (i * 6) ++ loE x ++ (xs.flatMap loE).drop (i * 6) = (xs.take i ++ x :: xs.drop i).flatMap loE := by
        rw [flat_take loE_len, flat_drop loE_len, List.flatMap_append, List.flatMap_cons, List.append_assoc]
      have hone : ∀ u ∈ xs.flatMap loE, u.oneCell' = true := fun u hu => by obtain ⟨y, _, hy⟩ := List.mem_flatMap.1 hu; exact loE_one y u hy
      have hxl : (xs.flatMap loE).length = n * 6 := by rw [flat_len loE_len, hl]
      by_cases hr : n + 1 ≤ cap
      · refine (lo_ins_room g n cap i cur x vb w hB hV (fun e => hne (by simp [Value.ownBlock, e])) (by omega) hr hcm hcs hn (by rw [htk]; exact hone)).mono ?_
        rintro e w' ⟨rfl, rfl⟩
        rw [htk]
        have b1 := hB.drew.setCells ((xs.flatMap loE).drop (i * 6)) ((i + 1) * 6) _ _ (by rw [List.length_drop, hxl, hcs]; omega)
        have s1 : (splice cur.toList ((i + 1) * 6) ((xs.flatMap loE).drop (i * 6))).toArray.size = cap * 6 := by
          rw [List.size_toArray, splice_len _ _ _ (by rw [List.length_drop, hxl, Array.length_toList, hcs]; omega), Array.length_toList, hcs]
        have b2 := b1.setCells (loE x) (i * 6) _ _ (by rw [loE_len, s1]; omega)
        refine ⟨_, rfl, b2.own hbg (by omega) hcm ?_ ?_, below_setCells hbg _ _ _ (below_setCells hbg _ _ _ (Below.refl base w).drew)⟩
        · rw [List.size_toArray, splice_len _ _ _ (by rw [loE_len]; rw [List.size_toArray] at s1; simp only [s1]; omega)]
          simpa using s1
        · have h := splice_two' cur.toList (loE x) ((xs.flatMap loE).drop (i * 6)) (i * 6) (by rw [loE_len, List.length_drop, hxl, Array.length_toList, hcs]; omega)
          rw [loE_len, List.length_drop, hxl, show i * 6 + 6 = (i + 1) * 6 from by omega, show (i + 1) * 6 + (n * 6 - i * 6) = (n + 1) * 6 from by omega] at h
          have e3 : cur.toList.take (i * 6) = (xs.flatMap loE).take (i * 6) := by rw [← htk, List.take_take, Nat.min_eq_left (by omega)]
          rw [e3, hf] at h
          exact h
      · obtain rfl : cap = n := by omega
        have hcl : cur.toList = xs.flatMap loE := by rw [← htk, List.take_of_length_le (by rw [Array.length_toList, hcs]; exact Nat.le_refl _)]
        refine (lo_ins_grow g cap i cur x vb w hB hV (by omega) hcs hn (by rw [hcl]; exact hone)).mono ?_
        rintro e w' ⟨G, cur', rfl, hB', h1, h2, h3, h4, h5⟩
        exact ⟨_, rfl, hB'.own hb h1 h2 h3 (by rw [h4, hcl, hf]), h5.mono hb⟩
end Go.Proofs.Ytelkidhgbjhboaa
