/- Walks: slices.Delete of one element. Printed by gen_del.py. -/
import Derived.Test.YtgjhjabnnhhkbaaHoKit
import Derived.Deep.RegionLaw
namespace Go.Proofs.Ytgjhjabnnhhkbaa
open Go.RowKit

theorem ho_del_in (g n cap i : Nat) (cur : Array Value) (w : World) (hB : Box w g 47 cur) (hi : i < n) (hnc : n ≤ cap) (_hcm : cap ≤ maxLen) (hcj : ¬ (cap = i + 1))
    (hcs : cur.size = cap * 11) (hn : n ≤ 1000) (h1 : ∀ u ∈ cur.toList.take (n * 11), u.oneCell' = true) :
    Calls Try.prog 57 #[.slice (some ⟨g, 0, none⟩) n cap, .int .i64 i, .int .i64 (i + 1)] w fun e w' =>
      ∃ Z : List Value, Z.length = 11 ∧ e = .returned (.slice (some ⟨g, 0, none⟩) (n - 1) cap) ∧ w' = (w.drew.setCells g (i * 11) ((cur.toList.take (n * 11)).drop ((i + 1) * 11))).setCells g ((n - 1) * 11) Z := by
  obtain ⟨i0, hi0, hz0, hz1, hz2⟩ := info_parts ho_info
  obtain ⟨ms, hms⟩ : ∃ ms, ms = (cur.toList.take (n * 11)).drop ((i + 1) * 11) := ⟨_, rfl⟩
  have hml : ms.length = (n - (i + 1)) * 11 := by rw [hms]; simp; omega
  have hmc : ∀ j v, ms[j]? = some v → w.drew.cell? ((⟨g, (i + 1) * 11, none⟩ : Addr).add j) = some v := by
    intro j v hj
    rw [hms, List.getElem?_drop, List.getElem?_take] at hj
    split at hj
    · rw [Addr.add_lit]
      exact (hB.drew.cell _).trans (by simpa using hj)
    · cases hj
  have hm1 : ∀ u ∈ ms, u.oneCell' = true := fun u hu => h1 u (List.mem_of_mem_drop (hms ▸ hu))
  have hsp : ∀ j, j < ms.length → (w.drew.cell? ⟨g, 0 + i * 11 + j, none⟩).isSome = true ∧ w.drew.frozen? ⟨g, 0 + i * 11 + j, none⟩ = false := fun j hj =>
    ⟨box_isSome hB.drew (by omega), hB.drew.frz _⟩
  obtain ⟨W1, hW1⟩ : ∃ W1, W1 = w.drew.setCells g (i * 11) ms := ⟨_, rfl⟩
  have hB1 : Box W1 g 47 (splice cur.toList (i * 11) ms).toArray := by rw [hW1]; exact hB.drew.setCells _ _ _ _ (by rw [hml, hcs]; omega)
  have s1 : (splice cur.toList (i * 11) ms).toArray.size = cap * 11 := by
    rw [List.size_toArray, splice_len _ _ _ (by rw [hml, Array.length_toList, hcs]; omega), Array.length_toList, hcs]
  obtain ⟨Z, hZ⟩ : ∃ Z, Z = (Builtin.zeroCells (Value.agg #[.int .i64 0, .int .i64 0, .int .i64 0, .int .i64 0, .int .i64 0, .int .i64 0, .int .i64 0, .int .i64 0, .int .i64 0, .int .i64 0, .int .i64 0]).cells 1).toList := ⟨_, rfl⟩
  have hZl : Z.length = 11 := by rw [hZ, Array.length_toList, size_zeroCells]; rfl
  have hcl : ∀ ty c, (Builtin.clear_ #[22] ty #[.slice (some ⟨g, (n - 1) * 11, none⟩) 1 c]).run Try.prog W1 = .ok (.tuple #[]) (W1.setCells g ((n - 1) * 11) Z) := fun ty c => by
    rw [hZ]
    exact run_cleark W1 22 47 ty _ Try.underlying22 Try.zeroValue47 (by decide +kernel) hB1 (by rw [s1]; show (n - 1) * 11 + 11 ≤ cap * 11; omega)
  have HW := hide hW1
  have HMS := hide hms
  have HML := hide hml
  have HMC := hide hmc
  have HM1 := hide hm1
  have HSP := hide hsp
  have HI0 := hide (And.intro hi0 hz1)
  have hw1 : IntKind.i64.wrap ((i : Int) + 1) = (i : Int) + 1 := by rw [IntKind.wrap_i64]; omega
  have hb1 : (0 : Int) ≤ (i : Int) + 1 := by omega
  have htn : ((i : Int) + 1).toNat = i + 1 := by omega
  have hb2 : ¬ ((i : Int) = (i : Int) + 1) := by omega
  have hb3 : i + (n - (i + 1)) = n - 1 := by omega
  have hb4 : n - (n - 1) = 1 := by omega
  have hb5 : i ≤ cap := by omega
  have hb6 : i + 1 ≤ cap := by omega
  have hb7 : (i : Int) ≤ (cap : Int) := by omega
  have hb8 : (i : Int) + 1 ≤ (cap : Int) := by omega
  have hb9 : (i : Int) + 1 ≤ (n : Int) := by omega
  unfold maxLen at _hcm
  clear hW1 hms hml hmc hm1 hsp hB hB1 s1 hZ h1 hcs hi0 hz0 hz1 hz2
  go_enter Try.func57, Try.ntmps57
  go_wp2_with fail
  go_region_law (refine step_append_room rfl (.tmp 22) (.tmp 25) 22 rfl 47 i0 11 Try.underlying22 HI0.out.1 HI0.out.2 g 0 i cap (by simp [Act.eval, Act.put]) ⟨g, (i + 1) * 11, none⟩ (n - (i + 1)) (cap - (i + 1)) ms (by simp [Act.eval, Act.put]) HML.out HMC.out HM1.out (by omega) HSP.out ?_; rw [Nat.zero_add, ← HW.out, hb3])
  go_wp2_with (at_builtin; refine wpList_clear_run1 _ rfl _ 22 rfl _ rfl (hcl _ _) ?_)
  go_ret
  exact ⟨Z, hZl, rfl, by rw [HW.out, HMS.out]⟩

theorem ho_del_end (g n cap i : Nat) (cur : Array Value) (w : World) (hB : Box w g 47 cur) (hi : i < n) (hnc : n ≤ cap) (_hcm : cap ≤ maxLen) (hcj : cap = i + 1)
    (hcs : cur.size = cap * 11) (hn : n ≤ 1000) (h1 : ∀ u ∈ cur.toList.take (n * 11), u.oneCell' = true) :
    Calls Try.prog 57 #[.slice (some ⟨g, 0, none⟩) n cap, .int .i64 i, .int .i64 (i + 1)] w fun e w' =>
      ∃ Z : List Value, Z.length = 11 ∧ e = .returned (.slice (some ⟨g, 0, none⟩) (n - 1) cap) ∧ w' = (w.drew.setCells g (i * 11) ((cur.toList.take (n * 11)).drop ((i + 1) * 11))).setCells g ((n - 1) * 11) Z := by
  obtain rfl : n = i + 1 := by omega
  subst hcj
  rw [show i + 1 - 1 = i from rfl]
  obtain ⟨i0, hi0, hz0, hz1, hz2⟩ := info_parts ho_info
  obtain ⟨ms, hms⟩ : ∃ ms, ms = (cur.toList.take ((i + 1) * 11)).drop ((i + 1) * 11) := ⟨_, rfl⟩
  have hml : ms.length = 0 * 11 := by rw [hms]; simp
  have hmc : ∀ j v, ms[j]? = some v → w.drew.cell? ((⟨g, 0, none⟩ : Addr).add j) = some v := by
    intro j v hj
    have := (List.getElem?_eq_some_iff.1 hj).1
    omega
  have hm1 : ∀ u ∈ ms, u.oneCell' = true := fun u hu => h1 u (List.mem_of_mem_drop (hms ▸ hu))
  have hsp : ∀ j, j < ms.length → (w.drew.cell? ⟨g, 0 + i * 11 + j, none⟩).isSome = true ∧ w.drew.frozen? ⟨g, 0 + i * 11 + j, none⟩ = false := fun j hj =>
    ⟨box_isSome hB.drew (by omega), hB.drew.frz _⟩
  obtain ⟨W1, hW1⟩ : ∃ W1, W1 = w.drew.setCells g (i * 11) ms := ⟨_, rfl⟩
  have hB1 : Box W1 g 47 (splice cur.toList (i * 11) ms).toArray := by rw [hW1]; exact hB.drew.setCells _ _ _ _ (by rw [hml, hcs]; omega)
  have s1 : (splice cur.toList (i * 11) ms).toArray.size = (i + 1) * 11 := by
    rw [List.size_toArray, splice_len _ _ _ (by rw [hml, Array.length_toList, hcs]; omega), Array.length_toList, hcs]
  obtain ⟨Z, hZ⟩ : ∃ Z, Z = (Builtin.zeroCells (Value.agg #[.int .i64 0, .int .i64 0, .int .i64 0, .int .i64 0, .int .i64 0, .int .i64 0, .int .i64 0, .int .i64 0, .int .i64 0, .int .i64 0, .int .i64 0]).cells 1).toList := ⟨_, rfl⟩
  have hZl : Z.length = 11 := by rw [hZ, Array.length_toList, size_zeroCells]; rfl
  have hcl : ∀ ty c, (Builtin.clear_ #[22] ty #[.slice (some ⟨g, i * 11, none⟩) 1 c]).run Try.prog W1 = .ok (.tuple #[]) (W1.setCells g (i * 11) Z) := fun ty c => by
    rw [hZ]
    exact run_cleark W1 22 47 ty _ Try.underlying22 Try.zeroValue47 (by decide +kernel) hB1 (by rw [s1]; show i * 11 + 11 ≤ (i + 1) * 11; omega)
  have HW := hide hW1
  have HMS := hide hms
  have HML := hide hml
  have HMC := hide hmc
  have HM1 := hide hm1
  have HSP := hide hsp
  have HI0 := hide (And.intro hi0 hz1)
  have hw1 : IntKind.i64.wrap ((i : Int) + 1) = (i : Int) + 1 := by rw [IntKind.wrap_i64]; omega
  have hb1 : (0 : Int) ≤ (i : Int) + 1 := by omega
  have htn : ((i : Int) + 1).toNat = i + 1 := by omega
  have hb2 : ¬ ((i : Int) = (i : Int) + 1) := by omega
  have hb5 : i ≤ (i + 1) := by omega
  have hb7 : (i : Int) ≤ ((i + 1) : Int) := by omega
  unfold maxLen at _hcm
  clear hW1 hms hml hmc hm1 hsp hB hB1 s1 hZ h1 hcs hi0 hz0 hz1 hz2
  go_enter Try.func57, Try.ntmps57
  go_wp2_with fail
  go_region_law (refine step_append_room rfl (.tmp 22) (.tmp 25) 22 rfl 47 i0 11 Try.underlying22 HI0.out.1 HI0.out.2 g 0 i (i + 1) (by simp [Act.eval, Act.put]) ⟨g, 0, none⟩ 0 0 ms (by simp [Act.eval, Act.put]) HML.out HMC.out HM1.out (by omega) HSP.out ?_; rw [Nat.zero_add, ← HW.out, Nat.add_zero])
  go_wp2_with (at_builtin; refine wpList_clear_run1 _ rfl _ 22 rfl _ rfl (hcl _ _) ?_)
  go_ret
  exact ⟨Z, hZl, rfl, by rw [HW.out, HMS.out]⟩

/-- slices.Delete of one element of a row of the call's own. -/
theorem ho_delete (base : Nat) (v : Value) (n i : Nat) (xs : List Ho) (w : World) (hown : w.ownsRow base 47 11 v n (xs.flatMap hoE)) (hl : xs.length = n) (hi : i < n) (hn : n ≤ 1000) :
    Calls Try.prog 57 #[v, .int .i64 i, .int .i64 (i + 1)] w fun e w' => ∃ v', e = .returned v' ∧ w'.ownsRow base 47 11 v' (n - 1) ((xs.take i ++ xs.drop (i + 1)).flatMap hoE) ∧ Below base w w' := by
  rcases own_box hown with ⟨_, h0⟩ | ⟨g, cap, cur, rfl, hbg, hB, hnc, hcm, hcs, htk⟩
  · omega
  · have hone : ∀ u ∈ xs.flatMap hoE, u.oneCell' = true := fun u hu => by obtain ⟨y, _, hy⟩ := List.mem_flatMap.1 hu; exact hoE_one y u hy
    have hxl : (xs.flatMap hoE).length = n * 11 := by rw [flat_len hoE_len, hl]
    have key : Calls Try.prog 57 #[.slice (some ⟨g, 0, none⟩) n cap, .int .i64 i, .int .i64 (i + 1)] w fun e w' =>
      ∃ Z : List Value, Z.length = 11 ∧ e = .returned (.slice (some ⟨g, 0, none⟩) (n - 1) cap) ∧ w' = (w.drew.setCells g (i * 11) ((cur.toList.take (n * 11)).drop ((i + 1) * 11))).setCells g ((n - 1) * 11) Z := by
      by_cases hcj : cap = i + 1
      · exact ho_del_end g n cap i cur w hB hi hnc hcm hcj hcs hn (by rw [htk]; exact hone)
      · exact ho_del_in g n cap i cur w hB hi hnc hcm hcj hcs hn (by rw [htk]; exact hone)
    refine key.mono ?_
    rintro e w' ⟨Z, hZ, rfl, rfl⟩
    rw [htk]
    have hml : ((xs.flatMap hoE).drop ((i + 1) * 11)).length = (n - (i + 1)) * 11 := by rw [List.length_drop, hxl]; omega
    have b1 := hB.drew.setCells ((xs.flatMap hoE).drop ((i + 1) * 11)) (i * 11) _ _ (by rw [hml, hcs]; omega)
    have s1 : (splice cur.toList (i * 11) ((xs.flatMap hoE).drop ((i + 1) * 11))).toArray.size = cap * 11 := by
      rw [List.size_toArray, splice_len _ _ _ (by rw [hml, Array.length_toList, hcs]; omega), Array.length_toList, hcs]
    have b2 := b1.setCells Z ((n - 1) * 11) _ _ (by rw [hZ, s1]; omega)
    refine ⟨_, rfl, b2.own hbg (by omega) hcm ?_ ?_, below_setCells hbg _ _ _ (below_setCells hbg _ _ _ (Below.refl base w).drew)⟩
    · rw [List.size_toArray, splice_len _ _ _ (by rw [hZ]; rw [List.size_toArray] at s1; simp only [s1]; omega)]
      simpa using s1
    · have h := splice_shut cur.toList ((xs.flatMap hoE).drop ((i + 1) * 11)) Z (i * 11) (by rw [hml, hZ, Array.length_toList, hcs]; omega)
      rw [hml, show i * 11 + (n - (i + 1)) * 11 = (n - 1) * 11 from by omega] at h
      have e3 : cur.toList.take (i * 11) = (xs.flatMap hoE).take (i * 11) := by rw [← htk, List.take_take, Nat.min_eq_left (by omega)]
      have e4 : (xs.flatMap hoE).take (i * 11) ++ (xs.flatMap hoE).drop ((i + 1) * 11) = (xs.take i ++ xs.drop (i + 1)).flatMap hoE := by
        rw [flat_take hoE_len, flat_drop hoE_len, ← List.flatMap_append]
      exact h.trans (by rw [e3, e4])
end Go.Proofs.Ytgjhjabnnhhkbaa
