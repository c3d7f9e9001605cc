/- Plain: a stable order by rank. No walk. -/
import Derived.Test.YtgjhjabnnhhkbaaHoQ
namespace Go.Proofs.Ytgjhjabnnhhkbaa

/-- The ranks fall. -/
def Std (xs : List Ho) : Prop := xs.Pairwise (fun a b => b.rnk ≤ a.rnk)
/-- For each rank the same elements in the same order. -/
def Eqv (xs ys : List Ho) : Prop := ∀ r : Int, xs.filter (fun x => x.rnk == r) = ys.filter (fun x => x.rnk == r)
theorem Eqv.refl (xs : List Ho) : Eqv xs xs := fun _ => rfl
theorem Eqv.symm {xs ys : List Ho} (h : Eqv xs ys) : Eqv ys xs := fun r => (h r).symm
theorem Eqv.trans {xs ys zs : List Ho} (h : Eqv xs ys) (g : Eqv ys zs) : Eqv xs zs := fun r => (h r).trans (g r)
theorem Eqv.app {a b c d : List Ho} (h : Eqv a b) (g : Eqv c d) : Eqv (a ++ c) (b ++ d) := fun r => by rw [List.filter_append, List.filter_append, h r, g r]
theorem Eqv.mem {xs ys : List Ho} (h : Eqv xs ys) {x : Ho} (hx : x ∈ xs) : x ∈ ys := by
  have h1 : x ∈ xs.filter (fun y => y.rnk == x.rnk) := List.mem_filter.2 ⟨hx, by simp⟩
  rw [h x.rnk] at h1
  exact (List.mem_filter.1 h1).1
theorem Eqv.swap {U V : List Ho} (h : ∀ x ∈ U, ∀ y ∈ V, x.rnk < y.rnk) : Eqv (U ++ V) (V ++ U) := fun r => by
  rw [List.filter_append, List.filter_append]
  by_cases hu : ∃ x ∈ U, x.rnk = r
  · obtain ⟨x, hx, rfl⟩ := hu
    have : V.filter (fun y => y.rnk == x.rnk) = [] := by
      rw [List.filter_eq_nil_iff]
      intro y hy
      have := h x hx y hy
      simp; omega
    rw [this]; simp
  · have : U.filter (fun y => y.rnk == r) = [] := by
      rw [List.filter_eq_nil_iff]
      intro y hy hr
      exact hu ⟨y, hy, by simpa using hr⟩
    rw [this]; simp
theorem Eqv.uniq : ∀ {xs ys : List Ho}, Std xs → Std ys → Eqv xs ys → xs = ys
  | [], ys, _, _, h => by
    cases ys with
    | nil => rfl
    | cons y s => have := h.symm.mem (x := y) (by simp); simp at this
  | x :: r, ys, hx, hy, h => by
    cases ys with
    | nil => have := h.mem (x := x) (by simp); simp at this
    | cons y s =>
      have hx' := List.pairwise_cons.1 hx
      have hy' := List.pairwise_cons.1 hy
      have h1 : x.rnk ≤ y.rnk := by
        rcases List.mem_cons.1 (h.mem (x := x) (by simp)) with e | e
        · rw [e]; exact Int.le_refl _
        · exact hy'.1 x e
      have h2 : y.rnk ≤ x.rnk := by
        rcases List.mem_cons.1 (h.symm.mem (x := y) (by simp)) with e | e
        · rw [e]; exact Int.le_refl _
        · exact hx'.1 y e
      have e : y.rnk = x.rnk := by omega
      have h3 := h x.rnk
      rw [List.filter_cons, List.filter_cons, if_pos (by simp), if_pos (by simp [e])] at h3
      obtain ⟨h4, h5⟩ := List.cons.inj h3
      subst h4
      congr 1
      refine Eqv.uniq hx'.2 hy'.2 (fun q => ?_)
      by_cases hq : q = x.rnk
      · subst hq; exact h5
      · have h6 := h q
        rwa [List.filter_cons, List.filter_cons, if_neg (by simp; omega), if_neg (by simp; omega)] at h6
theorem Eqv.len : ∀ {xs ys : List Ho}, Eqv xs ys → xs.length = ys.length := by
  intro xs
  induction xs with
  | nil =>
    intro ys h
    cases ys with
    | nil => rfl
    | cons y s => have := h.symm.mem (x := y) (by simp); simp at this
  | cons x r ih =>
    intro ys h
    have hm := h.mem (x := x) (by simp)
    have hx := h x.rnk
    rw [List.filter_cons, if_pos (by simp)] at hx
    -- the first of x's rank in ys is x itself
    obtain ⟨A, B, e, hA⟩ : ∃ A B, ys = A ++ x :: B ∧ ∀ y ∈ A, y.rnk ≠ x.rnk := by
      have : ∀ (zs : List Ho) t, x :: t = zs.filter (fun y => y.rnk == x.rnk) → ∃ A B, zs = A ++ x :: B ∧ ∀ y ∈ A, y.rnk ≠ x.rnk := by
        intro zs
        induction zs with
        | nil => intro t h; simp at h
        | cons z s ihs =>
          intro t h
          by_cases hz : z.rnk = x.rnk
          · rw [List.filter_cons, if_pos (by simpa using hz)] at h
            obtain ⟨h1, _⟩ := List.cons.inj h
            exact ⟨[], s, by rw [h1]; rfl, by simp⟩
          · rw [List.filter_cons, if_neg (by simpa using hz)] at h
            obtain ⟨A, B, e, hA⟩ := ihs t h
            refine ⟨z :: A, B, by rw [e]; rfl, ?_⟩
            intro y hy
            rcases List.mem_cons.1 hy with rfl | hy
            · exact hz
            · exact hA y hy
      exact this ys _ hx
    subst e
    have hl := ih (ys := A ++ B) (fun q => by
      have hq := h q
      rw [List.filter_append, List.filter_cons, List.filter_cons] at hq
      rw [List.filter_append]
      by_cases e : x.rnk = q
      · have hA0 : A.filter (fun y => y.rnk == q) = [] := by
          rw [List.filter_eq_nil_iff]
          intro y hy hr
          exact hA y hy (by rw [e]; simpa using hr)
        rw [hA0] at hq ⊢
        rw [if_pos (by simpa using e), if_pos (by simpa using e)] at hq
        exact (List.cons.inj hq).2
      · rwa [if_neg (by simpa using e), if_neg (by simpa using e)] at hq)
    simp only [List.length_cons, List.length_append] at hl ⊢
    omega
theorem Std.app {xs ys : List Ho} (h : Std xs) (g : Std ys) (hb : ∀ a ∈ xs, ∀ b ∈ ys, b.rnk ≤ a.rnk) : Std (xs ++ ys) := List.pairwise_append.2 ⟨h, g, hb⟩
theorem Std.left {xs ys : List Ho} (h : Std (xs ++ ys)) : Std xs := (List.pairwise_append.1 h).1
theorem Std.right {xs ys : List Ho} (h : Std (xs ++ ys)) : Std ys := (List.pairwise_append.1 h).2.1
theorem Std.mid {xs ys : List Ho} (h : Std (xs ++ ys)) : ∀ a ∈ xs, ∀ b ∈ ys, b.rnk ≤ a.rnk := (List.pairwise_append.1 h).2.2
theorem Std.get {xs : List Ho} (h : Std xs) {i j : Nat} {a b : Ho} (hij : i ≤ j) (ha : xs[i]? = some a) (hb : xs[j]? = some b) : b.rnk ≤ a.rnk := by
  obtain ⟨hi, rfl⟩ := List.getElem?_eq_some_iff.1 ha
  obtain ⟨hj, rfl⟩ := List.getElem?_eq_some_iff.1 hb
  rcases Nat.lt_or_ge i j with h1 | h1
  · exact List.pairwise_iff_getElem.1 h i j hi hj h1
  · obtain rfl : i = j := by omega
    exact Int.le_refl _

/-! ### the insertion sort -/
theorem insKh_spec (x : Ho) (P : List Ho) : ∀ j, j ≤ P.length → (∀ i y, insKh cfQ x P j ≤ i → i < j → P[i]? = some y → y.rnk < x.rnk) ∧ (∀ k y, insKh cfQ x P j = k + 1 → P[k]? = some y → x.rnk ≤ y.rnk)
  | 0, _ => ⟨fun i y _ h _ => by omega, fun k y h _ => by simp [insKh] at h⟩
  | j + 1, hj => by
    obtain ⟨h1, h2⟩ := insKh_spec x P j (by omega)
    obtain ⟨z, hz⟩ : ∃ z, P[j]? = some z := ⟨_, List.getElem?_eq_getElem (by omega)⟩
    have hg : P.getD j ho0 = z := by rw [List.getD_eq_getElem?_getD, hz]; rfl
    rw [insKh, hg]
    unfold cfQ
    by_cases hc : z.rnk - x.rnk < 0
    · rw [if_pos hc]
      refine ⟨fun i y h3 h4 h5 => ?_, h2⟩
      by_cases e : i = j
      · subst e; rw [hz] at h5; cases h5; omega
      · exact h1 i y h3 (by omega) h5
    · rw [if_neg hc]
      refine ⟨fun i y h3 h4 _ => by omega, fun k y h3 h4 => ?_⟩
      obtain rfl : k = j := by omega
      rw [hz] at h4; cases h4; omega
theorem insFh_std {x : Ho} {P : List Ho} (h : Std P) : Std (insFh cfQ x P) ∧ Eqv (insFh cfQ x P) (P ++ [x]) := by
  obtain ⟨h1, h2⟩ := insKh_spec x P P.length (Nat.le_refl _)
  have hle := insKh_le cfQ x P P.length
  unfold insFh
  generalize insKh cfQ x P P.length = k at h1 h2 hle
  have hr : ∀ y ∈ P.drop k, y.rnk < x.rnk := by
    intro y hy
    obtain ⟨i, hi⟩ := List.mem_iff_getElem?.1 hy
    rw [List.getElem?_drop] at hi
    exact h1 (k + i) y (by omega) (List.getElem?_eq_some_iff.1 hi).1 hi
  have hl : ∀ y ∈ P.take k, x.rnk ≤ y.rnk := by
    intro y hy
    obtain ⟨i, hi⟩ := List.mem_iff_getElem?.1 hy
    rw [List.getElem?_take] at hi
    split at hi
    · rename_i hik
      obtain ⟨q, rfl⟩ : ∃ q, k = q + 1 := ⟨k - 1, by omega⟩
      obtain ⟨z, hz⟩ : ∃ z, P[q]? = some z := ⟨_, List.getElem?_eq_getElem (by omega)⟩
      have := h2 q z rfl hz
      have := h.get (show i ≤ q by omega) hi hz
      omega
    · cases hi
  have hP : Std (P.take k ++ P.drop k) := by rw [List.take_append_drop]; exact h
  constructor
  · refine hP.left.app (List.pairwise_cons.2 ⟨fun y hy => by have := hr y hy; omega, hP.right⟩) ?_
    intro a ha b hb
    rcases List.mem_cons.1 hb with rfl | hb
    · exact hl a ha
    · exact hP.mid a ha b hb
  · have e1 : P ++ [x] = P.take k ++ (P.drop k ++ [x]) := by rw [← List.append_assoc, List.take_append_drop]
    rw [e1]
    refine (Eqv.refl _).app ?_
    have := Eqv.swap (U := P.drop k) (V := [x]) (fun a ha b hb => by rw [List.mem_singleton.1 hb]; exact hr a ha)
    exact this.symm
theorem isorth_std : ∀ (d : List Ho), Std (isorth cfQ d) ∧ Eqv (isorth cfQ d) d := by
  have : ∀ (d P Q : List Ho), Std P → Eqv P Q → Std (d.foldl (fun P x => insFh cfQ x P) P) ∧ Eqv (d.foldl (fun P x => insFh cfQ x P) P) (Q ++ d) := by
    intro d
    induction d with
    | nil => intro P Q h g; exact ⟨h, by simpa using g⟩
    | cons x r ih =>
      intro P Q h g
      rw [List.foldl_cons]
      obtain ⟨h1, h2⟩ := insFh_std (x := x) h
      have := ih (insFh cfQ x P) (Q ++ [x]) h1 (h2.trans (g.app (Eqv.refl _)))
      simpa using this
  intro d
  have h := this d [] [] List.Pairwise.nil (Eqv.refl _)
  simpa [isorth] using h
theorem isorth_uniq {d ys : List Ho} (h : Std ys) (g : Eqv ys d) : ys = isorth cfQ d := Eqv.uniq h (isorth_std d).1 (g.trans (isorth_std d).2.symm)
end Go.Proofs.Ytgjhjabnnhhkbaa
