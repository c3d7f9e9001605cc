/- The index of the first element for which a test holds; bounds of an int. No program. -/
import Derived.Test.YtgjhjabnnhhkbaaMem
namespace Go.Proofs.Ytgjhjabnnhhkbaa

/-- A number that fits an int. -/
def I64 (a : Int) : Prop := -9223372036854775808 ≤ a ∧ a ≤ 9223372036854775807

/-! ### the index of the first element for which p holds, or -1 -/
def idxP {α : Type} (p : α → Bool) : List α → Int → Int
  | [], _ => -1
  | x :: r, k => if p x = true then k else idxP p r (k + 1)

theorem idxP_step {α : Type} {p : α → Bool} {xs : List α} {k : Nat} {x : α} (h : xs[k]? = some x) :
    idxP p (xs.drop k) k = if p x = true then (k : Int) else idxP p (xs.drop (k + 1)) ((k + 1 : Nat) : Int) := by
  obtain ⟨hk, rfl⟩ := List.getElem?_eq_some_iff.1 h
  rw [List.drop_eq_getElem_cons hk, idxP]; rfl
theorem idxP_end {α : Type} {p : α → Bool} {xs : List α} {k : Nat} (h : xs.length ≤ k) (i : Int) : idxP p (xs.drop k) i = -1 := by
  rw [List.drop_eq_nil_of_le h]; rfl

theorem idxP_cases {α : Type} (p : α → Bool) : ∀ (xs : List α) (k : Int), 0 ≤ k → (idxP p xs k = -1 ∧ ∀ x ∈ xs, p x = false) ∨ ∃ (i : Nat) (x : α), idxP p xs k = k + i ∧ xs[i]? = some x ∧ p x = true ∧ ∀ y ∈ xs.take i, p y = false
  | [], k, _ => .inl ⟨rfl, by simp⟩
  | x :: r, k, hk => by
    by_cases h : p x = true
    · exact .inr ⟨0, x, by simp [idxP, h], rfl, h, by simp⟩
    · have h' : p x = false := by simpa using h
      rcases idxP_cases p r (k + 1) (by omega) with ⟨h1, h2⟩ | ⟨i, y, h1, h2, h3, h4⟩
      · refine .inl ⟨by rw [idxP, if_neg h, h1], ?_⟩
        intro y hy
        rcases List.mem_cons.1 hy with rfl | hy
        · exact h'
        · exact h2 y hy
      · refine .inr ⟨i + 1, y, by rw [idxP, if_neg h, h1]; omega, by simpa using h2, h3, ?_⟩
        intro z hz
        rw [List.take_succ_cons] at hz
        rcases List.mem_cons.1 hz with rfl | hz
        · exact h'
        · exact h4 z hz

/-- The index of the first element for which p holds, or -1. -/
def ix {α : Type} (p : α → Bool) (xs : List α) : Int := idxP p xs 0
theorem ix_cases {α : Type} (p : α → Bool) (xs : List α) : (ix p xs = -1 ∧ ∀ x ∈ xs, p x = false) ∨ ∃ (i : Nat) (x : α), ix p xs = i ∧ xs[i]? = some x ∧ p x = true ∧ ∀ y ∈ xs.take i, p y = false := by
  rcases idxP_cases p xs 0 (by omega) with h | ⟨i, x, h1, h2⟩
  · exact .inl h
  · exact .inr ⟨i, x, by unfold ix; omega, h2⟩
theorem ix_congr {α : Type} {p q : α → Bool} (h : ∀ x, p x = q x) (xs : List α) : ix p xs = ix q xs := by
  rw [show p = q from funext h]
theorem any_step {α : Type} {p : α → Bool} {xs : List α} {k : Nat} {x : α} (h : xs[k]? = some x) : (xs.drop k).any p = (p x || (xs.drop (k + 1)).any p) := by
  obtain ⟨hk, rfl⟩ := List.getElem?_eq_some_iff.1 h
  rw [List.drop_eq_getElem_cons hk, List.any_cons]
theorem take_step {α : Type} {xs : List α} {k : Nat} {x : α} (h : xs[k]? = some x) : xs.take (k + 1) = xs.take k ++ [x] := by
  obtain ⟨hk, rfl⟩ := List.getElem?_eq_some_iff.1 h
  rw [List.take_succ_eq_append_getElem hk]
end Go.Proofs.Ytgjhjabnnhhkbaa
