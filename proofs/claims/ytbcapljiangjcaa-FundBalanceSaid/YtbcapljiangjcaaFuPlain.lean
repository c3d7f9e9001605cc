/- Funds as plain data, and what the fund package and its reference compute, as plain functions. No program. -/
import Derived.Test.YtbcapljiangjcaaMem
namespace Go.Proofs.Ytbcapljiangjcaa

structure Fu where
  id : Int
  parent : Int
  budget : Int
  enc : Int
  spent : Int
  deriving DecidableEq

def fuE (x : Fu) : List Value := [.int .i64 x.id, .int .i64 x.parent, .int .i64 x.budget, .int .i64 x.enc, .int .i64 x.spent]
def fuV (x : Fu) : Value := .agg #[.int .i64 x.id, .int .i64 x.parent, .int .i64 x.budget, .int .i64 x.enc, .int .i64 x.spent]
def fu0 : Fu := ⟨0, 0, 0, 0, 0⟩
theorem fuE_len (x : Fu) : (fuE x).length = 5 := rfl
theorem fuE_one (x : Fu) : ∀ u ∈ fuE x, u.oneCell' = true := by
  intro u hu; simp only [fuE, List.mem_cons, List.not_mem_nil, or_false] at hu
  rcases hu with rfl | rfl | rfl | rfl | rfl <;> rfl

/-- Every number of a fund fits an int. -/
def I64 (a : Int) : Prop := -9223372036854775808 ≤ a ∧ a ≤ 9223372036854775807
structure FuW (x : Fu) : Prop where
  id : I64 x.id
  parent : I64 x.parent
  budget : I64 x.budget
  enc : I64 x.enc
  spent : I64 x.spent

abbrev Fs (w : World) (B : Nat) (A : Option Addr) (n c : Nat) (xs : List Fu) : Prop := Sl fuE 5 w B A n c xs

theorem fu_cells {w : World} {b o : Nat} {x : Fu} (h : ∀ j u, (fuE x)[j]? = some u → w.cell? ⟨b, o + j, none⟩ = some u) :
    w.cell? ⟨b, o, none⟩ = some (.int .i64 x.id) ∧ w.cell? ⟨b, o + 1, none⟩ = some (.int .i64 x.parent) ∧ w.cell? ⟨b, o + 2, none⟩ = some (.int .i64 x.budget)
      ∧ w.cell? ⟨b, o + 3, none⟩ = some (.int .i64 x.enc) ∧ w.cell? ⟨b, o + 4, none⟩ = some (.int .i64 x.spent) :=
  ⟨h 0 _ rfl, h 1 _ rfl, h 2 _ rfl, h 3 _ rfl, h 4 _ rfl⟩

theorem Fs_at {w : World} {B : Nat} {A : Option Addr} {n c : Nat} {xs : List Fu} (h : Fs w B A n c xs) {k : Nat} (hk : k < n) :
    ∃ b off x, A = some ⟨b, off, none⟩ ∧ b < B ∧ xs[k]? = some x ∧
     w.cell? ⟨b, off + k * 5, none⟩ = some (.int .i64 x.id) ∧ w.cell? ⟨b, off + k * 5 + 1, none⟩ = some (.int .i64 x.parent)
     ∧ w.cell? ⟨b, off + k * 5 + 2, none⟩ = some (.int .i64 x.budget) ∧ w.cell? ⟨b, off + k * 5 + 3, none⟩ = some (.int .i64 x.enc)
     ∧ w.cell? ⟨b, off + k * 5 + 4, none⟩ = some (.int .i64 x.spent) := by
  obtain ⟨b, off, x, hA, hb, hx, hc⟩ := h.at_ hk
  exact ⟨b, off, x, hA, hb, hx, fu_cells hc⟩

theorem below_box5 {B : Nat} {a w : World} (h : Go.RowKit.Below B a w) {b : Nat} (hb : B ≤ b) (u0 u1 u2 u3 u4 : Value) :
    Go.RowKit.Below B a (((((w.setCell ⟨b, 0, none⟩ u0).setCell ⟨b, 1, none⟩ u1).setCell ⟨b, 2, none⟩ u2).setCell ⟨b, 3, none⟩ u3).setCell ⟨b, 4, none⟩ u4) :=
  ((((h.setCell hb u0).setCell hb u1).setCell hb u2).setCell hb u3).setCell hb u4

/-! ### amounts -/
def mny (n : Int) : Bool := decide (0 ≤ n) && decide (n ≤ 100000000)

/-! ### the index of the first element for which p holds, or -1 -/
def idxP {α : Type} (p : α → Bool) : List α → Int → Int
  | [], _ => -1
  | x :: r, k => if p x = true then k else idxP p r (k + 1)

theorem idxP_step {α : Type} {p : α → Bool} {xs : List α} {k : Nat} {x : α} (h : xs[k]? = some x) :
    idxP p (xs.drop k) k = if p x = true then (k : Int) else idxP p (xs.drop (k + 1)) ((k + 1 : Nat) : Int) := by
  obtain ⟨hk, rfl⟩ := List.getElem?_eq_some_iff.1 h
  rw [List.drop_eq_getElem_cons hk, idxP]; rfl
theorem idxP_end {α : Type} {p : α → Bool} {xs : List α} {k : Nat} (h : xs.length ≤ k) (i : Int) : idxP p (xs.drop k) i = -1 := by
  rw [List.drop_eq_nil_of_le h]; rfl

theorem idxP_cases {α : Type} (p : α → Bool) : ∀ (xs : List α) (k : Int), 0 ≤ k → (idxP p xs k = -1 ∧ ∀ x ∈ xs, p x = false) ∨ ∃ (i : Nat) (x : α), idxP p xs k = k + i ∧ xs[i]? = some x ∧ p x = true ∧ ∀ y ∈ xs.take i, p y = false
  | [], k, _ => .inl ⟨rfl, by simp⟩
  | x :: r, k, hk => by
    by_cases h : p x = true
    · exact .inr ⟨0, x, by simp [idxP, h], rfl, h, by simp⟩
    · have h' : p x = false := by simpa using h
      rcases idxP_cases p r (k + 1) (by omega) with ⟨h1, h2⟩ | ⟨i, y, h1, h2, h3, h4⟩
      · refine .inl ⟨by rw [idxP, if_neg h, h1], ?_⟩
        intro y hy
        rcases List.mem_cons.1 hy with rfl | hy
        · exact h'
        · exact h2 y hy
      · refine .inr ⟨i + 1, y, by rw [idxP, if_neg h, h1]; omega, by simpa using h2, h3, ?_⟩
        intro z hz
        rw [List.take_succ_cons] at hz
        rcases List.mem_cons.1 hz with rfl | hz
        · exact h'
        · exact h4 z hz

/-- The index as an option: none where there is none. -/
def ix {α : Type} (p : α → Bool) (xs : List α) : Int := idxP p xs 0
theorem ix_cases {α : Type} (p : α → Bool) (xs : List α) : (ix p xs = -1 ∧ ∀ x ∈ xs, p x = false) ∨ ∃ (i : Nat) (x : α), ix p xs = i ∧ xs[i]? = some x ∧ p x = true ∧ ∀ y ∈ xs.take i, p y = false := by
  rcases idxP_cases p xs 0 (by omega) with h | ⟨i, x, h1, h2⟩
  · exact .inl h
  · exact .inr ⟨i, x, by unfold ix; omega, h2⟩

def atF (xs : List Fu) (id : Int) : Int := ix (fun x => x.id == id) xs
end Go.Proofs.Ytbcapljiangjcaa
