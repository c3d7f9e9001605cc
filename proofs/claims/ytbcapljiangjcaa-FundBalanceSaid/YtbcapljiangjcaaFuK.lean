/- Walks: Right. -/
import Derived.Test.YtbcapljiangjcaaFuJ
namespace Go.Proofs.Ytbcapljiangjcaa
open Go.RowKit Go.Maps

/-- A fund whose numbers are not within their limits. -/
def badF (x : Fu) : Bool := decide (x.id < 1) || decide (9999 < x.id) || decide (x.parent < 0) || decide (9999 < x.parent) || !mny x.budget || !mny x.enc || !mny x.spent
/-- The first error of the first pass; p is the ID before. -/
def chkA : Option Int → List Fu → Int
  | _, [] => 0
  | p, x :: r => if p.any (fun q => decide (x.id ≤ q)) = true then 7 else if badF x = true then 2 else chkA (some x.id) r
def prevAt (xs : List Fu) : Nat → Option Int
  | 0 => none
  | k + 1 => (xs[k]?).map (·.id)

theorem chkA_step {xs : List Fu} {k : Nat} {x : Fu} (h : xs[k]? = some x) :
    chkA (prevAt xs k) (xs.drop k) = if (prevAt xs k).any (fun q => decide (x.id ≤ q)) = true then 7 else if badF x = true then 2 else chkA (prevAt xs (k + 1)) (xs.drop (k + 1)) := by
  obtain ⟨hk, rfl⟩ := List.getElem?_eq_some_iff.1 h
  rw [List.drop_eq_getElem_cons hk, chkA, prevAt, h]; rfl

theorem badF_ok {x : Fu} (h : badF x = false) : (1 ≤ x.id ∧ x.id ≤ 9999) ∧ (0 ≤ x.parent ∧ x.parent ≤ 9999) ∧ FuM x ∧ FuW x := by
  simp only [badF, mny, Bool.or_eq_false_iff, decide_eq_false_iff_not, Bool.not_eq_false', Bool.and_eq_true, decide_eq_true_eq] at h
  obtain ⟨⟨⟨⟨⟨⟨h1, h2⟩, h3⟩, h4⟩, h5, h6⟩, h7, h8⟩, h9, h10⟩ := h
  refine ⟨⟨by omega, by omega⟩, ⟨by omega, by omega⟩, ⟨⟨h5, h6⟩, ⟨h7, h8⟩, ⟨h9, h10⟩⟩, ?_⟩
  constructor <;> (unfold I64; omega)
theorem chkA_ok : ∀ (xs : List Fu) (p : Option Int), chkA p xs = 0 → ∀ x ∈ xs, badF x = false
  | [], _, _, x, hx => by simp at hx
  | y :: r, p, h, x, hx => by
    rw [chkA] at h
    split at h
    · simp at h
    · split at h
      · simp at h
      · rename_i hb
        rcases List.mem_cons.1 hx with rfl | hx
        · simpa using hb
        · exact chkA_ok r _ h x hx

def noneF (xs : List Fu) : Bool := xs.any (fun f => decide (f.parent ≠ 0) && decide (atF xs f.parent < 0))

/-- Where the first pass finds nothing all is within its limits. -/
theorem mny_iff {n : Int} : mny n = true ↔ 0 ≤ n ∧ n ≤ 100000000 := by simp [mny]
theorem any_none {f : Int → Bool} : (none : Option Int).any f = false := rfl

def rightP (xs : List Fu) : Int :=
  if 32 < xs.length then 13 else if chkA none xs ≠ 0 then chkA none xs else if noneF xs = true then 9 else if loopR xs = true then 11
  else if 0 ≤ ix (fun f => decide (freeF f < 0)) xs then 17 else 0
/-- A fund is above itself, as the reference looks for it. -/
def cycR (xs : List Fu) : Bool := xs.any (fun f => decide (f.parent ≠ 0) && wiR xs (xs.length + 1) f.parent f.id)
def overF (xs : List Fu) : Bool := xs.any (fun f => decide (f.budget < f.enc + f.spent))
def rightR (xs : List Fu) : Int :=
  if 32 < xs.length then 13 else if chkA none xs ≠ 0 then chkA none xs else if noneF xs = true then 9 else if cycR xs = true then 11
  else if overF xs = true then 17 else 0
end Go.Proofs.Ytbcapljiangjcaa
