/- What the loan package and its reference compute, as plain functions. No program's walk. -/
import Derived.Test.YtelkidhgbjhboaaLoKit
namespace Go.Proofs.Ytelkidhgbjhboaa

def idB (n : Int) : Bool := decide (1 ≤ n) && decide (n ≤ 9999)
def dayB (n : Int) : Bool := decide (0 ≤ n) && decide (n ≤ 109572)
theorem idB_iff {n : Int} : idB n = true ↔ 1 ≤ n ∧ n ≤ 9999 := by simp [idB]
theorem dayB_iff {n : Int} : dayB n = true ↔ 0 ≤ n ∧ n ≤ 109572 := by simp [dayB]

/-- A loan whose numbers are not within their limits. -/
def badL (x : Lo) : Bool := !idB x.item || !idB x.patron || !dayB x.out || !dayB x.due || decide (x.due < x.out) || decide (x.ren < 0) || decide (10 < x.ren)
/-- The first error; p is the item before. -/
def chkL : Option Int → List Lo → Int
  | _, [] => 0
  | p, x :: r => if p.any (fun q => decide (x.item ≤ q)) = true then 7 else if badL x = true then 2 else chkL (some x.item) r
def prevL (xs : List Lo) : Nat → Option Int
  | 0 => none
  | k + 1 => (xs[k]?).map (·.item)
theorem chkL_step {xs : List Lo} {k : Nat} {x : Lo} (h : xs[k]? = some x) :
    chkL (prevL xs k) (xs.drop k) = if (prevL xs k).any (fun q => decide (x.item ≤ q)) = true then 7 else if badL x = true then 2 else chkL (prevL xs (k + 1)) (xs.drop (k + 1)) := by
  obtain ⟨hk, rfl⟩ := List.getElem?_eq_some_iff.1 h
  rw [List.drop_eq_getElem_cons hk, chkL, prevL, h]; rfl
structure LoM (x : Lo) : Prop where
  item : 1 ≤ x.item ∧ x.item ≤ 9999
  patron : 1 ≤ x.patron ∧ x.patron ≤ 9999
  out : 0 ≤ x.out ∧ x.out ≤ 109572
  due : 0 ≤ x.due ∧ x.due ≤ 109572
  od : x.out ≤ x.due
  ren : 0 ≤ x.ren ∧ x.ren ≤ 10
theorem badL_ok {x : Lo} (h : badL x = false) : LoM x := by
  simp only [badL, Bool.or_eq_false_iff, decide_eq_false_iff_not, Bool.not_eq_false'] at h
  obtain ⟨⟨⟨⟨⟨⟨h1, h2⟩, h3⟩, h4⟩, h5⟩, h6⟩, h7⟩ := h
  exact ⟨idB_iff.1 h1, idB_iff.1 h2, dayB_iff.1 h3, dayB_iff.1 h4, by omega, by omega⟩
theorem badL_of {x : Lo} (h : LoM x) : badL x = false := by
  simp only [badL, Bool.or_eq_false_iff, decide_eq_false_iff_not, Bool.not_eq_false']
  exact ⟨⟨⟨⟨⟨⟨idB_iff.2 h.item, idB_iff.2 h.patron⟩, dayB_iff.2 h.out⟩, dayB_iff.2 h.due⟩, by have := h.od; omega⟩, by have := h.ren; omega⟩, by have := h.ren; omega⟩
theorem chkL_ok : ∀ (xs : List Lo) (p : Option Int), chkL p xs = 0 → ∀ x ∈ xs, badL x = false
  | [], _, _, x, hx => by simp at hx
  | y :: r, p, h, x, hx => by
    rw [chkL] at h
    split at h
    · simp at h
    · split at h
      · simp at h
      · rename_i hb
        rcases List.mem_cons.1 hx with rfl | hx
        · simpa using hb
        · exact chkL_ok r _ h x hx
theorem anyL_none {f : Int → Bool} : (none : Option Int).any f = false := rfl
def rightL (xs : List Lo) : Int := if 64 < xs.length then 13 else chkL none xs

def atL (xs : List Lo) (item : Int) : Int := ix (fun x => x.item == item) xs
/-- The first element for which a test holds, and its index. -/
def fstF (p : Lo → Bool) (xs : List Lo) : Lo × Int := ((xs.find? p).getD lo0, ix p xs)
theorem fst_cases (p : Lo → Bool) (xs : List Lo) :
    (ix p xs = -1 ∧ fstF p xs = (lo0, -1) ∧ ∀ x ∈ xs, p x = false) ∨ ∃ (i : Nat) (x : Lo), ix p xs = i ∧ xs[i]? = some x ∧ p x = true ∧ fstF p xs = (x, (i : Int)) ∧ ∀ y ∈ xs.take i, p y = false := by
  rcases ix_cases p xs with ⟨h1, h2⟩ | ⟨i, x, h1, h2, h3, h4⟩
  · refine .inl ⟨h1, ?_, h2⟩
    have : xs.find? p = none := List.find?_eq_none.2 (fun x hx => by rw [h2 x hx]; decide)
    unfold fstF; rw [this, h1]; rfl
  · refine .inr ⟨i, x, h1, h2, h3, ?_, h4⟩
    have : xs.find? p = some x := by
      obtain ⟨hi, rfl⟩ := List.getElem?_eq_some_iff.1 h2
      rw [List.find?_eq_some_iff_append]
      refine ⟨h3, xs.take i, xs.drop (i + 1), by rw [← List.drop_eq_getElem_cons hi, List.take_append_drop], fun y hy => by rw [h4 y hy]; rfl⟩
    unfold fstF; rw [this, h1]; rfl
def ofL (xs : List Lo) (pat : Int) : List Lo := xs.filter (fun x => x.patron == pat)
def lateL (xs : List Lo) (pat day : Int) : Int := ((xs.filter (fun x => x.patron == pat)).filter (fun x => decide (x.due < day))).length
def chd (xs : List Lo) : Int × List Lo := if rightL xs = 0 then (0, xs) else (rightL xs, [])
/-- The place of a loan that is added. -/
def plcL (xs : List Lo) (n : Lo) : Nat := (xs.takeWhile (fun x => decide (x.item ≤ n.item))).length
def outL (xs : List Lo) (n : Lo) : Int × List Lo := if 0 ≤ atL xs n.item then (7, []) else chd (xs.take (plcL xs n) ++ n :: xs.drop (plcL xs n))
def backL (xs : List Lo) (item : Int) : Int × List Lo × Lo := if atL xs item = -1 then (9, [], lo0) else (0, xs.take (atL xs item).toNat ++ xs.drop ((atL xs item).toNat + 1), (fstF (fun x => x.item == item) xs).1)
def renF (due : Int) (x : Lo) : Lo := { x with due := due, ren := x.ren + 1 }
def renewL (xs : List Lo) (item due : Int) : Int × List Lo :=
  if atL xs item = -1 then (9, []) else if (fstF (fun x => x.item == item) xs).1.rcl = true then (12, []) else chd (xs.set (atL xs item).toNat (renF due (fstF (fun x => x.item == item) xs).1))
def recF (due : Int) (x : Lo) : Lo := { x with rcl := true, due := max (min x.due due) x.out }
def recallL (xs : List Lo) (item due : Int) : Int × List Lo :=
  if atL xs item = -1 then (9, []) else if (fstF (fun x => x.item == item) xs).1.rcl = true then (12, []) else if dayB due = false then (2, []) else (0, xs.set (atL xs item).toNat (recF due (fstF (fun x => x.item == item) xs).1))
end Go.Proofs.Ytelkidhgbjhboaa
