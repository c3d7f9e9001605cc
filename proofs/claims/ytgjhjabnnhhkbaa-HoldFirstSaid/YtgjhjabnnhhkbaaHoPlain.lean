/- What the hold package and its reference compute, as plain functions. No walk. -/
import Derived.Test.YtgjhjabnnhhkbaaHoKit
namespace Go.Proofs.Ytgjhjabnnhhkbaa

def winB (n lo hi : Int) : Bool := decide (lo ≤ n) && decide (n ≤ hi)
theorem winB_iff {n lo hi : Int} : winB n lo hi = true ↔ lo ≤ n ∧ n ≤ hi := by simp [winB]
def idB (n : Int) : Bool := winB n 1 9999
def dayB (n : Int) : Bool := winB n 0 109572
def badH1 (h : Ho) : Bool := !winB h.id 1 99999 || !winB h.pat 1 9999 || !winB h.rcd 1 9999 || !winB h.itm 0 9999
def badH2 (h : Ho) : Bool := !winB h.pk 1 4 || !dayB h.plc || !winB h.got 0 9999 || !dayB h.unt || !dayB h.slp || !winB h.rnk 0 9
def badH3 (h : Ho) : Bool := !winB h.st 1 3
def badH4 (h : Ho) : Bool := (decide (0 < h.got) != (h.st != 1)) || (decide (0 < h.unt) != (h.st == 3))
/-- The error of a hold by itself. -/
def chkH (h : Ho) : Int := if badH1 h = true then 2 else if badH2 h = true then 2 else if badH3 h = true then 1 else if badH4 h = true then 12 else 0
def badR (h : Ho) : Bool := decide (h.id < 1) || decide (99999 < h.id) || !idB h.pat || !idB h.rcd || (h.itm != 0 && !idB h.itm) || decide (h.pk < 1) || decide (4 < h.pk) || !dayB h.plc || (h.got != 0 && !idB h.got) || !dayB h.unt || !dayB h.slp || decide (h.rnk < 0) || decide (9 < h.rnk)
theorem win_lt (n lo hi : Int) : (!winB n lo hi) = (decide (n < lo) || decide (hi < n)) := by
  unfold winB
  by_cases h1 : lo ≤ n <;> by_cases h2 : n ≤ hi <;> simp [h1, h2] <;> omega
theorem win_zero (n : Int) : (!winB n 0 9999) = (n != 0 && !idB n) := by
  unfold idB
  rw [win_lt, win_lt]
  by_cases h0 : n = 0
  · subst h0; decide
  · have e : (n != 0) = true := by simpa using h0
    rw [e, Bool.true_and]
    by_cases h1 : n < 0
    · simp [h1]; omega
    · have e1 : decide (n < 0) = false := by simpa using h1
      have e2 : decide (n < 1) = false := by simp; omega
      rw [e1, e2]
theorem chkH_R (h : Ho) : chkH h = if badR h = true then 2 else if (decide (h.st < 1) || decide (3 < h.st)) = true then 1 else if badH4 h = true then 12 else 0 := by
  have e : badR h = (badH1 h || badH2 h) := by
    unfold badR badH1 badH2
    rw [← win_zero h.itm, ← win_zero h.got, win_lt h.id, win_lt h.pk, win_lt h.rnk]
    simp only [idB, Bool.or_assoc]
  have e3 : badH3 h = (decide (h.st < 1) || decide (3 < h.st)) := win_lt _ _ _
  rw [e, ← e3]
  unfold chkH
  cases badH1 h <;> cases badH2 h <;> simp
/-- The first error; p is the ID before. -/
def chkHs : Option Int → List Ho → Int
  | _, [] => 0
  | p, x :: r => if p.any (fun q => decide (x.id ≤ q)) = true then 7 else if (chkH x != 0) = true then chkH x else chkHs (some x.id) r
def prevH (xs : List Ho) : Nat → Option Int
  | 0 => none
  | k + 1 => (xs[k]?).map (·.id)
theorem chkHs_step {xs : List Ho} {k : Nat} {x : Ho} (h : xs[k]? = some x) :
    chkHs (prevH xs k) (xs.drop k) = if (prevH xs k).any (fun q => decide (x.id ≤ q)) = true then 7 else if (chkH x != 0) = true then chkH x else chkHs (prevH xs (k + 1)) (xs.drop (k + 1)) := by
  obtain ⟨hk, rfl⟩ := List.getElem?_eq_some_iff.1 h
  rw [List.drop_eq_getElem_cons hk, chkHs, prevH, h]; rfl
theorem anyO_none {f : Int → Bool} : (none : Option Int).any f = false := rfl
/-- Are two of the holds alike? Those before are P. -/
def tw (p : Ho → Ho → Bool) : List Ho → List Ho → Bool
  | _, [] => false
  | P, x :: r => P.any (fun y => p y x) || tw p (P ++ [x]) r
theorem tw_step {p : Ho → Ho → Bool} {xs : List Ho} {k : Nat} {x : Ho} (h : xs[k]? = some x) : tw p (xs.take k) (xs.drop k) = ((xs.take k).any (fun y => p y x) || tw p (xs.take (k + 1)) (xs.drop (k + 1))) := by
  rw [take_step h]
  obtain ⟨hk, rfl⟩ := List.getElem?_eq_some_iff.1 h
  rw [List.drop_eq_getElem_cons hk, tw]
theorem tw_or (p q : Ho → Ho → Bool) : ∀ (r P : List Ho), tw (fun a b => p a b || q a b) P r = (tw p P r || tw q P r)
  | [], P => rfl
  | x :: r, P => by
    rw [tw, tw, tw, tw_or p q r]
    have : P.any (fun y => p y x || q y x) = (P.any (fun y => p y x) || P.any (fun y => q y x)) := by
      induction P with
      | nil => rfl
      | cons z s ih => simp only [List.any_cons, ih]; cases p z x <;> cases q z x <;> simp
    rw [this]
    cases P.any (fun y => p y x) <;> cases P.any (fun y => q y x) <;> simp
def alk1 (a b : Ho) : Bool := a.pat == b.pat && a.rcd == b.rcd
def alk2 (a b : Ho) : Bool := a.got == b.got && decide (0 < a.got)
def alkR (a b : Ho) : Bool := (b.pat == a.pat && b.rcd == a.rcd) || (decide (0 < b.got) && b.got == a.got)
theorem alkR_eq (a b : Ho) : alkR a b = (alk1 a b || alk2 a b) := by
  unfold alkR alk1 alk2
  congr 1
  · rw [Bool.beq_comm (a := b.pat), Bool.beq_comm (a := b.rcd)]
  · by_cases h : a.got = b.got
    · rw [h, Bool.and_comm]
    · have e1 : (a.got == b.got) = false := by simpa using h
      have e2 : (b.got == a.got) = false := by simpa using fun e : b.got = a.got => h e.symm
      rw [e1, e2]; simp
def rightH (xs : List Ho) : Int := if 64 < xs.length then 13 else if (chkHs none xs != 0) = true then chkHs none xs else if (tw alk1 [] xs || tw alk2 [] xs) = true then 7 else 0
theorem rightH_R {xs : List Ho} (h : ¬ 64 < xs.length) : rightH xs = if (chkHs none xs != 0) = true then chkHs none xs else if tw alkR [] xs = true then 7 else 0 := by
  unfold rightH
  rw [if_neg h, ← tw_or]
  have : (fun a b => alk1 a b || alk2 a b) = alkR := by funext a b; exact (alkR_eq a b).symm
  rw [this]
end Go.Proofs.Ytgjhjabnnhhkbaa
