/- What the order package and its reference compute, as plain functions. No walk. -/
import Derived.Test.YtdbanekjjibpbaaOdKit
namespace Go.Proofs.Ytdbanekjjibpbaa

def winB (n lo hi : Int) : Bool := decide (lo ≤ n) && decide (n ≤ hi)
theorem winB_iff {n lo hi : Int} : winB n lo hi = true ↔ lo ≤ n ∧ n ≤ hi := by simp [winB]
def oidB (n : Int) : Bool := winB n 1 9999
/-- The shares from the k-th on are valid; P are those before. -/
def shsOk : List Sh → List Sh → Bool
  | _, [] => true
  | P, x :: r => oidB x.fund && winB x.weight 1 100 && !(decide (0 ≤ ix (fun y => y.fund == x.fund) P)) && shsOk (P ++ [x]) r
theorem shsOk_step {xs : List Sh} {k : Nat} {x : Sh} (h : xs[k]? = some x) :
    shsOk (xs.take k) (xs.drop k) = (oidB x.fund && winB x.weight 1 100 && !(decide (0 ≤ ix (fun y => y.fund == x.fund) (xs.take k))) && shsOk (xs.take (k + 1)) (xs.drop (k + 1))) := by
  rw [take_step h]
  obtain ⟨hk, rfl⟩ := List.getElem?_eq_some_iff.1 h
  rw [List.drop_eq_getElem_cons hk, shsOk]
def lenB (l : List Sh) : Bool := winB (l.length : Int) 1 4
def sharesV (l : List Sh) : Bool := lenB l && shsOk [] l
def bad1 (o : Od) : Bool := !oidB o.id || !oidB o.rcd || !oidB o.ven || !winB o.cop 1 99 || !winB o.pri 1 1000000
def bad2 (o : Od) : Bool := !winB o.rcv 0 o.cop || !winB o.bil 0 o.rcv || !winB o.paid 0 100000000
def bad3 (o : Od) : Bool := !winB o.st 1 3 || !sharesV o.sh
def bad4 (o : Od) : Bool := (o.st == 2) != (o.bil == o.cop)
/-- The error of an order by itself. -/
def chkO (o : Od) : Int := if bad1 o = true then 2 else if bad2 o = true then 2 else if bad3 o = true then 1 else if bad4 o = true then 12 else 0
/-- The first error; p is the ID before. -/
def chkOs : Option Int → List Od → Int
  | _, [] => 0
  | p, x :: r => if p.any (fun q => decide (x.id ≤ q)) = true then 7 else if (chkO x != 0) = true then chkO x else chkOs (some x.id) r
def prevO (xs : List Od) : Nat → Option Int
  | 0 => none
  | k + 1 => (xs[k]?).map (·.id)
theorem chkOs_step {xs : List Od} {k : Nat} {x : Od} (h : xs[k]? = some x) :
    chkOs (prevO xs k) (xs.drop k) = if (prevO xs k).any (fun q => decide (x.id ≤ q)) = true then 7 else if (chkO x != 0) = true then chkO x else chkOs (prevO xs (k + 1)) (xs.drop (k + 1)) := by
  obtain ⟨hk, rfl⟩ := List.getElem?_eq_some_iff.1 h
  rw [List.drop_eq_getElem_cons hk, chkOs, prevO, h]; rfl
def rightO (xs : List Od) : Int := if 64 < xs.length then 13 else chkOs none xs
theorem anyO_none {f : Int → Bool} : (none : Option Int).any f = false := rfl
end Go.Proofs.Ytdbanekjjibpbaa
