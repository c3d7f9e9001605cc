/- Rights of access as plain data, and what the package and its reference compute. No program. -/
import Derived.Test.YtgijjgnacgpdfaaMem
namespace Go.Proofs.Ytgijjgnacgpdfaa

structure Rg where
  lv : Int
  gr : Int
  un : Int
  th : Int
  deriving DecidableEq
def rgV (r : Rg) : Value := .agg #[.int .i64 r.lv, .int .i64 r.gr, .int .i64 r.un, .int .i64 r.th]
def rg0 : Rg := ⟨0, 0, 0, 0⟩
def I64 (a : Int) : Prop := -9223372036854775808 ≤ a ∧ a ≤ 9223372036854775807

def wiB (n a b : Int) : Bool := decide (a ≤ n) && decide (n ≤ b)
/-- The error of rights. -/
def rgE (r : Rg) : Int :=
  if (!wiB r.lv 1 4 || (r.un == 0 && r.th != 0) || (r.un != 0 && !wiB r.th 1 4)) = true then 1
  else if (!wiB r.un 0 109572 || !wiB r.gr 0 99) = true then 2
  else if (decide (0 < r.gr) != (r.lv == 2 || r.th == 2)) = true then 1 else 0
/-- The level on a day. -/
def lvF (r : Rg) (day : Int) : Int := if (decide (0 < r.un) && decide (r.un ≤ day)) = true then r.th else r.lv
/-- Whether somebody may read; has: whether the group of the rights is among theirs. -/
def mayF (r : Rg) (day : Int) (staff has : Bool) : Bool :=
  if rgE r = 0 then (if lvF r day = 1 then true else if lvF r day = 2 then (staff || has) else if lvF r day = 3 then staff else false) else false
def opnF (r : Rg) : Int × Bool :=
  if r.lv = 1 then (0, r.un == 0 || r.th == 1) else if r.th = 1 then (r.un, true) else (0, false)
def opnR (r : Rg) : Int × Bool :=
  if (r.lv == 1 && (r.un == 0 || r.th == 1)) = true then (0, true) else if (r.lv != 1 && r.th == 1) = true then (r.un, true) else (0, false)
theorem opn_eq (r : Rg) : opnF r = opnR r := by
  unfold opnF opnR
  by_cases h1 : r.lv = 1 <;> by_cases h2 : r.un = 0 <;> by_cases h3 : r.th = 1 <;> simp [h1, h2, h3]
end Go.Proofs.Ytgijjgnacgpdfaa
