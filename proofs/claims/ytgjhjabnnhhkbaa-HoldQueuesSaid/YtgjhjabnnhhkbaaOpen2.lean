/- A cell that is a bool, opened. No program. -/
import Derived.Test.YtgjhjabnnhhkbaaOpen
namespace Go.Proofs.Ytgjhjabnnhhkbaa
open Go.RowKit Go.ChangeShapes Go.WideShapes Go.Deep
def Boolv (v : Value) : Prop := ∃ b : Bool, v = .bool b
theorem Boolv_of {H : Type} {enc : TypeId × Value → H} {P : Program} {w : World} {base : Nat} {spare : Nat → Bool} {held : Bool} {t : TypeId} (ht : P.underlying t = some .bool) {n : Nat} {v : Value} {y : DataW H × List MemPlace}
    (h : DataW.trod enc P w base spare held n t [v] = some y) : Boolv v := by
  obtain ⟨a, hv, _⟩ := DataW.trod_bool ht h
  simp only [List.cons.injEq, and_true] at hv
  exact ⟨a, hv⟩
def boolIs : Value → Bool
  | .bool b => b
  | _ => false
end Go.Proofs.Ytgjhjabnnhhkbaa
