/- Funds in the words of the struct kits: what gen_ins.py asks. -/
import Derived.Test.YtbcapljiangjcaaFuS
import Derived.Test.YtbcapljiangjcaaRow
import Derived.Test.YtbcapljiangjcaaStep
namespace Go.Proofs.Ytbcapljiangjcaa
open Go.RowKit

abbrev fuC (x : Fu) : Array Value := #[.int .i64 x.id, .int .i64 x.parent, .int .i64 x.budget, .int .i64 x.enc, .int .i64 x.spent]
abbrev Fus (w : World) (B : Nat) (A : Option Addr) (n c : Nat) (xs : List Fu) : Prop := Fs w B A n c xs
theorem fu_box {w w' : World} {g : Nat} {x : Fu} (h : Box w g 26 (fuC x)) (hb : Below (g + 1) w w') : Box w' g 26 (fuC x) ∧
    (w'.cell? ⟨g, 0, none⟩ = some (.int .i64 x.id) ∧ w'.cell? ⟨g, 1, none⟩ = some (.int .i64 x.parent) ∧ w'.cell? ⟨g, 2, none⟩ = some (.int .i64 x.budget) ∧ w'.cell? ⟨g, 3, none⟩ = some (.int .i64 x.enc) ∧ w'.cell? ⟨g, 4, none⟩ = some (.int .i64 x.spent)) :=
  have h' := h.below hb (by omega)
  ⟨h', h'.cell 0, h'.cell 1, h'.cell 2, h'.cell 3, h'.cell 4⟩
theorem take_stepF {α : Type} {xs : List α} {k : Nat} {x : α} (h : xs[k]? = some x) : xs.take (k + 1) = xs.take k ++ [x] := by
  obtain ⟨hk, rfl⟩ := List.getElem?_eq_some_iff.1 h
  rw [List.take_succ_eq_append_getElem hk]
end Go.Proofs.Ytbcapljiangjcaa
