/- Texts laid together by merge.py: AqKo. -/
import Derived.Test.YtbhndfphegflhaaGreatMrg13
import Derived.Test.YtbhndfphegflhaaGreatMrg46
set_option linter.unusedSimpArgs false
set_option linter.unusedVariables false
/- A slice of operations (AcquireKeeps), opened. Printed by gen_aq_ko.py. -/
namespace Go.Proofs.YtbhndfphegflhaaGreat
open Go.RowKit Go.ChangeShapes Go.WideShapes Go.Deep

/-- What the operations of the law are like. -/
structure DdO (w : World) (A : Option Addr) (n c : Nat) (xs : List Dd) : Prop where
  s : n ≤ 10 → Dds w w.heap.size A n c xs
  b : n ≤ 10 → ∀ x ∈ xs, I64 x.b
  o : n ≤ 10 → ∀ x ∈ xs, x.od.shn ≤ 8 → OdS w w.heap.size x.od

section
variable {H : Type} {enc : TypeId × Value → H} {w : World} {base : Nat} {spare : Nat → Bool} {held : Bool}
theorem dd_struct : Tryz.prog.underlying 63 = some (.struct (Tryz.prog.fieldsOf 63)) := by kernel_rfl
theorem dd_trod (n : Nat) (cs : List Value) (y : DataW H × List MemPlace) (hl : cs.length = 18) (h : DataW.trod enc Tryz.prog w base spare held n 63 cs = some y) : ∃ a : Dd, cs = ddE a ∧ (I64 a.b ∧ (a.od.shn ≤ 8 → OdS w w.heap.size a.od)) := by
  match cs, hl, h with
  | [c0, c1, c2, c3, c4, c5, c6, c7, c8, c9, c10, c11, c12, c13, c14, c15, c16, c17], _, h =>
    obtain ⟨n0, y0, g0⟩ := field_of dd_struct h (j := 0) (o := 0) (ty := 3) (by kernel_rfl) one_int
    obtain ⟨a0, h0, w0⟩ := I64v_of Tryz.underlying3 (v := c0) g0
    obtain ⟨n1, y1, g1⟩ := field_of dd_struct h (j := 1) (o := 1) (ty := 3) (by kernel_rfl) one_int
    obtain ⟨a1, h1, w1⟩ := I64v_of Tryz.underlying3 (v := c1) g1
    obtain ⟨n2, y2, g2⟩ := field_of dd_struct h (j := 2) (o := 2) (ty := 3) (by kernel_rfl) one_int
    obtain ⟨a2, h2, w2⟩ := I64v_of Tryz.underlying3 (v := c2) g2
    obtain ⟨n3, y3, g3⟩ := field_of dd_struct h (j := 3) (o := 3) (ty := 35) (by kernel_rfl) (c := 10) (by kernel_rfl)
    obtain ⟨o, ho, hos⟩ := od_trod n3 [c3, c4, c5, c6, c7, c8, c9, c10, c11, c12] y3 rfl g3
    obtain ⟨n4, y4, g4⟩ := field_of dd_struct h (j := 4) (o := 13) (ty := 43) (by kernel_rfl) (c := 5) (by kernel_rfl)
    obtain ⟨b, hb, _⟩ := bl_trod n4 [c13, c14, c15, c16, c17] y4 rfl g4
    unfold odE at ho
    unfold blE at hb
    simp only [List.cons.injEq, and_true] at ho hb
    obtain ⟨e3, e4, e5, e6, e7, e8, e9, e10, e11, e12⟩ := ho
    obtain ⟨e13, e14, e15, e16, e17⟩ := hb
    subst h0 h1 h2 e3 e4 e5 e6 e7 e8 e9 e10 e11 e12 e13 e14 e15 e16 e17
    exact ⟨⟨a0, a1, a2, o, b⟩, rfl, w2, hos⟩
theorem open_dds {fuel : Nat} {cs : List Value} {x : DataW H × List MemPlace} (h : DataW.trod enc Tryz.prog w base spare held fuel 61 cs = some x) :
    ∃ (A : Option Addr) (n c : Nat) (xs : List Dd), cs = [.slice A n c] ∧ DdO w A n c xs := by
  obtain ⟨A, m, k, h1, q⟩ := open_sl ddE_len (by omega) Tryz.underlying61 (by kernel_rfl) dd_trod h
  obtain ⟨xs, hxs⟩ : ∃ xs : List Dd, m ≤ 140737488355328 → Dds w w.heap.size A m k xs ∧ ∀ x ∈ xs, (I64 x.b ∧ (x.od.shn ≤ 8 → OdS w w.heap.size x.od)) := by
    by_cases hm : m ≤ 140737488355328
    · obtain ⟨xs, hx⟩ := q hm; exact ⟨xs, fun _ => hx⟩
    · exact ⟨[], fun h => absurd h hm⟩
  exact ⟨A, m, k, xs, h1, fun h => (hxs (Nat.le_trans h (by omega))).1, fun h x hx => ((hxs (Nat.le_trans h (by omega))).2 x hx).1, fun h x hx => ((hxs (Nat.le_trans h (by omega))).2 x hx).2⟩
end
end Go.Proofs.YtbhndfphegflhaaGreat
