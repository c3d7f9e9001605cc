/- A map with integer keys that the call itself made, said as a function from numbers to values; whatever the element type. No program. -/
import Derived.Test.YtbcapljiangjcaaMem
import Derived.Maps.OwnOps
import Derived.Maps.Views
namespace Go.Proofs.Ytbcapljiangjcaa
open Go.RowKit Go.Maps

def heldR (v : Value) : Option (DataW Value × List MemPlace) := some (.held v, [])

/-- Block b is a map of at most n entries; at the number x it holds f x (the zero value z where it has no entry). -/
def MapI (P : Program) (k : TypeId) (w : World) (b n : Nat) (z : Value) (f : Int → Value) : Prop :=
  ∃ D : DataW Value, w.ownsMap P k heldR b n D ∧ IsMap D ∧ ∀ x, (Lit.int .i64 x).wf = true → D.atKey (.int .i64 x) (.held z) = .held (f x)

section
variable {P : Program} {k : TypeId} {w : World} {b n : Nat} {z : Value} {f : Int → Value}

theorem MapI.made (P : Program) (k : TypeId) (w : World) (z : Value) : MapI P k (w.alloc (.map #[] 0)) w.heap.size 0 z (fun _ => z) :=
  ⟨.map [], World.ownsMap_made _ _ _ _, isMap_empty, fun _ _ => rfl⟩
theorem MapI.kept {w' : World} {row : Option Nat} (h : MapI P k w b n z f) (hg : w.grownBy w' row) (hne : some b ≠ row) : MapI P k w' b n z f := by
  obtain ⟨D, h1, h2, h3⟩ := h; exact ⟨D, h1.kept hg hne, h2, h3⟩
theorem MapI.alloc (h : MapI P k w b n z f) (o : Obj) : MapI P k (w.alloc o) b n z f := by
  obtain ⟨D, h1, h2, h3⟩ := h; exact ⟨D, h1.alloc o, h2, h3⟩
theorem MapI.drewN (h : MapI P k w b n z f) (m : Nat) : MapI P k (w.drewN m) b n z f := h
theorem MapI.setCell (h : MapI P k w b n z f) {p : Addr} (hp : b ≠ p.block) (u : Value) : MapI P k (w.setCell p u) b n z f := by
  obtain ⟨D, ⟨es, cl, hb, h1⟩, h2, h3⟩ := h; exact ⟨D, ⟨es, cl, (Below.heap_setCell w p u b hp).trans hb, h1⟩, h2, h3⟩
theorem MapI.below {B : Nat} {w' : World} (h : MapI P k w b n z f) (hb : Below B w w') (hB : b < B) : MapI P k w' b n z f := by
  obtain ⟨D, ⟨es, cl, hh, h1⟩, h2, h3⟩ := h; exact ⟨D, ⟨es, cl, (hb.block b hB).trans hh, h1⟩, h2, h3⟩
theorem MapI.lt (h : MapI P k w b n z f) : b < w.heap.size := by
  obtain ⟨D, h1, _, _⟩ := h; exact h1.lt
theorem MapI.mono (h : MapI P k w b n z f) {m : Nat} (hm : n ≤ m) : MapI P k w b m z f := by
  obtain ⟨D, h1, h2, h3⟩ := h; exact ⟨D, h1.mono hm, h2, h3⟩
theorem MapI.congr (h : MapI P k w b n z f) {g : Int → Value} (hg : ∀ x, (Lit.int .i64 x).wf = true → g x = f x) : MapI P k w b n z g := by
  obtain ⟨D, h1, h2, h3⟩ := h; exact ⟨D, h1, h2, fun x hx => by rw [h3 x hx, hg x hx]⟩

theorem isKey_int (x : Int) : WideAt.IsKeyLit (.int .i64 x) := trivial

theorem MapI.lookup {t e : TypeId} (h : MapI P k w b n z f) (hk : P.underlying k = some (.int .i64)) (ht : P.underlying t = some (.map k e)) (hz : (zeroValue e).run P w = .ok z w)
    {x : Int} (hx : (Lit.int .i64 x).wf = true) : (Instr.lookup t (.map (some b)) (.int .i64 x) false).run P w = .ok (f x) w := by
  obtain ⟨D, h1, h2, h3⟩ := h
  obtain ⟨v, ps, hr, hv⟩ := h1.lookup (int_keyed hk) ht hz (zd := .held z) (zp := []) rfl (keyOf_int_mk hk hx)
  rw [h3 x hx] at hv
  have : v = f x := by
    simp only [heldR, Option.some.injEq, Prod.mk.injEq] at hv
    injection hv.1
  rw [hr, this]

theorem MapI.update {t e : TypeId} (h : MapI P k w b n z f) (hk : P.underlying k = some (.int .i64)) (ht : P.underlying t = some (.map k e)) (hn : n < maxLen) {x : Int} (hx : (Lit.int .i64 x).wf = true) (v : Value) :
    ∃ w', (Instr.mapUpdate t (.map (some b)) (.int .i64 x) v).run P w = .ok () w' ∧ MapI P k w' b (n + 1) z (fun y => if y = x then v else f y) ∧ w.grownBy w' (some b) := by
  obtain ⟨D, h1, h2, h3⟩ := h
  obtain ⟨w', hr, h4, h5⟩ := h1.update (int_keyed hk) ht hn (keyOf_int_mk hk hx) (val := v) (d := .held v) (ps := []) rfl
  refine ⟨w', hr, ⟨_, h4, h2.put _ _, fun y hy => ?_⟩, h5⟩
  by_cases e : y = x
  · subst e
    rw [atKey_put_same h2 (isKey_int _)]; simp
  · rw [atKey_put_other (by intro h; injection h with _ h; exact e h), h3 y hy]; simp [e]
end

theorem wpList_lookupI {P : Program} (w : World) {ops : Array Oper} {rest : List Oper} {o : Oper} {a : Act} {Q : Exit → Act → World → Prop}
    (hg : o.guard = none) (m x : Operand) (t : TypeId) (hop : o.op = Op.lookup t m x false)
    (k e : TypeId) (hk : P.underlying k = some (.int .i64)) (ht : P.underlying t = some (.map k e)) (z : Value) (hz : (zeroValue e).run P w = .ok z w) (b n : Nat) (f : Int → Value)
    (hm : a.eval m = .map (some b)) (hown : MapI P k w b n z f) (key : Int) (hx : a.eval x = .int .i64 key) (hkey : (Lit.int .i64 key).wf = true)
    (hK : wpList P ops Q rest (a.put o.dst (f key)) w) :
    wpList P ops Q (o :: rest) a w := by
  refine wpList_plain hg fun K' hK' => ?_
  have hrun := hown.lookup hk ht hz hkey
  unfold Oper.wp
  simp [execOp, hop, hm, hx, hrun, Result.andThen]
  exact hK' _ _ hK

theorem wpList_updateI {P : Program} (w : World) {ops : Array Oper} {rest : List Oper} {o : Oper} {a : Act} {Q : Exit → Act → World → Prop}
    (hg : o.guard = none) (m x v : Operand) (t : TypeId) (hop : o.op = Op.mapUpdate t m x v)
    (k e : TypeId) (hk : P.underlying k = some (.int .i64)) (ht : P.underlying t = some (.map k e)) (z : Value) (b n : Nat) (f : Int → Value)
    (hm : a.eval m = .map (some b)) (hown : MapI P k w b n z f) (hn : n < maxLen) (key : Int) (val : Value) (hx : a.eval x = .int .i64 key) (hv : a.eval v = val) (hkey : (Lit.int .i64 key).wf = true)
    (hK : ∀ w', MapI P k w' b (n + 1) z (fun y => if y = key then val else f y) → w.grownBy w' (some b) → wpList P ops Q rest (a.put o.dst undef) w') :
    wpList P ops Q (o :: rest) a w := by
  refine wpList_plain hg fun K' hK' => ?_
  obtain ⟨w', hrun, r1, r2⟩ := hown.update hk ht hn hkey val
  unfold Oper.wp
  simp [execOp, hop, hm, hx, hv, hrun, Result.andThen]
  exact hK' _ _ (hK w' r1 r2)
end Go.Proofs.Ytbcapljiangjcaa
