/- An argument that is a slice of structs of one-cell fields, opened to its cells. No program. -/
import Derived.Test.YtgjhjabnnhhkbaaMem
import Derived.ProofKit
import Derived.Deep.Slices
import Derived.Deep.Fields
import Derived.SizedLaws
import Derived.OpenShut
namespace Go.Proofs.Ytgjhjabnnhhkbaa
open Go.RowKit Go.ChangeShapes Go.WideShapes Go.Deep

theorem add_of_add (a : Addr) (i j : Nat) : (a.add i).add j = a.add (i + j) := by
  unfold Addr.add
  by_cases hi : i = 0 <;> by_cases hj : j = 0 <;> simp [hi, hj, Nat.add_assoc]

section
variable {H : Type} {enc : TypeId × Value → H} {P : Program} {w : World} {base : Nat} {spare : Nat → Bool} {held : Bool}

theorem open_rows {t e : TypeId} {fs : Array Field} {fuel : Nat} {cs : List Value} {x : DataW H × List MemPlace} (ht : P.underlying t = some (.slice e)) (he : P.underlying e = some (.struct fs))
    (hone : ∀ (i : Nat) (f : Field), fs[i]? = some f → f.offset = i ∧ P.cellsOf f.type = 1) (hC : P.cellsOf e = fs.size) (hpos : 0 < fs.size)
    (R : Nat → Value → Prop) (hR : ∀ (j : Nat) (f : Field) (n : Nat) (v : Value) (y : DataW H × List MemPlace), fs[j]? = some f → DataW.trod enc P w base spare held n f.type [v] = some y → R j v)
    (h : DataW.trod enc P w base spare held fuel t cs = some x) :
    cs = [.slice none 0 0] ∨
    ∃ (A : Addr) (len cap : Nat) (V : Nat → Nat → Value) (el sp : List (DataW H)), cs = [.slice (some A) len cap] ∧ len ≤ cap ∧ x.1 = .slice el sp ∧ el.length = len ∧
      (0 < len → ∃ b o, A = ⟨b, o, none⟩ ∧ b < w.heap.size ∧ ∀ i, i < len → ∀ j, j < fs.size → w.cell? ⟨b, o + i * fs.size + j, none⟩ = some (V i j) ∧ R j (V i j)) := by
  rcases open_slice ht h with ⟨hcs, _⟩ | ⟨a, len, cap, m, n, D, Pl, hcs, hb, hl, hm, hmm, hx, hi⟩
  · exact .inl hcs
  · right
    have hlm : len ≤ m := by rw [hmm]; split <;> omega
    have hrow : ∀ i, i < len → ∃ cs' : List Value, cs'.length = fs.size ∧ (∀ j, j < fs.size → w.cell? (a.add (i * fs.size + j)) = some (cs'.getD j undef)) ∧ ∀ j, j < fs.size → R j (cs'.getD j undef) := by
      intro i hil
      obtain ⟨cs', hc, ht'⟩ := hi i (by omega)
      rw [hC] at hc
      obtain ⟨_, hlen, hcell⟩ := World.cells?_some hc
      obtain ⟨ys, n', _, _, _, hyl, hf⟩ := DataW.trod_struct he ht'
      refine ⟨cs', hlen, fun j hj => ?_, fun j hj => ?_⟩
      · have h1 := hcell j hj
        rw [add_of_add, List.getElem?_eq_getElem (by omega)] at h1
        rw [h1, List.getD_eq_getElem?_getD, List.getElem?_eq_getElem (by omega)]; rfl
      · have hfj : fs[j]? = some fs[j] := Array.getElem?_eq_getElem hj
        obtain ⟨ho, hk⟩ := hone j _ hfj
        have g := hf j _ hfj
        rw [ho, hk, take1_drop cs' j undef (by omega), List.getElem?_eq_getElem (by omega)] at g
        exact hR j _ n' _ _ hfj g
    obtain ⟨V, hV⟩ : ∃ V : Nat → Nat → Value, ∀ i, i < len → ∀ j, j < fs.size → w.cell? (a.add (i * fs.size + j)) = some (V i j) ∧ R j (V i j) := by
      refine ⟨fun i => if h : i < len then fun j => (Classical.choose (hrow i h)).getD j undef else fun _ => undef, fun i hil j hj => ?_⟩
      simp only [hil, dif_pos]
      have := Classical.choose_spec (hrow i hil)
      exact ⟨this.2.1 j hj, this.2.2 j hj⟩
    refine ⟨a, len, cap, V, _, _, hcs, hl, by rw [hx], by simp, fun hlen => ?_⟩
    obtain ⟨b, o, spot⟩ := a
    have h0 := (hV 0 hlen 0 hpos).1
    have hspot : spot = none := by simpa [Addr.add] using World.cell?_spot h0
    subst hspot
    refine ⟨b, o, rfl, ?_, fun i hil j hj => ?_⟩
    · have := World.block_lt_of_cell? w _ h0
      simpa [Addr.add_lit] using this
    · have := hV i hil j hj
      rw [Addr.add_lit] at this
      rwa [Nat.add_assoc]

/-- A struct of one-cell fields, by value. -/
theorem open_agg {r : Reach} {b0 : Nat} {t : TypeId} {fs : Array Field} {v : Value} {d : DataW H} {p : List MemPlace} (hs : P.underlying t = some (.struct fs))
    (hone : ∀ (i : Nat) (f : Field), fs[i]? = some f → f.offset = i ∧ P.cellsOf f.type = 1) (hC : P.cellsOf t = fs.size)
    (R : Nat → Value → Prop) (hR : ∀ (j : Nat) (f : Field) (n : Nat) (v : Value) (y : DataW H × List MemPlace), fs[j]? = some f → DataW.trod enc P w base spare held n f.type [v] = some y → R j v)
    (hv : Value.okWide P w r b0 t v) (h : DataW.Trod enc P w base spare held t v d p) : ∃ cs : List Value, v = .agg cs.toArray ∧ cs.length = fs.size ∧ ∀ j, j < fs.size → R j (cs.getD j undef) := by
  obtain ⟨cs, rfl, hsz⟩ := okWide_struct hs hv
  obtain ⟨l⟩ := cs
  obtain ⟨fuel, hf⟩ := h
  obtain ⟨ys, n', _, _, hlen, hyl, hg⟩ := DataW.trod_struct hs hf
  have hl : l.length = fs.size := by have := hsz; simp at this; omega
  refine ⟨l, rfl, hl, fun j hj => ?_⟩
  have hfj : fs[j]? = some fs[j] := Array.getElem?_eq_getElem hj
  obtain ⟨ho, hk⟩ := hone j _ hfj
  have g := hg j _ hfj
  have hcells : Value.cells (.agg ⟨l⟩) = ⟨l⟩ := rfl
  rw [hcells] at g
  rw [ho, hk, take1_drop l j undef (by omega), List.getElem?_eq_getElem (by omega)] at g
  exact hR j _ n' _ _ hfj g
end

def I64v (v : Value) : Prop := ∃ n : Int, v = .int .i64 n ∧ -9223372036854775808 ≤ n ∧ n ≤ 9223372036854775807
theorem I64v_of {H : Type} {enc : TypeId × Value → H} {P : Program} {w : World} {base : Nat} {spare : Nat → Bool} {held : Bool} {t : TypeId} (ht : P.underlying t = some (.int .i64)) {n : Nat} {v : Value} {y : DataW H × List MemPlace}
    (h : DataW.trod enc P w base spare held n t [v] = some y) : I64v v := by
  obtain ⟨a, hv, _, hw⟩ := DataW.trod_int ht h
  simp only [List.cons.injEq, and_true] at hv
  refine ⟨a, hv, ?_⟩
  have := bounds_i64 hw
  exact this
end Go.Proofs.Ytgjhjabnnhhkbaa
