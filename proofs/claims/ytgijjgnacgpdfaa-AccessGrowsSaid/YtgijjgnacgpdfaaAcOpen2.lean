/- Arguments opened: a slice of ints, a Reader. -/
import Derived.Test.YtgijjgnacgpdfaaAcOpen
import Derived.Test.YtgijjgnacgpdfaaAcB
namespace Go.Proofs.Ytgijjgnacgpdfaa
open Go.RowKit Go.ChangeShapes Go.WideShapes Go.Deep

section
variable {H : Type} {enc : TypeId × Value → H} {w : World} {base : Nat} {spare : Nat → Bool} {held : Bool}

theorem open_ints {fuel : Nat} {cs : List Value} {x : DataW H × List MemPlace}
    (h : DataW.trod enc Try.prog w base spare held fuel 34 cs = some x) :
    ∃ (A : Option Addr) (n c : Nat) (xs : List Int), cs = [.slice A n c] ∧ (n ≤ 140737488355328 → Is w w.heap.size A n c xs) ∧ (∀ x ∈ xs, I64 x) ∧ ((∃ el sp, x.1 = .slice el sp ∧ el.length = n) ∨ n = 0) := by
  have hC : Try.prog.cellsOf 3 = 1 := by kernel_rfl
  rcases open_slice Try.underlying34 h with ⟨hcs, _⟩ | ⟨a, len, cap, m, n, D, Pl, hcs, hb, hl, hm, hmm, hx, hi⟩
  · exact ⟨none, 0, 0, [], hcs, fun _ => Sl.none_, by simp, .inr rfl⟩
  · have hlm : len ≤ m := by rw [hmm]; split <;> omega
    rw [hC] at hi
    have hrow : ∀ i, i < len → ∃ z : Int, w.cell? (a.add i) = some (.int .i64 z) ∧ I64 z := by
      intro i hil
      obtain ⟨cs', hc, ht'⟩ := hi i (by omega)
      obtain ⟨_, hlen, hcell⟩ := World.cells?_some hc
      have h1 := hcell 0 (by omega)
      match cs', hlen, ht', h1 with
      | [u], _, ht', h1 =>
        obtain ⟨z, rfl, hz⟩ := I64v_of Try.underlying3 ht'
        refine ⟨z, ?_, hz⟩
        rw [add_of_add, Nat.add_zero, Nat.mul_one] at h1
        simpa using h1
    obtain ⟨V, hV⟩ : ∃ V : Nat → Int, ∀ i, i < len → w.cell? (a.add i) = some (.int .i64 (V i)) ∧ I64 (V i) := by
      refine ⟨fun i => if h : i < len then Classical.choose (hrow i h) else 0, fun i hil => ?_⟩
      simp only [hil, dif_pos]
      exact Classical.choose_spec (hrow i hil)
    refine ⟨some a, len, cap, (List.range len).map V, hcs, fun hbig => ⟨by simp, hl, hbig, (by intro e; cases e), fun hlen => ?_⟩, ?_, .inl ⟨_, _, by rw [hx], by simp⟩⟩
    · obtain ⟨b, o, spot⟩ := a
      have h0 := (hV 0 hlen).1
      have hspot : spot = none := by simpa [Addr.add] using World.cell?_spot h0
      subst hspot
      refine ⟨b, o, rfl, ?_, fun i x hx j u hu => ?_⟩
      · have := World.block_lt_of_cell? w _ h0
        simpa [Addr.add_lit] using this
      · have hil : i < len := by have := (List.getElem?_eq_some_iff.1 hx).1; simpa using this
        have hxx : x = V i := by
          rw [List.getElem?_map, List.getElem?_range hil] at hx
          exact (Option.some.inj hx).symm
        subst hxx
        have hj : j < 1 := by have := (List.getElem?_eq_some_iff.1 hu).1; simpa [inE] using this
        obtain rfl : j = 0 := by omega
        have := (hV i hil).1
        rw [Addr.add_lit] at this
        simp [inE] at hu
        subst hu
        simpa using this
    · intro x hx
      obtain ⟨i, hi', rfl⟩ := List.mem_map.1 hx
      exact (hV i (by simpa using hi')).2

def Boolv (v : Value) : Prop := ∃ b : Bool, v = .bool b
theorem Boolv_of {t : TypeId} (ht : Try.prog.underlying t = some .bool) {n : Nat} {v : Value} {y : DataW H × List MemPlace}
    (h : DataW.trod enc Try.prog w base spare held n t [v] = some y) : Boolv v := by
  obtain ⟨a, hv, _⟩ := DataW.trod_bool ht h
  simp only [List.cons.injEq, and_true] at hv
  exact ⟨a, hv⟩

theorem rd_struct : Try.prog.underlying 33 = some (.struct (Try.prog.fieldsOf 33)) := by kernel_rfl
theorem rd_fields_size : (Try.prog.fieldsOf 33).size = 2 := by kernel_rfl
theorem rd_types : (Try.prog.fieldsOf 33).map (·.type) = #[3, 4] := by kernel_rfl
theorem rd_fields_type (j : Nat) (f : Field) (h : (Try.prog.fieldsOf 33)[j]? = some f) : #[3, 4][j]? = some f.type := by
  rw [← rd_types, Array.getElem?_map, h]; rfl

theorem open_reader {r : Reach} {b0 : Nat} {v : Value} {d : DataW H} {p : List MemPlace}
    (hv : Value.okWide Try.prog w r b0 33 v) (h : DataW.Trod enc Try.prog w base spare held 33 v d p) :
    ∃ (a : Int) (b : Bool), v = .agg #[.int .i64 a, .bool b] := by
  obtain ⟨cs, rfl, hl, hR⟩ := open_agg rd_struct (hone_of (by kernel_rfl)) (by kernel_rfl) (fun j v => (j = 0 → I64v v) ∧ (j = 1 → Boolv v))
    (fun j f n v y hf hy => by
      have ht := rd_fields_type j f hf
      refine ⟨fun e => ?_, fun e => ?_⟩
      · subst e; simp at ht; rw [← ht] at hy; exact I64v_of Try.underlying3 hy
      · subst e; simp at ht; rw [← ht] at hy; exact Boolv_of Try.underlying4 hy) hv h
  rw [rd_fields_size] at hl hR
  match cs, hl, hR with
  | [c0, c1], _, hR =>
    obtain ⟨a0, h0, w0⟩ := (hR 0 (by omega)).1 rfl
    obtain ⟨a1, h1⟩ := (hR 1 (by omega)).2 rfl
    simp at h0 h1
    exact ⟨a0, a1, by rw [h0, h1]⟩
end
end Go.Proofs.Ytgijjgnacgpdfaa
