/- Arguments of the type library/api.Loan, and slices of them, opened. Printed by gen_kit.py. -/
import Derived.Test.YtelkidhgbjhboaaLoKit
import Derived.Test.YtelkidhgbjhboaaOpen2
namespace Go.Proofs.Ytelkidhgbjhboaa
open Go.RowKit Go.ChangeShapes Go.WideShapes Go.Deep

theorem lo_fields_size : (Try.prog.fieldsOf 28).size = 6 := by kernel_rfl
theorem lo_types : (Try.prog.fieldsOf 28).map (·.type) = #[3, 3, 3, 3, 3, 4] := by kernel_rfl
theorem lo_fields_type (j : Nat) (f : Field) (h : (Try.prog.fieldsOf 28)[j]? = some f) : #[3, 3, 3, 3, 3, 4][j]? = some f.type := by
  rw [← lo_types, Array.getElem?_map, h]; rfl
/-- What a field's cell is like. -/
def loR (j : Nat) (v : Value) : Prop := (j = 0 → I64v v) ∧ (j = 1 → I64v v) ∧ (j = 2 → I64v v) ∧ (j = 3 → I64v v) ∧ (j = 4 → I64v v) ∧ (j = 5 → Boolv v)
section
variable {H : Type} {enc : TypeId × Value → H} {w : World} {base : Nat} {spare : Nat → Bool} {held : Bool}
theorem loR_of (j : Nat) (f : Field) (n : Nat) (v : Value) (y : DataW H × List MemPlace) (hf : (Try.prog.fieldsOf 28)[j]? = some f) (hy : DataW.trod enc Try.prog w base spare held n f.type [v] = some y) : loR j v := by
  have ht := lo_fields_type j f hf
  refine ⟨fun e => ?_, fun e => ?_, fun e => ?_, fun e => ?_, fun e => ?_, fun e => ?_⟩
  · subst e; simp at ht; rw [← ht] at hy; exact I64v_of Try.underlying3 hy
  · subst e; simp at ht; rw [← ht] at hy; exact I64v_of Try.underlying3 hy
  · subst e; simp at ht; rw [← ht] at hy; exact I64v_of Try.underlying3 hy
  · subst e; simp at ht; rw [← ht] at hy; exact I64v_of Try.underlying3 hy
  · subst e; simp at ht; rw [← ht] at hy; exact I64v_of Try.underlying3 hy
  · subst e; simp at ht; rw [← ht] at hy; exact Boolv_of Try.underlying4 hy
theorem open_lo {r : Reach} {b0 : Nat} {v : Value} {d : DataW H} {p : List MemPlace}
    (hv : Value.okWide Try.prog w r b0 28 v) (h : DataW.Trod enc Try.prog w base spare held 28 v d p) :
    ∃ x : Lo, v = loV x ∧ LoW x := by
  obtain ⟨cs, rfl, hl, hR⟩ := open_agg lo_struct (hone_of (by kernel_rfl)) (by kernel_rfl) loR loR_of hv h
  rw [lo_fields_size] at hl hR
  match cs, hl, hR with
  | [c0, c1, c2, c3, c4, c5], _, hR =>
    obtain ⟨a0, h0, w0⟩ := (hR 0 (by omega)).1 rfl
    obtain ⟨a1, h1, w1⟩ := (hR 1 (by omega)).2.1 rfl
    obtain ⟨a2, h2, w2⟩ := (hR 2 (by omega)).2.2.1 rfl
    obtain ⟨a3, h3, w3⟩ := (hR 3 (by omega)).2.2.2.1 rfl
    obtain ⟨a4, h4, w4⟩ := (hR 4 (by omega)).2.2.2.2.1 rfl
    obtain ⟨a5, h5⟩ := (hR 5 (by omega)).2.2.2.2.2 rfl
    simp at h0 h1 h2 h3 h4 h5
    exact ⟨⟨a0, a1, a2, a3, a4, a5⟩, by rw [h0, h1, h2, h3, h4, h5]; rfl, ⟨w0, w1, w2, w3, w4⟩⟩
theorem open_los {fuel : Nat} {cs : List Value} {x : DataW H × List MemPlace}
    (h : DataW.trod enc Try.prog w base spare held fuel 22 cs = some x) (hsz : ∀ el sp, x.1 = .slice el sp → (el.length + sp.length) * Try.prog.bytesOf 28 ≤ reachBytes) :
    ∃ (A : Option Addr) (n c : Nat) (xs : List Lo), cs = [.slice A n c] ∧ Los w w.heap.size A n c xs ∧ ∀ x ∈ xs, LoW x := by
  rcases open_rows Try.underlying22 lo_struct (hone_of (by kernel_rfl)) (by kernel_rfl) (by rw [lo_fields_size]; omega) loR loR_of h with hcs | ⟨A, len, cap, V, el, sp, hcs, hl, hx, hel, hc⟩
  · exact ⟨none, 0, 0, [], hcs, Sl.none_, by simp⟩
  · rw [lo_fields_size] at hc
    have hb := hsz el sp hx
    have hby : Try.prog.bytesOf 28 = 48 := by kernel_rfl
    rw [hby] at hb
    unfold reachBytes at hb
    let g : Nat → Lo := fun i => ⟨intOf (V i 0), intOf (V i 1), intOf (V i 2), intOf (V i 3), intOf (V i 4), boolIs (V i 5)⟩
    have hI : ∀ i, i < len → (V i 0 = .int .i64 (g i).item ∧ I64 (g i).item) ∧ (V i 1 = .int .i64 (g i).patron ∧ I64 (g i).patron) ∧ (V i 2 = .int .i64 (g i).out ∧ I64 (g i).out) ∧ (V i 3 = .int .i64 (g i).due ∧ I64 (g i).due) ∧ (V i 4 = .int .i64 (g i).ren ∧ I64 (g i).ren) ∧ V i 5 = .bool (g i).rcl := by
      intro i hi
      obtain ⟨b, o, _, _, hcc⟩ := hc (by omega)
      refine ⟨?_, ?_, ?_, ?_, ?_, ?_⟩
      · obtain ⟨n, hn, h1, h2⟩ := (hcc i hi 0 (by omega)).2.1 rfl
        simp only [g]; rw [hn]; exact ⟨rfl, h1, h2⟩
      · obtain ⟨n, hn, h1, h2⟩ := (hcc i hi 1 (by omega)).2.2.1 rfl
        simp only [g]; rw [hn]; exact ⟨rfl, h1, h2⟩
      · obtain ⟨n, hn, h1, h2⟩ := (hcc i hi 2 (by omega)).2.2.2.1 rfl
        simp only [g]; rw [hn]; exact ⟨rfl, h1, h2⟩
      · obtain ⟨n, hn, h1, h2⟩ := (hcc i hi 3 (by omega)).2.2.2.2.1 rfl
        simp only [g]; rw [hn]; exact ⟨rfl, h1, h2⟩
      · obtain ⟨n, hn, h1, h2⟩ := (hcc i hi 4 (by omega)).2.2.2.2.2.1 rfl
        simp only [g]; rw [hn]; exact ⟨rfl, h1, h2⟩
      · obtain ⟨n, hn⟩ := (hcc i hi 5 (by omega)).2.2.2.2.2.2 rfl
        simp only [g]; rw [hn]; rfl
    refine ⟨some A, len, cap, (List.range len).map g, hcs, ⟨by simp, hl, by omega, (by intro e; cases e), fun hlen => ?_⟩, ?_⟩
    · obtain ⟨b, o, rfl, hbl, hcc⟩ := hc hlen
      refine ⟨b, o, rfl, hbl, fun i x hx j u hu => ?_⟩
      have hi : i < len := by have := (List.getElem?_eq_some_iff.1 hx).1; simpa using this
      have hxx : x = g i := by
        rw [List.getElem?_map, List.getElem?_range hi] at hx
        exact (Option.some.inj hx).symm
      subst hxx
      have hj : j < 6 := by have := (List.getElem?_eq_some_iff.1 hu).1; simpa [loE] using this
      rw [(hcc i hi j hj).1, ← hu]
      obtain ⟨q0, q1, q2, q3, q4, q5⟩ := hI i hi
      match j, hj with
      | 0, _ => rw [q0.1]; rfl
      | 1, _ => rw [q1.1]; rfl
      | 2, _ => rw [q2.1]; rfl
      | 3, _ => rw [q3.1]; rfl
      | 4, _ => rw [q4.1]; rfl
      | 5, _ => rw [q5]; rfl
    · intro x hx
      obtain ⟨i, hi, rfl⟩ := List.mem_map.1 hx
      have hi' : i < len := by simpa using hi
      obtain ⟨q0, q1, q2, q3, q4, q5⟩ := hI i hi'
      exact ⟨q0.2, q1.2, q2.2, q3.2, q4.2⟩
end
end Go.Proofs.Ytelkidhgbjhboaa
