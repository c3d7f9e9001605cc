/- Arguments of the type library/api.Share, and slices of them, opened. Printed by gen_kit.py. -/
import Derived.Test.YtdbanekjjibpbaaShKit
import Derived.Test.YtdbanekjjibpbaaOpen2
namespace Go.Proofs.Ytdbanekjjibpbaa
open Go.RowKit Go.ChangeShapes Go.WideShapes Go.Deep

theorem sh_fields_size : (Try.prog.fieldsOf 48).size = 2 := by kernel_rfl
theorem sh_types : (Try.prog.fieldsOf 48).map (·.type) = #[3, 3] := by kernel_rfl
theorem sh_fields_type (j : Nat) (f : Field) (h : (Try.prog.fieldsOf 48)[j]? = some f) : #[3, 3][j]? = some f.type := by
  rw [← sh_types, Array.getElem?_map, h]; rfl
/-- What a field's cell is like. -/
def shR (j : Nat) (v : Value) : Prop := (j = 0 → I64v v) ∧ (j = 1 → I64v v)
section
variable {H : Type} {enc : TypeId × Value → H} {w : World} {base : Nat} {spare : Nat → Bool} {held : Bool}
theorem shR_of (j : Nat) (f : Field) (n : Nat) (v : Value) (y : DataW H × List MemPlace) (hf : (Try.prog.fieldsOf 48)[j]? = some f) (hy : DataW.trod enc Try.prog w base spare held n f.type [v] = some y) : shR j v := by
  have ht := sh_fields_type j f hf
  refine ⟨fun e => ?_, fun e => ?_⟩
  · subst e; simp at ht; rw [← ht] at hy; exact I64v_of Try.underlying3 hy
  · subst e; simp at ht; rw [← ht] at hy; exact I64v_of Try.underlying3 hy
theorem open_sh {r : Reach} {b0 : Nat} {v : Value} {d : DataW H} {p : List MemPlace}
    (hv : Value.okWide Try.prog w r b0 48 v) (h : DataW.Trod enc Try.prog w base spare held 48 v d p) :
    ∃ x : Sh, v = shV x ∧ ShW x := by
  obtain ⟨cs, rfl, hl, hR⟩ := open_agg sh_struct (hone_of (by kernel_rfl)) (by kernel_rfl) shR shR_of hv h
  rw [sh_fields_size] at hl hR
  match cs, hl, hR with
  | [c0, c1], _, hR =>
    obtain ⟨a0, h0, w0⟩ := (hR 0 (by omega)).1 rfl
    obtain ⟨a1, h1, w1⟩ := (hR 1 (by omega)).2 rfl
    simp at h0 h1
    exact ⟨⟨a0, a1⟩, by rw [h0, h1]; rfl, ⟨w0, w1⟩⟩
theorem open_shs {fuel : Nat} {cs : List Value} {x : DataW H × List MemPlace}
    (h : DataW.trod enc Try.prog w base spare held fuel 35 cs = some x) (hsz : ∀ el sp, x.1 = .slice el sp → (el.length + sp.length) * Try.prog.bytesOf 48 ≤ reachBytes) :
    ∃ (A : Option Addr) (n c : Nat) (xs : List Sh), cs = [.slice A n c] ∧ Shs w w.heap.size A n c xs ∧ ∀ x ∈ xs, ShW x := by
  rcases open_rows Try.underlying35 sh_struct (hone_of (by kernel_rfl)) (by kernel_rfl) (by rw [sh_fields_size]; omega) shR shR_of h with hcs | ⟨A, len, cap, V, el, sp, hcs, hl, hx, hel, hc⟩
  · exact ⟨none, 0, 0, [], hcs, Sl.none_, by simp⟩
  · rw [sh_fields_size] at hc
    have hb := hsz el sp hx
    have hby : Try.prog.bytesOf 48 = 16 := by kernel_rfl
    rw [hby] at hb
    unfold reachBytes at hb
    let g : Nat → Sh := fun i => ⟨intOf (V i 0), intOf (V i 1)⟩
    have hI : ∀ i, i < len → (V i 0 = .int .i64 (g i).fund ∧ I64 (g i).fund) ∧ (V i 1 = .int .i64 (g i).weight ∧ I64 (g i).weight) := by
      intro i hi
      obtain ⟨b, o, _, _, hcc⟩ := hc (by omega)
      refine ⟨?_, ?_⟩
      · obtain ⟨n, hn, h1, h2⟩ := (hcc i hi 0 (by omega)).2.1 rfl
        simp only [g]; rw [hn]; exact ⟨rfl, h1, h2⟩
      · obtain ⟨n, hn, h1, h2⟩ := (hcc i hi 1 (by omega)).2.2 rfl
        simp only [g]; rw [hn]; exact ⟨rfl, h1, h2⟩
    refine ⟨some A, len, cap, (List.range len).map g, hcs, ⟨by simp, hl, by omega, (by intro e; cases e), fun hlen => ?_⟩, ?_⟩
    · obtain ⟨b, o, rfl, hbl, hcc⟩ := hc hlen
      refine ⟨b, o, rfl, hbl, fun i x hx j u hu => ?_⟩
      have hi : i < len := by have := (List.getElem?_eq_some_iff.1 hx).1; simpa using this
      have hxx : x = g i := by
        rw [List.getElem?_map, List.getElem?_range hi] at hx
        exact (Option.some.inj hx).symm
      subst hxx
      have hj : j < 2 := by have := (List.getElem?_eq_some_iff.1 hu).1; simpa [shE] using this
      rw [(hcc i hi j hj).1, ← hu]
      obtain ⟨q0, q1⟩ := hI i hi
      match j, hj with
      | 0, _ => rw [q0.1]; rfl
      | 1, _ => rw [q1.1]; rfl
    · intro x hx
      obtain ⟨i, hi, rfl⟩ := List.mem_map.1 hx
      have hi' : i < len := by simpa using hi
      obtain ⟨q0, q1⟩ := hI i hi'
      exact ⟨q0.2, q1.2⟩
end
end Go.Proofs.Ytdbanekjjibpbaa
