/- Arguments of the type library/api.Hold, and slices of them, opened. Printed by gen_kit.py. -/
import Derived.Test.YtgjhjabnnhhkbaaHoKit
import Derived.Test.YtgjhjabnnhhkbaaOpen2
namespace Go.Proofs.Ytgjhjabnnhhkbaa
open Go.RowKit Go.ChangeShapes Go.WideShapes Go.Deep

theorem ho_fields_size : (Try.prog.fieldsOf 47).size = 11 := by kernel_rfl
theorem ho_types : (Try.prog.fieldsOf 47).map (·.type) = #[3, 3, 3, 3, 3, 3, 3, 3, 3, 3, 3] := by kernel_rfl
theorem ho_fields_type (j : Nat) (f : Field) (h : (Try.prog.fieldsOf 47)[j]? = some f) : #[3, 3, 3, 3, 3, 3, 3, 3, 3, 3, 3][j]? = some f.type := by
  rw [← ho_types, Array.getElem?_map, h]; rfl
/-- What a field's cell is like. -/
def hoR (j : Nat) (v : Value) : Prop := (j = 0 → I64v v) ∧ (j = 1 → I64v v) ∧ (j = 2 → I64v v) ∧ (j = 3 → I64v v) ∧ (j = 4 → I64v v) ∧ (j = 5 → I64v v) ∧ (j = 6 → I64v v) ∧ (j = 7 → I64v v) ∧ (j = 8 → I64v v) ∧ (j = 9 → I64v v) ∧ (j = 10 → I64v v)
section
variable {H : Type} {enc : TypeId × Value → H} {w : World} {base : Nat} {spare : Nat → Bool} {held : Bool}
theorem hoR_of (j : Nat) (f : Field) (n : Nat) (v : Value) (y : DataW H × List MemPlace) (hf : (Try.prog.fieldsOf 47)[j]? = some f) (hy : DataW.trod enc Try.prog w base spare held n f.type [v] = some y) : hoR j v := by
  have ht := ho_fields_type j f hf
  refine ⟨fun e => ?_, fun e => ?_, fun e => ?_, fun e => ?_, fun e => ?_, fun e => ?_, fun e => ?_, fun e => ?_, fun e => ?_, fun e => ?_, fun e => ?_⟩
  · subst e; simp at ht; rw [← ht] at hy; exact I64v_of Try.underlying3 hy
  · subst e; simp at ht; rw [← ht] at hy; exact I64v_of Try.underlying3 hy
  · subst e; simp at ht; rw [← ht] at hy; exact I64v_of Try.underlying3 hy
  · subst e; simp at ht; rw [← ht] at hy; exact I64v_of Try.underlying3 hy
  · subst e; simp at ht; rw [← ht] at hy; exact I64v_of Try.underlying3 hy
  · subst e; simp at ht; rw [← ht] at hy; exact I64v_of Try.underlying3 hy
  · subst e; simp at ht; rw [← ht] at hy; exact I64v_of Try.underlying3 hy
  · subst e; simp at ht; rw [← ht] at hy; exact I64v_of Try.underlying3 hy
  · subst e; simp at ht; rw [← ht] at hy; exact I64v_of Try.underlying3 hy
  · subst e; simp at ht; rw [← ht] at hy; exact I64v_of Try.underlying3 hy
  · subst e; simp at ht; rw [← ht] at hy; exact I64v_of Try.underlying3 hy
theorem open_ho {r : Reach} {b0 : Nat} {v : Value} {d : DataW H} {p : List MemPlace}
    (hv : Value.okWide Try.prog w r b0 47 v) (h : DataW.Trod enc Try.prog w base spare held 47 v d p) :
    ∃ x : Ho, v = hoV x ∧ HoW x := by
  obtain ⟨cs, rfl, hl, hR⟩ := open_agg ho_struct (hone_of (by kernel_rfl)) (by kernel_rfl) hoR hoR_of hv h
  rw [ho_fields_size] at hl hR
  match cs, hl, hR with
  | [c0, c1, c2, c3, c4, c5, c6, c7, c8, c9, c10], _, hR =>
    obtain ⟨a0, h0, w0⟩ := (hR 0 (by omega)).1 rfl
    obtain ⟨a1, h1, w1⟩ := (hR 1 (by omega)).2.1 rfl
    obtain ⟨a2, h2, w2⟩ := (hR 2 (by omega)).2.2.1 rfl
    obtain ⟨a3, h3, w3⟩ := (hR 3 (by omega)).2.2.2.1 rfl
    obtain ⟨a4, h4, w4⟩ := (hR 4 (by omega)).2.2.2.2.1 rfl
    obtain ⟨a5, h5, w5⟩ := (hR 5 (by omega)).2.2.2.2.2.1 rfl
    obtain ⟨a6, h6, w6⟩ := (hR 6 (by omega)).2.2.2.2.2.2.1 rfl
    obtain ⟨a7, h7, w7⟩ := (hR 7 (by omega)).2.2.2.2.2.2.2.1 rfl
    obtain ⟨a8, h8, w8⟩ := (hR 8 (by omega)).2.2.2.2.2.2.2.2.1 rfl
    obtain ⟨a9, h9, w9⟩ := (hR 9 (by omega)).2.2.2.2.2.2.2.2.2.1 rfl
    obtain ⟨a10, h10, w10⟩ := (hR 10 (by omega)).2.2.2.2.2.2.2.2.2.2 rfl
    simp at h0 h1 h2 h3 h4 h5 h6 h7 h8 h9 h10
    exact ⟨⟨a0, a1, a2, a3, a4, a5, a6, a7, a8, a9, a10⟩, by rw [h0, h1, h2, h3, h4, h5, h6, h7, h8, h9, h10]; rfl, ⟨w0, w1, w2, w3, w4, w5, w6, w7, w8, w9, w10⟩⟩
theorem open_hos {fuel : Nat} {cs : List Value} {x : DataW H × List MemPlace}
    (h : DataW.trod enc Try.prog w base spare held fuel 22 cs = some x) (hsz : ∀ el sp, x.1 = .slice el sp → (el.length + sp.length) * Try.prog.bytesOf 47 ≤ reachBytes) :
    ∃ (A : Option Addr) (n c : Nat) (xs : List Ho), cs = [.slice A n c] ∧ Hos w w.heap.size A n c xs ∧ ∀ x ∈ xs, HoW x := by
  rcases open_rows Try.underlying22 ho_struct (hone_of (by kernel_rfl)) (by kernel_rfl) (by rw [ho_fields_size]; omega) hoR hoR_of h with hcs | ⟨A, len, cap, V, el, sp, hcs, hl, hx, hel, hc⟩
  · exact ⟨none, 0, 0, [], hcs, Sl.none_, by simp⟩
  · rw [ho_fields_size] at hc
    have hb := hsz el sp hx
    have hby : Try.prog.bytesOf 47 = 88 := by kernel_rfl
    rw [hby] at hb
    unfold reachBytes at hb
    let g : Nat → Ho := fun i => ⟨intOf (V i 0), intOf (V i 1), intOf (V i 2), intOf (V i 3), intOf (V i 4), intOf (V i 5), intOf (V i 6), intOf (V i 7), intOf (V i 8), intOf (V i 9), intOf (V i 10)⟩
    have hI : ∀ i, i < len → (V i 0 = .int .i64 (g i).id ∧ I64 (g i).id) ∧ (V i 1 = .int .i64 (g i).pat ∧ I64 (g i).pat) ∧ (V i 2 = .int .i64 (g i).rcd ∧ I64 (g i).rcd) ∧ (V i 3 = .int .i64 (g i).itm ∧ I64 (g i).itm) ∧ (V i 4 = .int .i64 (g i).pk ∧ I64 (g i).pk) ∧ (V i 5 = .int .i64 (g i).plc ∧ I64 (g i).plc) ∧ (V i 6 = .int .i64 (g i).st ∧ I64 (g i).st) ∧ (V i 7 = .int .i64 (g i).got ∧ I64 (g i).got) ∧ (V i 8 = .int .i64 (g i).unt ∧ I64 (g i).unt) ∧ (V i 9 = .int .i64 (g i).slp ∧ I64 (g i).slp) ∧ (V i 10 = .int .i64 (g i).rnk ∧ I64 (g i).rnk) := by
      intro i hi
      obtain ⟨b, o, _, _, hcc⟩ := hc (by omega)
      refine ⟨?_, ?_, ?_, ?_, ?_, ?_, ?_, ?_, ?_, ?_, ?_⟩
      · obtain ⟨n, hn, h1, h2⟩ := (hcc i hi 0 (by omega)).2.1 rfl
        simp only [g]; rw [hn]; exact ⟨rfl, h1, h2⟩
      · obtain ⟨n, hn, h1, h2⟩ := (hcc i hi 1 (by omega)).2.2.1 rfl
        simp only [g]; rw [hn]; exact ⟨rfl, h1, h2⟩
      · obtain ⟨n, hn, h1, h2⟩ := (hcc i hi 2 (by omega)).2.2.2.1 rfl
        simp only [g]; rw [hn]; exact ⟨rfl, h1, h2⟩
      · obtain ⟨n, hn, h1, h2⟩ := (hcc i hi 3 (by omega)).2.2.2.2.1 rfl
        simp only [g]; rw [hn]; exact ⟨rfl, h1, h2⟩
      · obtain ⟨n, hn, h1, h2⟩ := (hcc i hi 4 (by omega)).2.2.2.2.2.1 rfl
        simp only [g]; rw [hn]; exact ⟨rfl, h1, h2⟩
      · obtain ⟨n, hn, h1, h2⟩ := (hcc i hi 5 (by omega)).2.2.2.2.2.2.1 rfl
        simp only [g]; rw [hn]; exact ⟨rfl, h1, h2⟩
      · obtain ⟨n, hn, h1, h2⟩ := (hcc i hi 6 (by omega)).2.2.2.2.2.2.2.1 rfl
        simp only [g]; rw [hn]; exact ⟨rfl, h1, h2⟩
      · obtain ⟨n, hn, h1, h2⟩ := (hcc i hi 7 (by omega)).2.2.2.2.2.2.2.2.1 rfl
        simp only [g]; rw [hn]; exact ⟨rfl, h1, h2⟩
      · obtain ⟨n, hn, h1, h2⟩ := (hcc i hi 8 (by omega)).2.2.2.2.2.2.2.2.2.1 rfl
        simp only [g]; rw [hn]; exact ⟨rfl, h1, h2⟩
      · obtain ⟨n, hn, h1, h2⟩ := (hcc i hi 9 (by omega)).2.2.2.2.2.2.2.2.2.2.1 rfl
        simp only [g]; rw [hn]; exact ⟨rfl, h1, h2⟩
      · obtain ⟨n, hn, h1, h2⟩ := (hcc i hi 10 (by omega)).2.2.2.2.2.2.2.2.2.2.2 rfl
        simp only [g]; rw [hn]; exact ⟨rfl, h1, h2⟩
    refine ⟨some A, len, cap, (List.range len).map g, hcs, ⟨by simp, hl, by omega, (by intro e; cases e), fun hlen => ?_⟩, ?_⟩
    · obtain ⟨b, o, rfl, hbl, hcc⟩ := hc hlen
      refine ⟨b, o, rfl, hbl, fun i x hx j u hu => ?_⟩
      have hi : i < len := by have := (List.getElem?_eq_some_iff.1 hx).1; simpa using this
      have hxx : x = g i := by
        rw [List.getElem?_map, List.getElem?_range hi] at hx
        exact (Option.some.inj hx).symm
      subst hxx
      have hj : j < 11 := by have := (List.getElem?_eq_some_iff.1 hu).1; simpa [hoE] using this
      rw [(hcc i hi j hj).1, ← hu]
      obtain ⟨q0, q1, q2, q3, q4, q5, q6, q7, q8, q9, q10⟩ := hI i hi
      match j, hj with
      | 0, _ => rw [q0.1]; rfl
      | 1, _ => rw [q1.1]; rfl
      | 2, _ => rw [q2.1]; rfl
      | 3, _ => rw [q3.1]; rfl
      | 4, _ => rw [q4.1]; rfl
      | 5, _ => rw [q5.1]; rfl
      | 6, _ => rw [q6.1]; rfl
      | 7, _ => rw [q7.1]; rfl
      | 8, _ => rw [q8.1]; rfl
      | 9, _ => rw [q9.1]; rfl
      | 10, _ => rw [q10.1]; rfl
    · intro x hx
      obtain ⟨i, hi, rfl⟩ := List.mem_map.1 hx
      have hi' : i < len := by simpa using hi
      obtain ⟨q0, q1, q2, q3, q4, q5, q6, q7, q8, q9, q10⟩ := hI i hi'
      exact ⟨q0.2, q1.2, q2.2, q3.2, q4.2, q5.2, q6.2, q7.2, q8.2, q9.2, q10.2⟩
end
end Go.Proofs.Ytgjhjabnnhhkbaa
