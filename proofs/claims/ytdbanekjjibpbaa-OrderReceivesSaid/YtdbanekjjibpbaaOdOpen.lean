/- Arguments of the types library/api.Order and library/api.Bill, and slices of orders, opened. Printed once by a program of the session. -/
import Derived.Test.YtdbanekjjibpbaaOdF
import Derived.Test.YtdbanekjjibpbaaShOpen
namespace Go.Proofs.Ytdbanekjjibpbaa
open Go.RowKit Go.ChangeShapes Go.WideShapes Go.Deep

def slA : Value → Option Addr
  | .slice A _ _ => A
  | _ => none
def slN : Value → Nat
  | .slice _ n _ => n
  | _ => 0
def slC : Value → Nat
  | .slice _ _ c => c
  | _ => 0
/-- A cell that is a slice of shares. -/
def ShsV (w : World) (v : Value) : Prop := ∃ A n c, v = .slice A n c ∧ (n ≤ 140737488355328 → ∃ xs, Shs w w.heap.size A n c xs)
open Classical in
noncomputable def shOf (w : World) (v : Value) : List Sh := if h : ∃ xs, Shs w w.heap.size (slA v) (slN v) (slC v) xs then Classical.choose h else []
theorem ShsV.sh {w : World} {v : Value} (h : ShsV w v) : v = .slice (slA v) (slN v) (slC v) ∧ (slN v ≤ 140737488355328 → Shs w w.heap.size (slA v) (slN v) (slC v) (shOf w v)) := by
  obtain ⟨A, n, c, rfl, hx⟩ := h
  refine ⟨rfl, fun hn => ?_⟩
  have hh : ∃ xs, Shs w w.heap.size (slA (.slice A n c)) (slN (.slice A n c)) (slC (.slice A n c)) xs := hx hn
  unfold shOf
  rw [dif_pos hh]
  exact Classical.choose_spec hh
section
variable {H : Type} {enc : TypeId × Value → H} {w : World} {base : Nat} {spare : Nat → Bool} {held : Bool}
theorem ShsV_of {fuel : Nat} {v : Value} {x : DataW H × List MemPlace} (h : DataW.trod enc Try.prog w base spare held fuel 35 [v] = some x) : ShsV w v := by
  rcases open_rows Try.underlying35 sh_struct (hone_of (by kernel_rfl)) (by kernel_rfl) (by rw [sh_fields_size]; omega) shR shR_of h with hcs | ⟨A, len, cap, V, el, sp, hcs, hl, hx, hel, hc⟩
  · simp only [List.cons.injEq, and_true] at hcs
    exact ⟨none, 0, 0, hcs, fun _ => ⟨[], Sl.none_⟩⟩
  · rw [sh_fields_size] at hc
    simp only [List.cons.injEq, and_true] at hcs
    refine ⟨some A, len, cap, hcs, fun hbig => ?_⟩
    let g : Nat → Sh := fun i => ⟨intOf (V i 0), intOf (V i 1)⟩
    have hI : ∀ i, i < len → V i 0 = .int .i64 (g i).fund ∧ V i 1 = .int .i64 (g i).weight := by
      intro i hi
      obtain ⟨b, o, _, _, hcc⟩ := hc (by omega)
      refine ⟨?_, ?_⟩
      · obtain ⟨n, hn, h1, h2⟩ := (hcc i hi 0 (by omega)).2.1 rfl
        simp only [g]; rw [hn]; rfl
      · obtain ⟨n, hn, h1, h2⟩ := (hcc i hi 1 (by omega)).2.2 rfl
        simp only [g]; rw [hn]; rfl
    refine ⟨(List.range len).map g, ⟨by simp, hl, hbig, (by intro e; cases e), fun hlen => ?_⟩⟩
    obtain ⟨b, o, rfl, hbl, hcc⟩ := hc hlen
    refine ⟨b, o, rfl, hbl, fun i x hx j u hu => ?_⟩
    have hi : i < len := by have := (List.getElem?_eq_some_iff.1 hx).1; simpa using this
    have hxx : x = g i := by
      rw [List.getElem?_map, List.getElem?_range hi] at hx
      exact (Option.some.inj hx).symm
    subst hxx
    have hj : j < 2 := by have := (List.getElem?_eq_some_iff.1 hu).1; simpa [shE] using this
    rw [(hcc i hi j hj).1, ← hu]
    obtain ⟨q0, q1⟩ := hI i hi
    match j, hj with
    | 0, _ => rw [q0]; rfl
    | 1, _ => rw [q1]; rfl
end
theorem od_fields_size : (Try.prog.fieldsOf 37).size = 10 := by kernel_rfl
theorem od_types : (Try.prog.fieldsOf 37).map (·.type) = #[3, 3, 3, 3, 3, 3, 3, 3, 3, 35] := by kernel_rfl
theorem od_fields_type (j : Nat) (f : Field) (h : (Try.prog.fieldsOf 37)[j]? = some f) : #[3, 3, 3, 3, 3, 3, 3, 3, 3, 35][j]? = some f.type := by
  rw [← od_types, Array.getElem?_map, h]; rfl
/-- What a field's cell is like. -/
def odR (w : World) (j : Nat) (v : Value) : Prop := (j = 0 → I64v v) ∧ (j = 1 → I64v v) ∧ (j = 2 → I64v v) ∧ (j = 3 → I64v v) ∧ (j = 4 → I64v v) ∧ (j = 5 → I64v v) ∧ (j = 6 → I64v v) ∧ (j = 7 → I64v v) ∧ (j = 8 → I64v v) ∧ (j = 9 → ShsV w v)
section
variable {H : Type} {enc : TypeId × Value → H} {w : World} {base : Nat} {spare : Nat → Bool} {held : Bool}
theorem odR_of (j : Nat) (f : Field) (n : Nat) (v : Value) (y : DataW H × List MemPlace) (hf : (Try.prog.fieldsOf 37)[j]? = some f) (hy : DataW.trod enc Try.prog w base spare held n f.type [v] = some y) : odR w j v := by
  have ht := od_fields_type j f hf
  refine ⟨fun e => ?_, fun e => ?_, fun e => ?_, fun e => ?_, fun e => ?_, fun e => ?_, fun e => ?_, fun e => ?_, fun e => ?_, fun e => ?_⟩
  · subst e; simp at ht; rw [← ht] at hy; exact I64v_of Try.underlying3 hy
  · subst e; simp at ht; rw [← ht] at hy; exact I64v_of Try.underlying3 hy
  · subst e; simp at ht; rw [← ht] at hy; exact I64v_of Try.underlying3 hy
  · subst e; simp at ht; rw [← ht] at hy; exact I64v_of Try.underlying3 hy
  · subst e; simp at ht; rw [← ht] at hy; exact I64v_of Try.underlying3 hy
  · subst e; simp at ht; rw [← ht] at hy; exact I64v_of Try.underlying3 hy
  · subst e; simp at ht; rw [← ht] at hy; exact I64v_of Try.underlying3 hy
  · subst e; simp at ht; rw [← ht] at hy; exact I64v_of Try.underlying3 hy
  · subst e; simp at ht; rw [← ht] at hy; exact I64v_of Try.underlying3 hy
  · subst e; simp at ht; rw [← ht] at hy; exact ShsV_of hy
theorem open_od {r : Reach} {b0 : Nat} {v : Value} {d : DataW H} {p : List MemPlace}
    (hv : Value.okWide Try.prog w r b0 37 v) (h : DataW.Trod enc Try.prog w base spare held 37 v d p) :
    ∃ x : Od, v = odV x ∧ (x.shn ≤ 8 → OdS w w.heap.size x) := by
  obtain ⟨cs, rfl, hl, hR⟩ := open_agg od_struct (hone_of (by kernel_rfl)) (by kernel_rfl) (odR w) odR_of hv h
  rw [od_fields_size] at hl hR
  match cs, hl, hR with
  | [c0, c1, c2, c3, c4, c5, c6, c7, c8, c9], _, hR =>
    obtain ⟨a0, h0, w0⟩ := (hR 0 (by omega)).1 rfl
    obtain ⟨a1, h1, w1⟩ := (hR 1 (by omega)).2.1 rfl
    obtain ⟨a2, h2, w2⟩ := (hR 2 (by omega)).2.2.1 rfl
    obtain ⟨a3, h3, w3⟩ := (hR 3 (by omega)).2.2.2.1 rfl
    obtain ⟨a4, h4, w4⟩ := (hR 4 (by omega)).2.2.2.2.1 rfl
    obtain ⟨a5, h5, w5⟩ := (hR 5 (by omega)).2.2.2.2.2.1 rfl
    obtain ⟨a6, h6, w6⟩ := (hR 6 (by omega)).2.2.2.2.2.2.1 rfl
    obtain ⟨a7, h7, w7⟩ := (hR 7 (by omega)).2.2.2.2.2.2.2.1 rfl
    obtain ⟨a8, h8, w8⟩ := (hR 8 (by omega)).2.2.2.2.2.2.2.2.1 rfl
    have hs := (hR 9 (by omega)).2.2.2.2.2.2.2.2.2 rfl
    simp at h0 h1 h2 h3 h4 h5 h6 h7 h8 hs
    obtain ⟨h9, hs9⟩ := hs.sh
    refine ⟨⟨a0, a1, a2, a3, a4, a5, a6, a7, a8, slA c9, slN c9, slC c9, shOf w c9⟩, ?_, fun hn => hs9 (by simp only at hn; omega)⟩
    rw [h0, h1, h2, h3, h4, h5, h6, h7, h8, h9]; rfl
theorem open_ods {fuel : Nat} {cs : List Value} {x : DataW H × List MemPlace}
    (h : DataW.trod enc Try.prog w base spare held fuel 22 cs = some x) (hsz : ∀ el sp, x.1 = .slice el sp → (el.length + sp.length) * Try.prog.bytesOf 37 ≤ reachBytes) :
    ∃ (A : Option Addr) (n c : Nat) (xs : List Od), cs = [.slice A n c] ∧ Ods w w.heap.size A n c xs ∧ ∀ x ∈ xs, x.shn ≤ 8 → OdS w w.heap.size x := by
  rcases open_rows Try.underlying22 od_struct (hone_of (by kernel_rfl)) (by kernel_rfl) (by rw [od_fields_size]; omega) (odR w) odR_of h with hcs | ⟨A, len, cap, V, el, sp, hcs, hl, hx, hel, hc⟩
  · exact ⟨none, 0, 0, [], hcs, Sl.none_, by simp⟩
  · rw [od_fields_size] at hc
    have hb := hsz el sp hx
    have hby : Try.prog.bytesOf 37 = 96 := by kernel_rfl
    rw [hby] at hb
    unfold reachBytes at hb
    let g : Nat → Od := fun i => ⟨intOf (V i 0), intOf (V i 1), intOf (V i 2), intOf (V i 3), intOf (V i 4), intOf (V i 5), intOf (V i 6), intOf (V i 7), intOf (V i 8), slA (V i 9), slN (V i 9), slC (V i 9), shOf w (V i 9)⟩
    have hI : ∀ i, i < len → V i 0 = .int .i64 (g i).id ∧ V i 1 = .int .i64 (g i).rcd ∧ V i 2 = .int .i64 (g i).ven ∧ V i 3 = .int .i64 (g i).cop ∧ V i 4 = .int .i64 (g i).pri ∧ V i 5 = .int .i64 (g i).rcv ∧ V i 6 = .int .i64 (g i).bil ∧ V i 7 = .int .i64 (g i).paid ∧ V i 8 = .int .i64 (g i).st ∧ (V i 9 = .slice (g i).shA (g i).shn (g i).shc ∧ ((g i).shn ≤ 8 → OdS w w.heap.size (g i))) := by
      intro i hi
      obtain ⟨b, o, _, _, hcc⟩ := hc (by omega)
      refine ⟨?_, ?_, ?_, ?_, ?_, ?_, ?_, ?_, ?_, ?_⟩
      · obtain ⟨n, hn, h1, h2⟩ := (hcc i hi 0 (by omega)).2.1 rfl
        simp only [g]; rw [hn]; rfl
      · obtain ⟨n, hn, h1, h2⟩ := (hcc i hi 1 (by omega)).2.2.1 rfl
        simp only [g]; rw [hn]; rfl
      · obtain ⟨n, hn, h1, h2⟩ := (hcc i hi 2 (by omega)).2.2.2.1 rfl
        simp only [g]; rw [hn]; rfl
      · obtain ⟨n, hn, h1, h2⟩ := (hcc i hi 3 (by omega)).2.2.2.2.1 rfl
        simp only [g]; rw [hn]; rfl
      · obtain ⟨n, hn, h1, h2⟩ := (hcc i hi 4 (by omega)).2.2.2.2.2.1 rfl
        simp only [g]; rw [hn]; rfl
      · obtain ⟨n, hn, h1, h2⟩ := (hcc i hi 5 (by omega)).2.2.2.2.2.2.1 rfl
        simp only [g]; rw [hn]; rfl
      · obtain ⟨n, hn, h1, h2⟩ := (hcc i hi 6 (by omega)).2.2.2.2.2.2.2.1 rfl
        simp only [g]; rw [hn]; rfl
      · obtain ⟨n, hn, h1, h2⟩ := (hcc i hi 7 (by omega)).2.2.2.2.2.2.2.2.1 rfl
        simp only [g]; rw [hn]; rfl
      · obtain ⟨n, hn, h1, h2⟩ := (hcc i hi 8 (by omega)).2.2.2.2.2.2.2.2.2.1 rfl
        simp only [g]; rw [hn]; rfl
      · obtain ⟨h9, hs9⟩ := ((hcc i hi 9 (by omega)).2.2.2.2.2.2.2.2.2.2 rfl).sh
        exact ⟨h9, fun hn => hs9 (Nat.le_trans hn (by omega))⟩
    refine ⟨some A, len, cap, (List.range len).map g, hcs, ⟨by simp, hl, by omega, (by intro e; cases e), fun hlen => ?_⟩, ?_⟩
    · obtain ⟨b, o, rfl, hbl, hcc⟩ := hc hlen
      refine ⟨b, o, rfl, hbl, fun i x hx j u hu => ?_⟩
      have hi : i < len := by have := (List.getElem?_eq_some_iff.1 hx).1; simpa using this
      have hxx : x = g i := by
        rw [List.getElem?_map, List.getElem?_range hi] at hx
        exact (Option.some.inj hx).symm
      subst hxx
      have hj : j < 10 := by have := (List.getElem?_eq_some_iff.1 hu).1; simpa [odE] using this
      rw [(hcc i hi j hj).1, ← hu]
      obtain ⟨q0, q1, q2, q3, q4, q5, q6, q7, q8, q9⟩ := hI i hi
      match j, hj with
      | 0, _ => rw [q0]; rfl
      | 1, _ => rw [q1]; rfl
      | 2, _ => rw [q2]; rfl
      | 3, _ => rw [q3]; rfl
      | 4, _ => rw [q4]; rfl
      | 5, _ => rw [q5]; rfl
      | 6, _ => rw [q6]; rfl
      | 7, _ => rw [q7]; rfl
      | 8, _ => rw [q8]; rfl
      | 9, _ => rw [q9.1]; rfl
    · intro x hx
      obtain ⟨i, hi, rfl⟩ := List.mem_map.1 hx
      have hi' : i < len := by simpa using hi
      exact (hI i hi').2.2.2.2.2.2.2.2.2.2
end
theorem bl_struct : Try.prog.underlying 32 = some (.struct (Try.prog.fieldsOf 32)) := by kernel_rfl
theorem bl_fields_size : (Try.prog.fieldsOf 32).size = 5 := by kernel_rfl
theorem bl_types : (Try.prog.fieldsOf 32).map (·.type) = #[3, 3, 3, 3, 3] := by kernel_rfl
theorem bl_fields_type (j : Nat) (f : Field) (h : (Try.prog.fieldsOf 32)[j]? = some f) : #[3, 3, 3, 3, 3][j]? = some f.type := by
  rw [← bl_types, Array.getElem?_map, h]; rfl
def blR (j : Nat) (v : Value) : Prop := (j = 0 → I64v v) ∧ (j = 1 → I64v v) ∧ (j = 2 → I64v v) ∧ (j = 3 → I64v v) ∧ (j = 4 → I64v v)
section
variable {H : Type} {enc : TypeId × Value → H} {w : World} {base : Nat} {spare : Nat → Bool} {held : Bool}
theorem blR_of (j : Nat) (f : Field) (n : Nat) (v : Value) (y : DataW H × List MemPlace) (hf : (Try.prog.fieldsOf 32)[j]? = some f) (hy : DataW.trod enc Try.prog w base spare held n f.type [v] = some y) : blR j v := by
  have ht := bl_fields_type j f hf
  refine ⟨fun e => ?_, fun e => ?_, fun e => ?_, fun e => ?_, fun e => ?_⟩
  · subst e; simp at ht; rw [← ht] at hy; exact I64v_of Try.underlying3 hy
  · subst e; simp at ht; rw [← ht] at hy; exact I64v_of Try.underlying3 hy
  · subst e; simp at ht; rw [← ht] at hy; exact I64v_of Try.underlying3 hy
  · subst e; simp at ht; rw [← ht] at hy; exact I64v_of Try.underlying3 hy
  · subst e; simp at ht; rw [← ht] at hy; exact I64v_of Try.underlying3 hy
theorem open_bl {r : Reach} {b0 : Nat} {v : Value} {d : DataW H} {p : List MemPlace}
    (hv : Value.okWide Try.prog w r b0 32 v) (h : DataW.Trod enc Try.prog w base spare held 32 v d p) :
    ∃ x : Bl, v = blV x := by
  obtain ⟨cs, rfl, hl, hR⟩ := open_agg bl_struct (hone_of (by kernel_rfl)) (by kernel_rfl) blR blR_of hv h
  rw [bl_fields_size] at hl hR
  match cs, hl, hR with
  | [c0, c1, c2, c3, c4], _, hR =>
    obtain ⟨a0, h0, w0⟩ := (hR 0 (by omega)).1 rfl
    obtain ⟨a1, h1, w1⟩ := (hR 1 (by omega)).2.1 rfl
    obtain ⟨a2, h2, w2⟩ := (hR 2 (by omega)).2.2.1 rfl
    obtain ⟨a3, h3, w3⟩ := (hR 3 (by omega)).2.2.2.1 rfl
    obtain ⟨a4, h4, w4⟩ := (hR 4 (by omega)).2.2.2.2 rfl
    simp at h0 h1 h2 h3 h4
    exact ⟨⟨a0, a1, a2, a3, a4⟩, by rw [h0, h1, h2, h3, h4]; rfl⟩
end
end Go.Proofs.Ytdbanekjjibpbaa
