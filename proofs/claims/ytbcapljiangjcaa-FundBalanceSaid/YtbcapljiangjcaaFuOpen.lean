/- The arguments of the laws on funds, opened. -/
import Derived.Test.YtbcapljiangjcaaFuI
import Derived.Test.YtbcapljiangjcaaOpen
namespace Go.Proofs.Ytbcapljiangjcaa
open Go.RowKit Go.ChangeShapes Go.WideShapes Go.Deep

theorem fu_fields : Try.prog.underlying 26 = some (.struct (Try.prog.fieldsOf 26)) := fu_struct
theorem fu_fields_size : (Try.prog.fieldsOf 26).size = 5 := by kernel_rfl
theorem fu_fields_type : ∀ (j : Nat) (f : Field), (Try.prog.fieldsOf 26)[j]? = some f → f.type = 3 := by
  have h : ((Try.prog.fieldsOf 26).all fun f => f.type == 3) = true := by kernel_rfl
  intro j f hf
  obtain ⟨hj, rfl⟩ := Array.getElem?_eq_some_iff.1 hf
  have := (Array.all_eq_true.1 h) j hj
  simpa using this

theorem open_funds {H : Type} {enc : TypeId × Value → H} {w : World} {base : Nat} {spare : Nat → Bool} {held : Bool} {fuel : Nat} {cs : List Value} {x : DataW H × List MemPlace}
    (h : DataW.trod enc Try.prog w base spare held fuel 22 cs = some x) (hsz : ∀ el sp, x.1 = .slice el sp → (el.length + sp.length) * Try.prog.bytesOf 26 ≤ reachBytes) :
    ∃ (A : Option Addr) (n c : Nat) (xs : List Fu), cs = [.slice A n c] ∧ Fs w w.heap.size A n c xs ∧ ∀ x ∈ xs, FuW x := by
  rcases open_rows Try.underlying22 fu_fields (hone_of (by kernel_rfl)) (by kernel_rfl) (by rw [fu_fields_size]; omega) (fun _ v => I64v v)
    (fun j f n v y hf hy => I64v_of (t := 3) Try.underlying3 (by rw [← fu_fields_type j f hf]; exact hy)) h with hcs | ⟨A, len, cap, V, el, sp, hcs, hl, hx, hel, hc⟩
  · exact ⟨none, 0, 0, [], hcs, Sl.none_, by simp⟩
  · rw [fu_fields_size] at hc
    have hb := hsz el sp hx
    have hby : Try.prog.bytesOf 26 = 40 := by kernel_rfl
    rw [hby] at hb
    unfold reachBytes at hb
    let g : Nat → Fu := fun i => ⟨intOf (V i 0), intOf (V i 1), intOf (V i 2), intOf (V i 3), intOf (V i 4)⟩
    have hI : ∀ i, i < len → ∀ j, j < 5 → V i j = .int .i64 (intOf (V i j)) ∧ I64 (intOf (V i j)) := by
      intro i hi j hj
      obtain ⟨b, o, _, _, hcc⟩ := hc (by omega)
      obtain ⟨n, hn, h1, h2⟩ := (hcc i hi j hj).2
      rw [hn]; exact ⟨rfl, h1, h2⟩
    refine ⟨some A, len, cap, (List.range len).map g, hcs, ⟨by simp, hl, by omega, (by intro e; cases e), fun hlen => ?_⟩, ?_⟩
    · obtain ⟨b, o, rfl, hbl, hcc⟩ := hc hlen
      refine ⟨b, o, rfl, hbl, fun i x hx j u hu => ?_⟩
      have hi : i < len := by have := (List.getElem?_eq_some_iff.1 hx).1; simpa using this
      have hxx : x = g i := by
        rw [List.getElem?_map, List.getElem?_range hi] at hx
        exact (Option.some.inj hx).symm
      subst hxx
      have hj : j < 5 := by have := (List.getElem?_eq_some_iff.1 hu).1; simpa [fuE] using this
      rw [(hcc i hi j hj).1, ← hu]
      have hv := (hI i hi j hj).1
      match j, hj with
      | 0, _ => rw [hv]; rfl
      | 1, _ => rw [hv]; rfl
      | 2, _ => rw [hv]; rfl
      | 3, _ => rw [hv]; rfl
      | 4, _ => rw [hv]; rfl
    · intro x hx
      obtain ⟨i, hi, rfl⟩ := List.mem_map.1 hx
      have hi' : i < len := by simpa using hi
      exact ⟨(hI i hi' 0 (by omega)).2, (hI i hi' 1 (by omega)).2, (hI i hi' 2 (by omega)).2, (hI i hi' 3 (by omega)).2, (hI i hi' 4 (by omega)).2⟩

theorem or_fields_size : (Try.prog.fieldsOf 33).size = 4 := by kernel_rfl
theorem or_fields_type : ∀ (j : Nat) (f : Field), (Try.prog.fieldsOf 33)[j]? = some f → f.type = 3 := by
  have h : ((Try.prog.fieldsOf 33).all fun f => f.type == 3) = true := by kernel_rfl
  intro j f hf
  obtain ⟨hj, rfl⟩ := Array.getElem?_eq_some_iff.1 hf
  have := (Array.all_eq_true.1 h) j hj
  simpa using this
theorem or_struct : Try.prog.underlying 33 = some (.struct (Try.prog.fieldsOf 33)) := by kernel_rfl

theorem open_order {H : Type} {enc : TypeId × Value → H} {w : World} {base : Nat} {spare : Nat → Bool} {held : Bool} {r : Reach} {b0 : Nat} {v : Value} {d : DataW H} {p : List MemPlace}
    (hv : Value.okWide Try.prog w r b0 33 v) (h : DataW.Trod enc Try.prog w base spare held 33 v d p) :
    ∃ o0 o1 o2 o3 : Int, v = .agg #[.int .i64 o0, .int .i64 o1, .int .i64 o2, .int .i64 o3] ∧ I64 o0 ∧ I64 o1 ∧ I64 o2 ∧ I64 o3 := by
  obtain ⟨cs, rfl, hl, hR⟩ := open_agg or_struct (hone_of (by kernel_rfl)) (by kernel_rfl) (fun _ v => I64v v)
    (fun j f n v y hf hy => I64v_of (t := 3) Try.underlying3 (by rw [← or_fields_type j f hf]; exact hy)) hv h
  rw [or_fields_size] at hl hR
  match cs, hl, hR with
  | [c0, c1, c2, c3], _, hR =>
    obtain ⟨a0, h0, w0⟩ := hR 0 (by omega)
    obtain ⟨a1, h1, w1⟩ := hR 1 (by omega)
    obtain ⟨a2, h2, w2⟩ := hR 2 (by omega)
    obtain ⟨a3, h3, w3⟩ := hR 3 (by omega)
    simp at h0 h1 h2 h3
    exact ⟨a0, a1, a2, a3, by rw [h0, h1, h2, h3], w0, w1, w2, w3⟩
theorem open_fund {H : Type} {enc : TypeId × Value → H} {w : World} {base : Nat} {spare : Nat → Bool} {held : Bool} {r : Reach} {b0 : Nat} {v : Value} {d : DataW H} {p : List MemPlace}
    (hv : Value.okWide Try.prog w r b0 26 v) (h : DataW.Trod enc Try.prog w base spare held 26 v d p) :
    ∃ x : Fu, v = fuV x ∧ FuW x := by
  obtain ⟨cs, rfl, hl, hR⟩ := open_agg fu_fields (hone_of (by kernel_rfl)) (by kernel_rfl) (fun _ v => I64v v)
    (fun j f n v y hf hy => I64v_of (t := 3) Try.underlying3 (by rw [← fu_fields_type j f hf]; exact hy)) hv h
  rw [fu_fields_size] at hl hR
  match cs, hl, hR with
  | [c0, c1, c2, c3, c4], _, hR =>
    obtain ⟨a0, h0, w0⟩ := hR 0 (by omega)
    obtain ⟨a1, h1, w1⟩ := hR 1 (by omega)
    obtain ⟨a2, h2, w2⟩ := hR 2 (by omega)
    obtain ⟨a3, h3, w3⟩ := hR 3 (by omega)
    obtain ⟨a4, h4, w4⟩ := hR 4 (by omega)
    simp at h0 h1 h2 h3 h4
    exact ⟨⟨a0, a1, a2, a3, a4⟩, by rw [h0, h1, h2, h3, h4]; rfl, w0, w1, w2, w3, w4⟩
end Go.Proofs.Ytbcapljiangjcaa
