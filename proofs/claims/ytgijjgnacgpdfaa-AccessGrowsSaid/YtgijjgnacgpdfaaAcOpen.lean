/- The arguments of the laws on access, opened. -/
import Derived.Test.YtgijjgnacgpdfaaAcD
import Derived.Test.YtgijjgnacgpdfaaOpen
namespace Go.Proofs.Ytgijjgnacgpdfaa
open Go.RowKit Go.ChangeShapes Go.WideShapes Go.Deep

theorem rg_fields_size : (Try.prog.fieldsOf 23).size = 4 := by kernel_rfl
theorem rg_fields_type : ∀ (j : Nat) (f : Field), (Try.prog.fieldsOf 23)[j]? = some f → f.type = 3 := by
  have h : ((Try.prog.fieldsOf 23).all fun f => f.type == 3) = true := by kernel_rfl
  intro j f hf
  obtain ⟨hj, rfl⟩ := Array.getElem?_eq_some_iff.1 hf
  have := (Array.all_eq_true.1 h) j hj
  simpa using this

theorem open_rights {H : Type} {enc : TypeId × Value → H} {w : World} {base : Nat} {spare : Nat → Bool} {held : Bool} {r : Reach} {b0 : Nat} {v : Value} {d : DataW H} {p : List MemPlace}
    (hv : Value.okWide Try.prog w r b0 23 v) (h : DataW.Trod enc Try.prog w base spare held 23 v d p) :
    ∃ x : Rg, v = rgV x := by
  obtain ⟨cs, rfl, hl, hR⟩ := open_agg rg_struct (hone_of (by kernel_rfl)) (by kernel_rfl) (fun _ v => I64v v)
    (fun j f n v y hf hy => I64v_of (t := 3) Try.underlying3 (by rw [← rg_fields_type j f hf]; exact hy)) hv h
  rw [rg_fields_size] at hl hR
  match cs, hl, hR with
  | [c0, c1, c2, c3], _, hR =>
    obtain ⟨a0, h0, w0⟩ := hR 0 (by omega)
    obtain ⟨a1, h1, w1⟩ := hR 1 (by omega)
    obtain ⟨a2, h2, w2⟩ := hR 2 (by omega)
    obtain ⟨a3, h3, w3⟩ := hR 3 (by omega)
    simp at h0 h1 h2 h3
    exact ⟨⟨a0, a1, a2, a3⟩, by rw [h0, h1, h2, h3]; rfl⟩
end Go.Proofs.Ytgijjgnacgpdfaa
