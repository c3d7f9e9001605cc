/- An argument of the type api.Item, opened: its first two fields. -/
import Derived.Test.YtgjhjabnnhhkbaaHoKit
import Derived.Test.YtgjhjabnnhhkbaaOpen2
namespace Go.Proofs.Ytgjhjabnnhhkbaa
open Go.RowKit Go.ChangeShapes Go.WideShapes Go.Deep

theorem it_struct : Try.prog.underlying 36 = some (.struct (Try.prog.fieldsOf 36)) := by kernel_rfl
theorem it_cells : Try.prog.cellsOf 36 = 10 := by kernel_rfl
theorem it_f0 : (Try.prog.fieldsOf 36)[0]?.map (fun f => (f.offset, f.type)) = some (0, 3) := by kernel_rfl
theorem it_f1 : (Try.prog.fieldsOf 36)[1]?.map (fun f => (f.offset, f.type)) = some (1, 3) := by kernel_rfl
theorem it_int : Try.prog.cellsOf 3 = 1 := by kernel_rfl
theorem open_item {H : Type} {enc : TypeId × Value → H} {w : World} {base : Nat} {spare : Nat → Bool} {held : Bool} {r : Reach} {b0 : Nat} {v : Value} {d : DataW H} {p : List MemPlace}
    (hv : Value.okWide Try.prog w r b0 36 v) (h : DataW.Trod enc Try.prog w base spare held 36 v d p) :
    ∃ (it rcd : Int) (v2 v3 v4 v5 v6 v7 v8 v9 : Value), v = .agg #[.int .i64 it, .int .i64 rcd, v2, v3, v4, v5, v6, v7, v8, v9] := by
  obtain ⟨cs, rfl, hsz⟩ := okWide_struct it_struct hv
  obtain ⟨l⟩ := cs
  obtain ⟨fuel, hf⟩ := h
  obtain ⟨ys, n', _, _, hlen, hyl, hg⟩ := DataW.trod_struct it_struct hf
  have hl : l.length = 10 := by have h1 := hsz; rw [it_cells] at h1; simpa using h1
  have g0 : I64v (l.getD 0 undef) := by
    have h0 := it_f0
    obtain ⟨f, hf0, he⟩ := Option.map_eq_some_iff.1 h0
    have g := hg 0 f hf0
    have hcells : Value.cells (.agg ⟨l⟩) = ⟨l⟩ := rfl
    rw [hcells, (Prod.mk.inj he).1, (Prod.mk.inj he).2, it_int, take1_drop l 0 undef (by omega), List.getElem?_eq_getElem (by have := (Array.getElem?_eq_some_iff.1 hf0).1; omega)] at g
    exact I64v_of Try.underlying3 g
  have g1 : I64v (l.getD 1 undef) := by
    have h0 := it_f1
    obtain ⟨f, hf0, he⟩ := Option.map_eq_some_iff.1 h0
    have g := hg 1 f hf0
    have hcells : Value.cells (.agg ⟨l⟩) = ⟨l⟩ := rfl
    rw [hcells, (Prod.mk.inj he).1, (Prod.mk.inj he).2, it_int, take1_drop l 1 undef (by omega), List.getElem?_eq_getElem (by have := (Array.getElem?_eq_some_iff.1 hf0).1; omega)] at g
    exact I64v_of Try.underlying3 g
  match l, hl, g0, g1 with
  | [a0, a1, a2, a3, a4, a5, a6, a7, a8, a9], _, g0, g1 =>
    obtain ⟨n0, h0, _⟩ := g0
    obtain ⟨n1, h1, _⟩ := g1
    simp at h0 h1
    exact ⟨n0, n1, a2, a3, a4, a5, a6, a7, a8, a9, by rw [h0, h1]⟩
end Go.Proofs.Ytgjhjabnnhhkbaa
