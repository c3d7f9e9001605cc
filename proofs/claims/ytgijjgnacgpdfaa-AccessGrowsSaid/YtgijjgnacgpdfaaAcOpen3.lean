/- An argument that is an array of two slices of ints, opened. -/
import Derived.Test.YtgijjgnacgpdfaaAcOpen2
import Derived.OpenShut
namespace Go.Proofs.Ytgijjgnacgpdfaa
open Go.RowKit Go.ChangeShapes Go.WideShapes Go.Deep

theorem open_groups {H : Type} {enc : TypeId × Value → H} {w : World} {base : Nat} {spare : Nat → Bool} {held : Bool} {r : Reach} {b0 : Nat} {v : Value} {d : DataW H} {p : List MemPlace}
    (hv : Value.okWide Try.prog w r b0 42 v) (h : DataW.Trod enc Try.prog w base spare held 42 v d p) :
    ∃ (A0 : Option Addr) (n0 c0 : Nat) (xs0 : List Int) (A1 : Option Addr) (n1 c1 : Nat) (xs1 : List Int), v = .agg #[.slice A0 n0 c0, .slice A1 n1 c1] ∧
      (n0 ≤ 140737488355328 → Is w w.heap.size A0 n0 c0 xs0) ∧ (n1 ≤ 140737488355328 → Is w w.heap.size A1 n1 c1 xs1) := by
  have ht := Try.underlying42
  have hC : Try.prog.cellsOf 42 = 2 := by kernel_rfl
  have hE : Try.prog.cellsOf 34 = 1 := by kernel_rfl
  obtain ⟨cs, rfl, hsz⟩ : ∃ cs, v = .agg cs ∧ cs.size = Try.prog.cellsOf 42 := by
    simp only [Value.okWide, ht] at hv
    obtain ⟨cs, h1, h2, _⟩ := hv
    exact ⟨cs, h1, h2⟩
  obtain ⟨fuel, hf⟩ := h
  obtain ⟨xs, m, _, _, hl, hxl, hi⟩ := DataW.trod_array ht hf
  obtain ⟨l⟩ := cs
  rw [hC] at hsz
  rw [hE] at hi
  have hll : l.length = 2 := by simpa using hsz
  match l, hll with
  | [c0, c1], _ =>
    have e0 := hi 0 (by omega)
    have e1 := hi 1 (by omega)
    simp [Value.cells] at e0 e1
    rw [List.getElem?_eq_getElem (by omega)] at e0 e1
    obtain ⟨A0, n0, k0, xs0, q0, s0, _, _⟩ := open_ints e0
    obtain ⟨A1, n1, k1, xs1, q1, s1, _, _⟩ := open_ints e1
    simp at q0 q1
    subst q0 q1
    exact ⟨A0, n0, k0, xs0, A1, n1, k1, xs1, rfl, s0, s1⟩
end Go.Proofs.Ytgijjgnacgpdfaa
