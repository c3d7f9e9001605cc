/- Walks: symMergeCmpFunc. Printed by gen_ho_mgs.py. -/
import Derived.Test.YtgjhjabnnhhkbaaHoMgB
namespace Go.Proofs.Ytgjhjabnnhhkbaa
open Go.RowKit

/-- Where the two falling lists are cut. -/
theorem mrg_cut {L R : List Ho} {l r h s s0 r0 e : Nat} (hl : L.length = l) (hr : R.length = r) (hL : Std L) (hR : Std R) (he : s + e = h) (hs0 : s0 = 0 ∨ s0 + r = h) (hr0 : r0 = l ∨ r0 = h) (hsl : s ≤ l) (her : e ≤ r)
    (hg : s = s0 ∨ ∀ q x y, s = q + 1 → L[q]? = some x → R[h - s]? = some y → y.rnk ≤ x.rnk) (hb : s = r0 ∨ ∀ x y, L[s]? = some x → R[h - 1 - s]? = some y → x.rnk < y.rnk) :
    ∃ L1 L2 R1 R2, L = L1 ++ L2 ∧ R = R1 ++ R2 ∧ L1.length = s ∧ L2.length = l - s ∧ R1.length = e ∧ R2.length = r - e ∧ (∀ x ∈ L1, ∀ y ∈ R2, y.rnk ≤ x.rnk) ∧ (∀ x ∈ L2, ∀ y ∈ R1, x.rnk < y.rnk) := by
  refine ⟨L.take s, L.drop s, R.take e, R.drop e, (List.take_append_drop _ _).symm, (List.take_append_drop _ _).symm, by rw [List.length_take]; omega, by rw [List.length_drop]; omega, by rw [List.length_take]; omega, by rw [List.length_drop]; omega, ?_, ?_⟩
  · intro x hx y hy
    obtain ⟨i, hi⟩ := List.mem_iff_getElem?.1 hx
    rw [List.getElem?_take] at hi
    split at hi
    · rename_i his
      obtain ⟨j, hj⟩ := List.mem_iff_getElem?.1 hy
      rw [List.getElem?_drop] at hj
      have hjl := (List.getElem?_eq_some_iff.1 hj).1
      rcases hg with hg | hg
      · omega
      · obtain ⟨q, rfl⟩ : ∃ q, s = q + 1 := ⟨s - 1, by omega⟩
        obtain ⟨x0, hx0⟩ : ∃ x0, L[q]? = some x0 := ⟨_, List.getElem?_eq_getElem (by omega)⟩
        obtain ⟨y0, hy0⟩ : ∃ y0, R[e]? = some y0 := ⟨_, List.getElem?_eq_getElem (by omega)⟩
        have h1 := hg q x0 y0 rfl hx0 (by rw [show h - (q + 1) = e by omega]; exact hy0)
        have h2 := hL.get (show i ≤ q by omega) hi hx0
        have h3 := hR.get (show e ≤ e + j by omega) hy0 hj
        omega
    · cases hi
  · intro x hx y hy
    obtain ⟨i, hi⟩ := List.mem_iff_getElem?.1 hy
    rw [List.getElem?_take] at hi
    split at hi
    · rename_i hie
      obtain ⟨j, hj⟩ := List.mem_iff_getElem?.1 hx
      rw [List.getElem?_drop] at hj
      have hjl := (List.getElem?_eq_some_iff.1 hj).1
      rcases hb with hb | hb
      · omega
      · obtain ⟨x0, hx0⟩ : ∃ x0, L[s]? = some x0 := ⟨_, List.getElem?_eq_getElem (by omega)⟩
        obtain ⟨y0, hy0⟩ : ∃ y0, R[h - 1 - s]? = some y0 := ⟨_, List.getElem?_eq_getElem (by omega)⟩
        have h1 := hb x0 y0 hx0 hy0
        have h2 := hL.get (show s ≤ s + j by omega) hx0 hj
        have h3 := hR.get (show i ≤ h - 1 - s by omega) hi hy0
        omega
    · cases hi
theorem mrg_fin {L1 L2 R1 R2 M1 M2 : List Ho} (hL : Std (L1 ++ L2)) (hR : Std (R1 ++ R2)) (c1 : ∀ x ∈ L1, ∀ y ∈ R2, y.rnk ≤ x.rnk) (c2 : ∀ x ∈ L2, ∀ y ∈ R1, x.rnk < y.rnk)
    (s1 : Std M1) (e1 : Eqv M1 (L1 ++ R1)) (s2 : Std M2) (e2 : Eqv M2 (L2 ++ R2)) : Std (M1 ++ M2) ∧ Eqv (M1 ++ M2) ((L1 ++ L2) ++ (R1 ++ R2)) := by
  constructor
  · refine s1.app s2 (fun a ha b hb => ?_)
    rcases List.mem_append.1 (e1.mem ha) with ha | ha <;> rcases List.mem_append.1 (e2.mem hb) with hb | hb
    · exact hL.mid a ha b hb
    · exact c1 a ha b hb
    · have := c2 b hb a ha; omega
    · exact hR.mid a ha b hb
  · have h1 := e1.app e2
    refine h1.trans ?_
    have h2 : Eqv (R1 ++ L2) (L2 ++ R1) := (Eqv.swap c2).symm
    have h3 := (Eqv.refl L1).app (h2.app (Eqv.refl R2))
    simpa only [List.append_assoc] using h3
theorem mrg_nil {L R : List Ho} (hL : Std L) (hR : Std R) (h : L = [] ∨ R = []) : Std (L ++ R) := by
  rcases h with rfl | rfl
  · simpa using hR
  · simpa using hL
/-- What the function does to the lists between a, m and b. -/
def SymSays (f : Nat) (cb : Array Value) (tl : List Value) (g cap N : Nat) (w0 : World) (k : Nat) : Prop :=
  ∀ (P L R Q : List Ho) (a m b : Nat) (w : World), L.length + R.length < k → SWh w0 g tl (P ++ (L ++ (R ++ Q))) w → (∀ y ∈ L ++ R, PdR y) → (P ++ (L ++ (R ++ Q))).length = N → P.length = a → a + L.length = m → m + R.length = b → 0 < L.length → 0 < R.length → Std L → Std R →
    Calls Try.prog 63 #[.slice (some ⟨g, 0, none⟩) N cap, .int .i64 a, .int .i64 m, .int .i64 b, .func (.func f) #[] cb] w fun e w' => e = .returned (.tuple #[]) ∧ ∃ M, Std M ∧ Eqv M (L ++ R) ∧ SWh w0 g tl (P ++ (M ++ Q)) w'

end Go.Proofs.Ytgjhjabnnhhkbaa
