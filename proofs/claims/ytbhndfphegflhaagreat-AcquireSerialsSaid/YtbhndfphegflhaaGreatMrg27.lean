/- Texts laid together by merge.py: AqN. -/
import Derived.Test.YtbhndfphegflhaaGreatMrg24
import Derived.Test.YtbhndfphegflhaaGreatMrg1
set_option linter.unusedSimpArgs false
set_option linter.unusedVariables false
/- Walks: Same of the reference, where both are the same. Printed by gen_aq_n.py. -/
namespace Go.Proofs.YtbhndfphegflhaaGreat
open Go.RowKit

/-- The same states, perhaps elsewhere. -/
structure AqQ (p q : Aq) : Prop where
  yr : p.yr = q.yr
  f : p.f = q.f
  o : p.o = q.o
  b : p.b = q.b
  sl : p.s.length = q.s.length
  s : ∀ (i : Nat) (x y : Se), p.s[i]? = some x → q.s[i]? = some y → SeQ x y
  nx : p.nx = q.nx
theorem AqQ.of {a b : Aq} (h : aqP a = aqP b) : AqQ a b := by
  unfold aqP at h
  injection h with h1 h2 h3 h4 h5 h6
  refine ⟨h1, h2, h3, h4, by rw [h5], fun i x y hx hy => ?_, h6⟩
  rw [h5, hy] at hx
  cases hx
  exact SeQ.refl _

end Go.Proofs.YtbhndfphegflhaaGreat
