/- Texts laid together by merge.py: AqL. -/
import Derived.Test.YtbhndfphegflhaaGreatMrg23
import Derived.Test.YtbhndfphegflhaaGreatMrg4
import Derived.Deep.QuietTactic
import Derived.BigQuiet
import Derived.BigRegion
set_option linter.unusedSimpArgs false
set_option linter.unusedVariables false
/- Walks: sameOrder, SameSerial, Same, where both are the same. Printed by gen_aq_l.py. -/
namespace Go.Proofs.YtbhndfphegflhaaGreat
open Go.RowKit

/-- The same subscription, perhaps elsewhere. -/
def SeQ (x y : Se) : Prop := ∃ A1 c1 A2 c2 A3 c3, y = { x with skA := A1, skc := c1, dbA := A2, dbc := c2, iuA := A3, iuc := c3 }
theorem SeQ.refl (x : Se) : SeQ x x := ⟨x.skA, x.skc, x.dbA, x.dbc, x.iuA, x.iuc, rfl⟩
end Go.Proofs.YtbhndfphegflhaaGreat
