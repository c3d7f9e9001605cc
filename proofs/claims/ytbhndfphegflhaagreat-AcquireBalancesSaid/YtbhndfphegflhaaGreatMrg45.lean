/- Texts laid together by merge.py: AqW. -/
import Derived.Test.YtbhndfphegflhaaGreatMrg40
import Derived.Test.YtbhndfphegflhaaGreatMrg20
import Derived.Test.YtbhndfphegflhaaGreatMrg1
set_option linter.unusedSimpArgs false
set_option linter.unusedVariables false
/- Walks: Order of the reference. Printed by gen_aq_w.py. -/
namespace Go.Proofs.YtbhndfphegflhaaGreat
open Go.RowKit Go.Maps

end Go.Proofs.YtbhndfphegflhaaGreat
