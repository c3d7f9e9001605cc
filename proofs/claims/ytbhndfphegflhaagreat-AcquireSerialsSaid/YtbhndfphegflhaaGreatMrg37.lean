/- Texts laid together by merge.py: AqSd. -/
import Derived.Test.YtbhndfphegflhaaGreatMrg36
set_option linter.unusedSimpArgs false
set_option linter.unusedVariables false
/- Small of the law as a function of the state. Printed by gen_aq_sd.py. -/
namespace Go.Proofs.YtbhndfphegflhaaGreat
open Go.RowKit

end Go.Proofs.YtbhndfphegflhaaGreat
