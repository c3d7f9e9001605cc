/- Texts laid together by merge.py: FuT. -/
import Derived.Test.YtbhndfphegflhaaGreatMrg14
import Derived.Test.YtbhndfphegflhaaGreatMrg12
import Derived.Test.YtbhndfphegflhaaGreatMrg3
set_option linter.unusedSimpArgs false
set_option linter.unusedVariables false
/- Walks: the law FundRight. -/
namespace Go.Proofs.YtbhndfphegflhaaGreat
open Go.RowKit Go.Maps

end Go.Proofs.YtbhndfphegflhaaGreat
