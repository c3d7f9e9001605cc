/- Texts laid together by merge.py: OdL. -/
import Derived.Test.YtbhndfphegflhaaGreatMrg7
import Derived.Test.YtbhndfphegflhaaGreatMrg5
set_option linter.unusedSimpArgs false
set_option linter.unusedVariables false
/- Walks: Receive, Stop and Bill of the reference. Printed by gen_od_ops.py. -/
namespace Go.Proofs.YtbhndfphegflhaaGreat
open Go.RowKit

end Go.Proofs.YtbhndfphegflhaaGreat
