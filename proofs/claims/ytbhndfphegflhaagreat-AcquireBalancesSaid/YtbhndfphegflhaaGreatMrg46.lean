/- Texts laid together by merge.py: AqZ. -/
import Derived.Test.YtbhndfphegflhaaGreatMrg30
import Derived.Test.YtbhndfphegflhaaGreatMrg41
import Derived.Test.YtbhndfphegflhaaGreatMrg24
set_option linter.unusedSimpArgs false
set_option linter.unusedVariables false
/- Walks: Stop and Bill of the reference. Printed by gen_aq_z.py. -/
namespace Go.Proofs.YtbhndfphegflhaaGreat
open Go.RowKit

end Go.Proofs.YtbhndfphegflhaaGreat
