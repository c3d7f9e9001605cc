/- Texts laid together by merge.py: AqRi. -/
import Derived.Test.YtbhndfphegflhaaGreatMrg42
import Derived.Test.YtbhndfphegflhaaGreatMrg27
import Derived.Test.YtbhndfphegflhaaGreatMrg37
import Derived.Test.YtbhndfphegflhaaGreatMrg43
set_option linter.unusedSimpArgs false
set_option linter.unusedVariables false
/- The law AcquireRights: New of both for any year; Right of both. -/
namespace Go.Proofs.YtbhndfphegflhaaGreat
open Go.RowKit

theorem prights_any (a : Aq) (w : World) (hs : AqS w w.heap.size a) :
    Calls Tryz.prog 16 #[aqV a] w fun e w' => e = .returned (.bool (okA (aqP a))) ∧ Below w.heap.size w w' :=
  pright40_any a w hs seErr (fun _ => rfl) (fun x hx W hW => sright_any x W (((hs.ss x hx).below hW).more hW.size))

end Go.Proofs.YtbhndfphegflhaaGreat
