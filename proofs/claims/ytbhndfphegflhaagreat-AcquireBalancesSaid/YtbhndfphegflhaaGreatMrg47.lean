/- Texts laid together by merge.py: AqUB, AqUO. -/
import Derived.Test.YtbhndfphegflhaaGreatMrg44
import Derived.Test.YtbhndfphegflhaaGreatMrg46
import Derived.Test.YtbhndfphegflhaaGreatMrg0
import Derived.Deep.Cut
import Derived.Deep.CutRange
import Derived.Deep.DeepCutAuto
import Derived.Test.YtbhndfphegflhaaGreatMrg45
set_option linter.unusedSimpArgs false
set_option linter.unusedVariables false
/- The law AcquireBills. Printed by gen_aq_ub.py. -/
namespace Go.Proofs.YtbhndfphegflhaaGreat
open Go.RowKit
theorem okA_D {a : Aq} (h : okA (aqP a) = true) : Dif a.f ∧ ∀ o ∈ a.o, o.sh.all (shHas a.f) = true := by
  have hv := (okA_V h).1
  refine ⟨(Tid.of hv.chk).dif, fun o ho => ?_⟩
  unfold okA ok2 at h
  simp only [Bool.and_eq_true] at h
  have h2 := List.all_eq_true.1 h.1.1.1.2.1 o ho
  unfold okO at h2
  rw [Bool.and_eq_true] at h2
  exact h2.2

end Go.Proofs.YtbhndfphegflhaaGreat

/- The law AcquireOrders. Printed by gen_aq_ub.py. -/
namespace Go.Proofs.YtbhndfphegflhaaGreat
open Go.RowKit
theorem ResB.named {f : FuncId} {args : Array Value} {w : World} {n m er : Int} {pa : Pa} (h : Calls Tryz.prog f args w (ResB w n (er, pa))) (hm : (if er = 0 then n else 0) = m) :
    Calls Tryz.prog f args w (fun e w' => ∃ z : Aq, e = .returned (.tuple #[aqV z, .int .i64 m, .int .i64 er]) ∧ AqS w' w'.heap.size z ∧ aqP z = pa ∧ Below w.heap.size w w') :=
  h.mono (by rintro e w' ⟨z, rfl, h1, h2, h3⟩; exact ⟨z, by simp only [hm], h1, h2, h3⟩)

end Go.Proofs.YtbhndfphegflhaaGreat
