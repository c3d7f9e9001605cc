/- Texts laid together by merge.py: SeA. -/
import Derived.Test.YtbhndfphegflhaaGreatMrg28
import Derived.Test.YtbhndfphegflhaaGreatMrg30
import Derived.Test.YtbhndfphegflhaaGreatMrg15
import Derived.BigGuardPart
set_option linter.unusedSimpArgs false
set_option linter.unusedVariables false
/- Walks: has, listed, issues, Right of the reference (subscriptions). -/
namespace Go.Proofs.YtbhndfphegflhaaGreat
open Go.RowKit

set_option maxRecDepth 100000 in
theorem rhas_any (x : Iu) (w : World) : Calls Tryz.prog 166 #[iuV x] w fun e w' => e = .returned (.bool (hasI x)) ∧ Below w.heap.size w w' := by
  have B0 := hide ((Below.refl w.heap.size w).alloc (Nat.le_refl _) (.cells (iuC x) 122))
  unfold iuV
  obtain ⟨q, hq⟩ : ∃ q, hasI x = q := ⟨_, rfl⟩
  have HQ := hide hq
  unfold hasI at hq
  cases h2 : (x.st == 2) with
  | true =>
    rw [h2] at hq
    have HR := hide (show hasI x = true by rw [HQ.out, ← hq]; rfl)
    clear hq
    go_enter Tryz.func166, Tryz.ntmps166
    go_wp2
    go_ret
    exact ⟨ret_bool HR.out.symm, B0.out⟩
  | false =>
    rw [h2] at hq
    have HR := hide (show hasI x = (x.st == 4) by rw [HQ.out, ← hq]; simp)
    clear hq
    go_enter Tryz.func166, Tryz.ntmps166
    go_wp2
    go_ret
    exact ⟨ret_bool HR.out.symm, B0.out⟩
set_option maxRecDepth 100000 in
theorem rlisted_any (x y : Iu) (w : World) : Calls Tryz.prog 165 #[iuV x, iuV y] w fun e w' => e = .returned (.bool (lstI x y)) ∧ Below w.heap.size w w' := by
  have B0 := hide (((Below.refl w.heap.size w).alloc (Nat.le_refl _) (.cells (iuC x) 122)).alloc (by simp) (.cells (iuC y) 122))
  unfold iuV
  have HR := hide (show lstI x y = ((x.vol == y.vol) && (x.num == y.num) && (x.last == y.last) && (x.day == y.day)) from rfl)
  cases h1 : (x.vol == y.vol) with
  | false =>
    have HR2 := hide (show lstI x y = false by rw [HR.out, h1]; rfl)
    go_enter Tryz.func165, Tryz.ntmps165
    go_wp2
    go_ret
    exact ⟨ret_bool HR2.out.symm, B0.out⟩
  | true =>
    cases h2 : (x.num == y.num) with
    | false =>
      have HR2 := hide (show lstI x y = false by rw [HR.out, h1, h2]; rfl)
      go_enter Tryz.func165, Tryz.ntmps165
      go_wp2
      go_ret
      exact ⟨ret_bool HR2.out.symm, B0.out⟩
    | true =>
      cases h3 : (x.last == y.last) with
      | false =>
        have HR2 := hide (show lstI x y = false by rw [HR.out, h1, h2, h3]; rfl)
        go_enter Tryz.func165, Tryz.ntmps165
        go_wp2
        go_ret
        exact ⟨ret_bool HR2.out.symm, B0.out⟩
      | true =>
        have HR2 := hide (show lstI x y = (x.day == y.day) by rw [HR.out, h1, h2, h3]; rfl)
        go_enter Tryz.func165, Tryz.ntmps165
        go_wp2
        go_ret
        exact ⟨ret_bool HR2.out.symm, B0.out⟩
end Go.Proofs.YtbhndfphegflhaaGreat
