/- Walks: the small functions of access and its reference. -/
import Derived.Test.YtgijjgnacgpdfaaAcPlain
import Derived.Test.YtgijjgnacgpdfaaProg
namespace Go.Proofs.Ytgijjgnacgpdfaa
open Go.RowKit

theorem within_any (n a b : Int) (w : World) :
    Calls Try.prog 21 #[.int .i64 n, .int .i64 a, .int .i64 b] w fun e w' => e = .returned (.bool (wiB n a b)) ∧ w = w' := by
  by_cases h : a ≤ n
  · go_enter Try.func21, Try.ntmps21
    go_wp2
    go_ret
    exact ⟨ret_bool (by simp [wiB, h]), rfl⟩
  · go_enter Try.func21, Try.ntmps21
    go_wp2
    go_ret
    exact ⟨ret_bool (by simp [wiB]; omega), rfl⟩
theorem level_any (n : Int) (w : World) :
    Calls Try.prog 22 #[.int .i64 n] w fun e w' => e = .returned (.bool (wiB n 1 4)) ∧ w = w' := by
  by_cases h : 1 ≤ n
  · go_enter Try.func22, Try.ntmps22
    go_wp2
    go_ret
    exact ⟨ret_bool (by simp [wiB, h]), rfl⟩
  · go_enter Try.func22, Try.ntmps22
    go_wp2
    go_ret
    exact ⟨ret_bool (by simp [wiB]; omega), rfl⟩

set_option maxHeartbeats 1000000 in
theorem aright_any (r : Rg) (w : World) :
    Calls Try.prog 10 #[rgV r] w fun e w' => e = .returned (.int .i64 (rgE r)) ∧ Below w.heap.size w w' := by
  have hb0 := fun o => (Below.refl w.heap.size w).alloc (Nat.le_refl _) o
  have HB := hide hb0
  clear hb0
  unfold rgV
  go_enter Try.func10, Try.ntmps10
  go_wp2_with (go_at_call 21; refine (within_any _ _ _ _).mono ?_; rintro e w' ⟨rfl, rfl⟩)
  all_goals go_ret
  all_goals refine ⟨ret_int ?_, HB.out _⟩
  all_goals unfold rgE
  all_goals simp_all
end Go.Proofs.Ytgijjgnacgpdfaa
