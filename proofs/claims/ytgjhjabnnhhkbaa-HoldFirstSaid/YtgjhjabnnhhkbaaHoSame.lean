/- Walks: Same. Printed by gen_same.py. -/
import Derived.Test.YtgjhjabnnhhkbaaHoKit
import Derived.Deep.QuietTactic
import Derived.BigQuiet
namespace Go.Proofs.Ytgjhjabnnhhkbaa
open Go.RowKit

set_option maxHeartbeats 800000 in
theorem ho_same (A A' : Option Addr) (n c n' c' : Nat) (xs ys : List Ho) (w : World) (hs : Hos w w.heap.size A n c xs) (ht : Hos w w.heap.size A' n' c' ys) :
    Calls Try.prog 26 #[.slice A n c, .slice A' n' c'] w fun e w' => e = .returned (.bool (decide (xs = ys))) ∧ Below w.heap.size w w' := by
  have hbig := hs.big
  have hbig' := ht.big
  have HS := hide hs
  have HT := hide ht
  clear hs ht
  by_cases hnn : n = n'
  · subst hnn
    have hgd := ho_guard
    go_enter Try.func26, Try.ntmps26
    go_wp2
    go_loopw [5] (fun i wr => ∃ k : Nat, k ≤ n ∧ i = .int .i64 k ∧ Below w.heap.size w wr ∧ xs.take k = ys.take k) (fun i _ => n - (intOf i).toNat)
    case atStart => exact ⟨0, Nat.zero_le _, rfl, Below.refl _ _, rfl⟩
    case round =>
      obtain ⟨k, hk, rfl, hb, ha⟩ := hrel
      have HA := hide ha
      have HB := hide hb
      clear ha hb
      by_cases hlt : k < n
      · obtain ⟨b, off, x, rfl, hbB, hx, c0, c1, c2, c3, c4, c5, c6, c7, c8, c9, c10⟩ := Hos_at (HS.out.below HB.out) hlt
        obtain ⟨b', off', y, rfl, hbB', hy, d0, d1, d2, d3, d4, d5, d6, d7, d8, d9, d10⟩ := Hos_at (HT.out.below HB.out) hlt
        have HX := hide hx
        have HY := hide hy
        clear hx hy
        have hkk : (k : Int) < (n : Int) := by omega
        have hq := fun w => ho_neq x y w
        by_cases hxy : x = y
        · subst hxy
          simp only [decide_true, Bool.not_true] at hq
          unfold hoV at hq
          go_wp2
          go_quiet (fail)
          go_wp2
          go_roundw
          case rel =>
            refine ⟨k + 1, by omega, by go_num, below_drewN HB.out _, ?_⟩
            obtain ⟨h1, h2⟩ := List.getElem?_eq_some_iff.1 HX.out
            obtain ⟨h3, h4⟩ := List.getElem?_eq_some_iff.1 HY.out
            rw [List.take_succ_eq_append_getElem h1, List.take_succ_eq_append_getElem h3, HA.out, h2, h4]
          case measure => simp [intOf]; omega
        · have hd : decide (x = y) = false := by simpa using hxy
          simp only [hd, Bool.not_false] at hq
          have HXY := hide hxy
          clear hxy hd
          unfold hoV at hq
          go_wp2
          go_quiet (fail)
          go_wp2
          go_ret
          refine ⟨ret_bool ?_, below_drewN HB.out _⟩
          have : xs ≠ ys := by
            intro e
            have h1 := HX.out
            rw [e, HY.out] at h1
            exact HXY.out (Option.some.inj h1).symm
          simp [this]
      · go_wp2
        go_ret
        refine ⟨ret_bool ?_, HB.out⟩
        have h1 := HS.out.len
        have h2 := HT.out.len
        have h3 := HA.out
        rw [List.take_of_length_le (by omega), List.take_of_length_le (by omega)] at h3
        simp [h3]
  · have hne : ((n : Int) == (n' : Int)) = false := by simp; omega
    go_enter Try.func26, Try.ntmps26
    go_wp2
    go_ret
    refine ⟨ret_bool ?_, Below.refl _ _⟩
    have : xs ≠ ys := by
      intro e; have h1 := HS.out.len; have h2 := HT.out.len; subst e; omega
    simp [this]
end Go.Proofs.Ytgjhjabnnhhkbaa
