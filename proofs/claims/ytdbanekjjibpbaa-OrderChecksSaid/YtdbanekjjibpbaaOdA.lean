/- Walks: within, isID, id, Right of an amount, sharesValid. -/
import Derived.Test.YtdbanekjjibpbaaOdPlain
import Derived.Deep.QuietTactic
import Derived.BigQuiet
namespace Go.Proofs.Ytdbanekjjibpbaa
open Go.RowKit

theorem owin_any (n lo hi : Int) (w : World) : Calls Try.prog 36 #[.int .i64 n, .int .i64 lo, .int .i64 hi] w fun e w' => e = .returned (.bool (winB n lo hi)) ∧ w = w' := by
  go_enter Try.func36, Try.ntmps36
  by_cases h : lo ≤ n
  · go_wp2
    go_ret
    exact ⟨ret_bool (by simp [winB, h]), rfl⟩
  · go_wp2
    go_ret
    exact ⟨ret_bool (by simp [winB]; omega), rfl⟩
theorem oid_any (n : Int) (w : World) : Calls Try.prog 48 #[.int .i64 n] w fun e w' => e = .returned (.bool (oidB n)) ∧ w = w' := by
  go_enter Try.func48, Try.ntmps48
  go_wp2_with (go_at_call 36; refine (owin_any _ _ _ _).mono ?_; rintro e w' ⟨rfl, rfl⟩)
  go_ret
  exact ⟨rfl, rfl⟩
theorem rid39_any (n : Int) (w : World) : Calls Try.prog 50 #[.int .i64 n] w fun e w' => e = .returned (.bool (oidB n)) ∧ w = w' := by
  go_enter Try.func50, Try.ntmps50
  by_cases h : 1 ≤ n
  · go_wp2
    go_ret
    exact ⟨ret_bool (by simp [oidB, winB, h]), rfl⟩
  · go_wp2
    go_ret
    exact ⟨ret_bool (by simp [oidB, winB]; omega), rfl⟩
theorem r04right_any (n : Int) (w : World) : Calls Try.prog 39 #[.int .i64 n] w fun e w' => e = .returned (.bool (winB n 0 100000000)) ∧ w = w' := by
  go_enter Try.func39, Try.ntmps39
  by_cases h : 0 ≤ n
  · go_wp2
    go_ret
    exact ⟨ret_bool (by simp [winB, h]), rfl⟩
  · go_wp2
    go_ret
    exact ⟨ret_bool (by simp [winB]; omega), rfl⟩
theorem sv1_any (x y : Sh) (a : Nat) (w : World) (ha : a < w.heap.size) (hc : w.cell? ⟨a, 0, none⟩ = some (.int .i64 y.fund)) :
    Calls Try.prog 53 #[shV x, .pointer (some ⟨a, 0, none⟩)] w fun e w' => e = .returned (.bool (x.fund == y.fund)) ∧ Below w.heap.size w w' := by
  unfold shV
  go_enter Try.func53, Try.ntmps53
  go_wp2
  go_ret
  exact ⟨rfl, (Below.refl _ _).alloc (Nat.le_refl _) _⟩
theorem e_sv1 : ∀ args w, (callFunc 53 args).run Try.prog w = .ok (.enter 53 args) w := enters_of Try.func53 (by kernel_rfl) rfl

set_option maxRecDepth 100000 in
set_option maxHeartbeats 2000000 in
theorem sv_any (A : Option Addr) (n c : Nat) (xs : List Sh) (w : World) (hs : Shs w w.heap.size A n c xs) :
    Calls Try.prog 49 #[.slice A n c] w fun e w' => e = .returned (.bool (sharesV xs)) ∧ Below w.heap.size w w' := by
  obtain rfl := hs.len
  have hle := hs.le
  have hbig := hs.big
  have HS := hide hs
  clear hs
  have H1 := hide (fun W => owin_any xs.length 1 4 W)
  cases hl : lenB xs with
  | false =>
    have hr : sharesV xs = false := by unfold sharesV; rw [hl]; rfl
    rw [hr]
    unfold lenB at hl
    rw [hl] at H1
    clear hl hr
    go_enter Try.func49, Try.ntmps49
    go_wp2_with (go_at_call 36; refine (H1.out _).mono ?_; rintro e w' ⟨rfl, rfl⟩)
    go_ret
    exact ⟨rfl, Below.refl _ _⟩
  | true =>
    have hr : sharesV xs = shsOk [] xs := by unfold sharesV; rw [hl]; rfl
    have HR := hide hr
    unfold lenB at hl
    rw [hl] at H1
    clear hl hr
    go_enter Try.func49, Try.ntmps49
    go_wp2_with (go_at_call 36; refine (H1.out _).mono ?_; rintro e w' ⟨rfl, rfl⟩)
    go_loopw [11] (fun i wr => ∃ k : Nat, k ≤ xs.length ∧ i = .int .i64 k ∧ Below w.heap.size w wr ∧ shsOk [] xs = shsOk (xs.take k) (xs.drop k)) (fun i _ => xs.length - (intOf i).toNat)
    case atStart => exact ⟨0, Nat.zero_le _, rfl, Below.refl _ _, rfl⟩
    case round =>
      obtain ⟨k, hk, rfl, hb, ha⟩ := hrel
      have HA := hide ha
      have HB := hide hb
      have hz := hb.size
      clear ha hb
      by_cases hlt : k < xs.length
      · have hsk := (HS.out.below HB.out).take hk
        obtain ⟨b, off, x, hA, hbB, hx, c0, c1⟩ := Shs_at (HS.out.below HB.out) hlt
        have hst := shsOk_step hx
        have hbw := HB.out.alloc hz (.cells (shC x) 48)
        have HBW := hide hbw
        have I1 := hide (fun W => oid_any x.fund W)
        have I2 := hide (fun W => owin_any x.weight 1 100 W)
        have I3 := hide (sh_containsFunc 53 #[.pointer (some ⟨wr.heap.size, 0, none⟩)] (fun y => y.fund == x.fund) e_sv1 A k c (xs.take k) (wr.alloc (.cells (shC x) 48)) ((hsk.alloc hz _).more (by simp; omega))
          (fun W y _ hb => sv1_any y x wr.heap.size W (by have := hb.size; simp at this; omega) ((hb.cell (p := ⟨wr.heap.size, 0, none⟩) (by simp)).trans (by simp [go_sem]))))
        have HA' := HA.out
        rw [hst] at HA'
        generalize oidB x.fund = q1 at I1 HA'
        generalize winB x.weight 1 100 = q2 at I2 HA'
        generalize decide (0 ≤ ix (fun y => y.fund == x.fund) (xs.take k)) = q3 at I3 HA'
        have HX := hide HA'
        subst hA
        clear hx hst HA' HA hsk hbw
        cases q1 with
        | false =>
          go_wp2_with (first | (go_at_call 48; refine (I1.out _).mono ?_; rintro e w' ⟨rfl, rfl⟩) | (go_at_call 36; refine (I2.out _).mono ?_; rintro e w' ⟨rfl, rfl⟩))
          go_ret
          exact ⟨ret_bool (by rw [HR.out, HX.out]; simp), HBW.out⟩
        | true =>
          cases q2 with
          | false =>
            go_wp2_with (first | (go_at_call 48; refine (I1.out _).mono ?_; rintro e w' ⟨rfl, rfl⟩) | (go_at_call 36; refine (I2.out _).mono ?_; rintro e w' ⟨rfl, rfl⟩))
            go_ret
            exact ⟨ret_bool (by rw [HR.out, HX.out]; simp), HBW.out⟩
          | true =>
            cases q3 with
            | true =>
              go_wp2_with (first | (go_at_call 48; refine (I1.out _).mono ?_; rintro e w' ⟨rfl, rfl⟩) | (go_at_call 36; refine (I2.out _).mono ?_; rintro e w' ⟨rfl, rfl⟩) | (go_at_call 52; refine I3.out.mono ?_; rintro e w' ⟨rfl, hb3⟩))
              go_ret
              exact ⟨ret_bool (by rw [HR.out, HX.out]; simp), HBW.out.trans (hb3.mono (by simp; omega))⟩
            | false =>
              go_wp2_with (first | (go_at_call 48; refine (I1.out _).mono ?_; rintro e w' ⟨rfl, rfl⟩) | (go_at_call 36; refine (I2.out _).mono ?_; rintro e w' ⟨rfl, rfl⟩) | (go_at_call 52; refine I3.out.mono ?_; rintro e w' ⟨rfl, hb3⟩))
              go_roundw
              case rel => exact ⟨k + 1, by omega, by go_num, HBW.out.trans (hb3.mono (by simp; omega)), by rw [HX.out]; simp⟩
              case measure => simp [intOf]; omega
      · obtain rfl : k = xs.length := by omega
        go_wp2
        go_ret
        exact ⟨ret_bool (by rw [HR.out, HA.out, List.drop_length]; rfl), HB.out⟩
end Go.Proofs.Ytdbanekjjibpbaa
