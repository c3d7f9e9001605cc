/- Walks: the small functions of fund, its reference and money. -/
import Derived.Test.YtbcapljiangjcaaFuPlain
import Derived.Test.YtbcapljiangjcaaProg
import Derived.Test.YtbcapljiangjcaaMap
import Derived.Shelf.Abstract
import Derived.Deep.QuietTactic
import Derived.BigQuiet
namespace Go.Proofs.Ytbcapljiangjcaa
open Go.RowKit

theorem amount_any (n : Int) (w : World) :
    Calls Try.prog 45 #[.int .i64 n] w fun e w' => e = .returned (.bool (mny n)) ∧ w = w' := by
  go_enter Try.func45, Try.ntmps45
  by_cases h : 0 ≤ n
  · go_wp2
    go_ret
    exact ⟨ret_bool (by simp [mny, h]), rfl⟩
  · go_wp2
    go_ret
    exact ⟨ret_bool (by simp [mny]; omega), rfl⟩

theorem mright_any (n : Int) (w : World) :
    Calls Try.prog 47 #[.int .i64 n] w fun e w' => e = .returned (.bool (mny n)) ∧ w = w' := by
  go_enter Try.func47, Try.ntmps47
  by_cases h : 0 ≤ n
  · go_wp2
    go_ret
    exact ⟨ret_bool (by simp [mny, h]), rfl⟩
  · go_wp2
    go_ret
    exact ⟨ret_bool (by simp [mny]; omega), rfl⟩

set_option maxHeartbeats 400000 in
theorem at_any (A : Option Addr) (n c : Nat) (xs : List Fu) (id : Int) (w : World) (B : Nat) (hs : Fs w B A n c xs) :
    Calls Try.prog 38 #[.slice A n c, .int .i64 id] w fun e w' => e = .returned (.int .i64 (atF xs id)) ∧ w = w' := by
  have hle := hs.le
  have hbig := hs.big
  go_enter Try.func38, Try.ntmps38
  go_wp2
  go_loop [5] (fun i => ∃ k : Nat, k ≤ n ∧ i = .int .i64 k ∧ atF xs id = idxP (fun x => x.id == id) (xs.drop k) k) (fun i => n - (intOf i).toNat)
  case atStart => exact ⟨0, Nat.zero_le _, rfl, rfl⟩
  case round =>
    obtain ⟨k, hk, rfl, ha⟩ := hrel
    have HA := hide ha
    clear ha
    by_cases hlt : k < n
    · obtain ⟨b, off, x, rfl, hb, hx, c0, c1, c2, c3, c4⟩ := Fs_at hs hlt
      have HX := hide (idxP_step (p := fun x => x.id == id) hx)
      clear hx c1 c2 c3 c4
      go_wp2
      · go_ret
        exact ⟨ret_int (by rw [HA.out, HX.out, if_pos ‹(x.id == id) = true›]), rfl⟩
      · go_round
        case rel => exact ⟨k + 1, by omega, by go_num, by rw [HA.out, HX.out, if_neg (by simpa using ‹(x.id == id) = false›)]⟩
        case measure => simp [intOf]; omega
    · go_wp2
      go_ret
      exact ⟨ret_int (by rw [HA.out, idxP_end (by have := hs.len; omega)]), rfl⟩

/-- free: no bound is asked; the sums wrap. -/
theorem free_any (x : Fu) (w : World) (h1 : 0 ≤ x.budget ∧ x.budget ≤ 100000000) (h2 : 0 ≤ x.enc ∧ x.enc ≤ 100000000) (h3 : 0 ≤ x.spent ∧ x.spent ≤ 100000000) :
    Calls Try.prog 39 #[fuV x] w fun e w' => e = .returned (.int .i64 (x.budget - x.enc - x.spent)) ∧ Below w.heap.size w w' := by
  obtain ⟨i, p, b, e, s⟩ := x
  simp only at h1 h2 h3
  unfold fuV
  go_enter Try.func39, Try.ntmps39
  go_wp2
  go_ret
  exact ⟨rfl, (Below.refl _ _).alloc (Nat.le_refl _) _⟩

theorem place1_any (x : Fu) (id : Int) (a : Nat) (w : World) (ha : a < w.heap.size) (hc : w.cell? ⟨a, 0, none⟩ = some (.int .i64 id)) :
    Calls Try.prog 58 #[fuV x, .pointer (some ⟨a, 0, none⟩)] w fun e w' => e = .returned (.bool (x.id == id)) ∧ Below w.heap.size w w' := by
  unfold fuV
  go_enter Try.func58, Try.ntmps58
  go_wp2
  go_ret
  exact ⟨rfl, (Below.refl _ _).alloc (Nat.le_refl _) _⟩

theorem e_place1 : ∀ args w, (callFunc 58 args).run Try.prog w = .ok (.enter 58 args) w := enters_of Try.func58 (by kernel_rfl) rfl
theorem e_right1 : ∀ args w, (callFunc 53 args).run Try.prog w = .ok (.enter 53 args) w := enters_of Try.func53 (by kernel_rfl) rfl
theorem e_add1 : ∀ args w, (callFunc 56 args).run Try.prog w = .ok (.enter 56 args) w := enters_of Try.func56 (by kernel_rfl) rfl

/-- slices.IndexFunc at funds: whatever predicate that lays only blocks of its own. -/
theorem indexFunc_any (g : Nat) (lb : Array Value) (p : Fu → Bool) (eg : ∀ args w, (callFunc g args).run Try.prog w = .ok (.enter g args) w)
    (A : Option Addr) (n c : Nat) (xs : List Fu) (w : World) (hs : Fs w w.heap.size A n c xs)
    (hp : ∀ W x, x ∈ xs → Below w.heap.size w W → Calls Try.prog g (#[fuV x] ++ lb) W fun e w' => e = .returned (.bool (p x)) ∧ Below W.heap.size W w') :
    Calls Try.prog 55 #[.slice A n c, .func (.func g) #[] lb] w fun e w' => e = .returned (.int .i64 (ix p xs)) ∧ Below w.heap.size w w' := by
  have hle := hs.le
  have hbig := hs.big
  have HP := hide hp
  clear hp
  go_enter Try.func55, Try.ntmps55
  go_wp2
  go_loopw [5, 8] (fun _ s8 wr => ∃ k : Nat, k ≤ n ∧ s8 = .int .i64 k ∧ Below w.heap.size w wr ∧ ix p xs = idxP p (xs.drop k) k) (fun _ s8 _ => n - (intOf s8).toNat)
  case atStart => exact ⟨0, Nat.zero_le _, rfl, Below.refl _ _, rfl⟩
  case round =>
    obtain ⟨k, hk, rfl, hb, ha⟩ := hrel
    have HA := hide ha
    have HB := hide hb
    clear ha hb
    by_cases hlt : k < n
    · obtain ⟨b, off, x, rfl, hbB, hx, c0, c1, c2, c3, c4⟩ := Fs_at (hs.below HB.out) hlt
      have HX := hide (idxP_step (p := p) hx)
      have hcall := HP.out wr x (List.mem_of_getElem? hx) HB.out
      have HS := hide hs
      clear hx hs
      unfold fuV at hcall
      generalize hq : p x = q at hcall
      have HQ := hide hq
      clear hq
      cases q with
      | true =>
        go_wp2_with (go_at_fn g; refine hcall.mono ?_; rintro e w' ⟨rfl, hb'⟩)
        go_ret
        exact ⟨ret_int (by rw [HA.out, HX.out, if_pos HQ.out]), HB.out.trans (hb'.mono HB.out.size)⟩
      | false =>
        go_wp2_with (go_at_fn g; refine hcall.mono ?_; rintro e w' ⟨rfl, hb'⟩)
        go_roundw
        case rel => exact ⟨k + 1, by omega, by go_num, HB.out.trans (hb'.mono HB.out.size), by rw [HA.out, HX.out, if_neg (by rw [HQ.out]; decide)]⟩
        case measure => simp [intOf]; omega
    · go_wp2
      go_ret
      exact ⟨ret_int (by rw [HA.out, idxP_end (by have := hs.len; omega)]), HB.out⟩

/-- slices.ContainsFunc at funds. -/
theorem containsFunc_any (g : Nat) (lb : Array Value) (p : Fu → Bool) (eg : ∀ args w, (callFunc g args).run Try.prog w = .ok (.enter g args) w)
    (A : Option Addr) (n c : Nat) (xs : List Fu) (w : World) (hs : Fs w w.heap.size A n c xs)
    (hp : ∀ W x, x ∈ xs → Below w.heap.size w W → Calls Try.prog g (#[fuV x] ++ lb) W fun e w' => e = .returned (.bool (p x)) ∧ Below W.heap.size W w') :
    Calls Try.prog 52 #[.slice A n c, .func (.func g) #[] lb] w fun e w' => e = .returned (.bool (decide (0 ≤ ix p xs))) ∧ Below w.heap.size w w' := by
  have HP := hide hp
  have HS := hide hs
  clear hp hs
  go_enter Try.func52, Try.ntmps52
  go_wp2_with (go_at_call 55; refine (indexFunc_any g lb p eg A n c xs _ HS.out HP.out).mono ?_; rintro e w' ⟨rfl, hb'⟩)
  go_ret
  exact ⟨rfl, hb'⟩

/-- place: the index of the fund with an ID, or -1. -/
theorem place_any (A : Option Addr) (n c : Nat) (xs : List Fu) (id : Int) (w : World) (hs : Fs w w.heap.size A n c xs) :
    Calls Try.prog 37 #[.slice A n c, .int .i64 id] w fun e w' => e = .returned (.int .i64 (atF xs id)) ∧ Below w.heap.size w w' := by
  have HS := hide hs
  clear hs
  go_enter Try.func37, Try.ntmps37
  go_wp2_with fail
  refine (indexFunc_any 58 _ (fun x => x.id == id) e_place1 A n c xs _ ((HS.out.alloc (Nat.le_refl _) _).more (by simp)) (fun W x _ hb => ?_)).mono ?_
  · exact place1_any x id w.heap.size W (by have := hb.size; simp at this; omega) ((hb.cell (p := ⟨w.heap.size, 0, none⟩) (by simp)).trans (by simp [go_sem]))
  rintro e w' ⟨rfl, hb'⟩
  go_wp2
  go_ret
  exact ⟨rfl, ((Below.refl _ _).alloc (Nat.le_refl _) _).trans (hb'.mono (by simp))⟩
end Go.Proofs.Ytbcapljiangjcaa
