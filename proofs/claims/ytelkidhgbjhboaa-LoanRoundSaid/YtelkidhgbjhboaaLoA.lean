/- Walks: the small functions of loan and its reference: id, day, of, first, Find, At. -/
import Derived.Test.YtelkidhgbjhboaaLoPlain
import Derived.Deep.QuietTactic
import Derived.BigQuiet
namespace Go.Proofs.Ytelkidhgbjhboaa
open Go.RowKit

theorem lid_any (n : Int) (w : World) : Calls Try.prog 31 #[.int .i64 n] w fun e w' => e = .returned (.bool (idB n)) ∧ w = w' := by
  go_enter Try.func31, Try.ntmps31
  by_cases h : 1 ≤ n
  · go_wp2
    go_ret
    exact ⟨ret_bool (by simp [idB, h]), rfl⟩
  · go_wp2
    go_ret
    exact ⟨ret_bool (by simp [idB]; omega), rfl⟩
theorem lday_any (n : Int) (w : World) : Calls Try.prog 32 #[.int .i64 n] w fun e w' => e = .returned (.bool (dayB n)) ∧ w = w' := by
  go_enter Try.func32, Try.ntmps32
  by_cases h : 0 ≤ n
  · go_wp2
    go_ret
    exact ⟨ret_bool (by simp [dayB, h]), rfl⟩
  · go_wp2
    go_ret
    exact ⟨ret_bool (by simp [dayB]; omega), rfl⟩

theorem of1_any (x : Lo) (item : Int) (a : Nat) (w : World) (ha : a < w.heap.size) (hc : w.cell? ⟨a, 0, none⟩ = some (.int .i64 item)) :
    Calls Try.prog 44 #[loV x, .pointer (some ⟨a, 0, none⟩)] w fun e w' => e = .returned (.bool (x.item == item)) ∧ Below w.heap.size w w' := by
  unfold loV
  go_enter Try.func44, Try.ntmps44
  go_wp2
  go_ret
  exact ⟨rfl, (Below.refl _ _).alloc (Nat.le_refl _) _⟩
theorem out1_any (x : Lo) (item : Int) (a : Nat) (w : World) (ha : a < w.heap.size) (hc : w.cell? ⟨a, 0, none⟩ = some (.int .i64 item)) :
    Calls Try.prog 35 #[loV x, .pointer (some ⟨a, 0, none⟩)] w fun e w' => e = .returned (.bool (decide (item < x.item))) ∧ Below w.heap.size w w' := by
  unfold loV
  go_enter Try.func35, Try.ntmps35
  go_wp2
  go_ret
  exact ⟨rfl, (Below.refl _ _).alloc (Nat.le_refl _) _⟩
theorem e_of1 : ∀ args w, (callFunc 44 args).run Try.prog w = .ok (.enter 44 args) w := enters_of Try.func44 (by kernel_rfl) rfl
theorem e_out1 : ∀ args w, (callFunc 35 args).run Try.prog w = .ok (.enter 35 args) w := enters_of Try.func35 (by kernel_rfl) rfl

/-- of: a function value that has captured a block of its own. -/
theorem of_any (item : Int) (w : World) : Calls Try.prog 34 #[.int .i64 item] w fun e w' =>
    e = .returned (.func (.func 44) #[] #[.pointer (some ⟨w.heap.size, 0, none⟩)]) ∧ w' = w.alloc (.cells #[.int .i64 item] 3) := by
  go_enter Try.func34, Try.ntmps34
  go_wp2
  go_ret
  exact ⟨rfl, rfl⟩

set_option maxHeartbeats 400000 in
theorem first_any (g : Nat) (lb : Array Value) (p : Lo → Bool) (eg : ∀ args w, (callFunc g args).run Try.prog w = .ok (.enter g args) w)
    (A : Option Addr) (n c : Nat) (xs : List Lo) (w : World) (hs : Los w w.heap.size A n c xs)
    (hp : ∀ W x, x ∈ xs → Below w.heap.size w W → Calls Try.prog g (#[loV x] ++ lb) W fun e w' => e = .returned (.bool (p x)) ∧ Below W.heap.size W w') :
    Calls Try.prog 33 #[.slice A n c, .func (.func g) #[] lb] w fun e w' => e = .returned (.tuple #[loV (fstF p xs).1, .int .i64 (fstF p xs).2]) ∧ Below w.heap.size w w' := by
  have hle := hs.le
  have hbig := hs.big
  have HS := hide hs
  have hi := fun o => lo_indexFunc g lb p eg A n c xs (w.alloc o) ((hs.alloc (Nat.le_refl _) o).more (by simp)) (fun W x hx hb => hp W x hx (below_call hb))
  clear hp hs
  rcases fst_cases p xs with ⟨h1, h2, _⟩ | ⟨i, x, h1, h2, h3, h4, _⟩
  · rw [h1] at hi
    rw [h2]
    have HI := hide hi
    clear hi h1 h2
    go_enter Try.func33, Try.ntmps33
    go_wp2_with fail
    refine (HI.out _).mono ?_
    rintro e w1 ⟨rfl, hb⟩
    obtain ⟨hc, hf⟩ := bcell hb
    have hz : w.heap.size < w1.heap.size := by have := hb.size; simp at this; omega
    go_wp2
    have hal : ∀ (W : World) (o : Obj) (j : Nat), w.heap.size < W.heap.size → (W.alloc o).cell? ⟨w.heap.size, j, none⟩ = W.cell? ⟨w.heap.size, j, none⟩ := fun W o j h => World.cell?_alloc_lt W o _ h
    refine bodyPost_ret (v := .tuple #[loV lo0, .int .i64 (-1)]) (by simp [results, Try.results33, go_sem, hc, hal, hz, loV, lo0]) rfl ⟨rfl, ?_⟩
    exact (below_lo (below_call hb) (Nat.le_refl _) _ _ _ _ _ _).alloc (by simp; omega) _
  · rw [h1] at hi
    rw [h4]
    have HI := hide hi
    have hi : i < n := by have := (List.getElem?_eq_some_iff.1 h2).1; have := HS.out.len; omega
    obtain ⟨b, off, y, rfl, hbB, hy, c0, c1, c2, c3, c4, c5⟩ := Los_at HS.out hi
    obtain rfl : x = y := by rw [hy] at h2; exact (Option.some.inj h2).symm
    clear h1 h2 hy h4 h3
    go_enter Try.func33, Try.ntmps33
    go_wp2_with fail
    refine (HI.out _).mono ?_
    rintro e w1 ⟨rfl, hb⟩
    obtain ⟨hc, hf⟩ := bcell hb
    have hz : w.heap.size < w1.heap.size := by have := hb.size; simp at this; omega
    have hcc : ∀ o, w1.cell? ⟨b, o, none⟩ = w.cell? ⟨b, o, none⟩ := fun o => by
      rw [hc b o (by simp; omega)]; exact World.cell?_alloc_lt w _ _ hbB
    rw [← hcc] at c0 c1 c2 c3 c4 c5
    go_wp2
    refine bodyPost_ret (v := .tuple #[loV x, .int .i64 i]) (by simp [results, Try.results33, go_sem, hc, loV]) rfl ⟨rfl, ?_⟩
    exact below_lo (below_call hb) (Nat.le_refl _) _ _ _ _ _ _

/-- first with of's function. -/
theorem firstOf_any (item : Int) (a : Nat) (A : Option Addr) (n c : Nat) (xs : List Lo) (w : World) (hs : Los w w.heap.size A n c xs) (ha : a < w.heap.size) (hc : w.cell? ⟨a, 0, none⟩ = some (.int .i64 item)) :
    Calls Try.prog 33 #[.slice A n c, .func (.func 44) #[] #[.pointer (some ⟨a, 0, none⟩)]] w fun e w' =>
      e = .returned (.tuple #[loV (fstF (fun x => x.item == item) xs).1, .int .i64 (fstF (fun x => x.item == item) xs).2]) ∧ Below w.heap.size w w' :=
  first_any 44 _ (fun x => x.item == item) e_of1 A n c xs w hs (fun W x _ hb => of1_any x item a W (by have := hb.size; omega) ((hb.cell (p := ⟨a, 0, none⟩) ha).trans hc))

set_option maxHeartbeats 400000 in
theorem lat_any (A : Option Addr) (n c : Nat) (xs : List Lo) (item : Int) (w : World) (B : Nat) (hs : Los w B A n c xs) :
    Calls Try.prog 39 #[.slice A n c, .int .i64 item] w fun e w' => e = .returned (.int .i64 (atL xs item)) ∧ w = w' := by
  have hle := hs.le
  have hbig := hs.big
  go_enter Try.func39, Try.ntmps39
  go_wp2
  go_loop [5] (fun i => ∃ k : Nat, k ≤ n ∧ i = .int .i64 k ∧ atL xs item = idxP (fun x => x.item == item) (xs.drop k) k) (fun i => n - (intOf i).toNat)
  case atStart => exact ⟨0, Nat.zero_le _, rfl, rfl⟩
  case round =>
    obtain ⟨k, hk, rfl, ha⟩ := hrel
    have HA := hide ha
    clear ha
    by_cases hlt : k < n
    · obtain ⟨b, off, x, rfl, hb, hx, c0, c1, c2, c3, c4, c5⟩ := Los_at hs hlt
      have HX := hide (idxP_step (p := fun x => x.item == item) hx)
      clear hx c1 c2 c3 c4 c5
      go_wp2
      · go_ret
        exact ⟨ret_int (by rw [HA.out, HX.out, if_pos ‹(x.item == item) = true›]), rfl⟩
      · go_round
        case rel => exact ⟨k + 1, by omega, by go_num, by rw [HA.out, HX.out, if_neg (by simpa using ‹(x.item == item) = false›)]⟩
        case measure => simp [intOf]; omega
    · go_wp2
      go_ret
      exact ⟨ret_int (by rw [HA.out, idxP_end (by have := hs.len; omega)]), rfl⟩
end Go.Proofs.Ytelkidhgbjhboaa
