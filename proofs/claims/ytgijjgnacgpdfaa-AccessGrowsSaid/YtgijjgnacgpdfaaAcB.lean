/- Walks: Right of the reference, Level, Opens, Contains, has, May. -/
import Derived.Test.YtgijjgnacgpdfaaAcA
namespace Go.Proofs.Ytgijjgnacgpdfaa
open Go.RowKit

set_option maxHeartbeats 1000000 in
theorem rright_any (r : Rg) (w : World) :
    Calls Try.prog 11 #[rgV r] w fun e w' => e = .returned (.int .i64 (rgE r)) ∧ Below w.heap.size w w' := by
  have hb0 := fun o => (Below.refl w.heap.size w).alloc (Nat.le_refl _) o
  have HB := hide hb0
  clear hb0
  unfold rgV
  go_enter Try.func11, Try.ntmps11
  go_wp2_with (go_at_call 22; refine (level_any _ _).mono ?_; rintro e w' ⟨rfl, rfl⟩)
  all_goals go_ret
  all_goals refine ⟨ret_int ?_, HB.out _⟩
  all_goals unfold rgE wiB
  all_goals simp_all [wiB]
  all_goals try omega

theorem alevel_any (r : Rg) (day : Int) (w : World) :
    Calls Try.prog 15 #[rgV r, .int .i64 day] w fun e w' => e = .returned (.int .i64 (lvF r day)) ∧ Below w.heap.size w w' := by
  have hb0 := fun o => (Below.refl w.heap.size w).alloc (Nat.le_refl _) o
  have HB := hide hb0
  clear hb0
  unfold rgV
  go_enter Try.func15, Try.ntmps15
  go_wp2
  all_goals go_ret
  all_goals refine ⟨ret_int ?_, HB.out _⟩
  all_goals unfold lvF
  all_goals simp_all
  all_goals try omega
theorem rlevel_any (r : Rg) (day : Int) (w : World) :
    Calls Try.prog 16 #[rgV r, .int .i64 day] w fun e w' => e = .returned (.int .i64 (lvF r day)) ∧ Below w.heap.size w w' := by
  have hb0 := fun o => (Below.refl w.heap.size w).alloc (Nat.le_refl _) o
  have HB := hide hb0
  clear hb0
  unfold rgV
  go_enter Try.func16, Try.ntmps16
  go_wp2
  all_goals go_ret
  all_goals refine ⟨ret_int ?_, HB.out _⟩
  all_goals unfold lvF
  all_goals simp_all
  all_goals try omega

theorem aopens_any (r : Rg) (w : World) :
    Calls Try.prog 13 #[rgV r] w fun e w' => e = .returned (.tuple #[.int .i64 (opnF r).1, .bool (opnF r).2]) ∧ Below w.heap.size w w' := by
  have hb0 := fun o => (Below.refl w.heap.size w).alloc (Nat.le_refl _) o
  have HB := hide hb0
  clear hb0
  obtain ⟨lv, gr, un, th⟩ := r
  unfold rgV
  simp only
  by_cases h1 : lv = 1
  · subst h1
    by_cases h2 : un = 0
    · subst h2
      go_enter Try.func13, Try.ntmps13
      go_wp2
      go_quiet (fail)
      go_wp2
      go_ret2
      exact ⟨rfl, below_drewN (HB.out _) _⟩
    · have hd : (un == 0) = false := by simpa using h2
      have H2 := hide h2
      clear h2
      go_enter Try.func13, Try.ntmps13
      go_wp2
      go_quiet (fail)
      go_wp2
      go_ret2
      exact ⟨by simp [opnF, H2.out], below_drewN (HB.out _) _⟩
  · have hd : (lv == 1) = false := by simpa using h1
    have H1 := hide h1
    clear h1
    by_cases h3 : th = 1
    · have hd3 : (th == 1) = true := by simpa using h3
      have H3 := hide h3
      clear h3
      go_enter Try.func13, Try.ntmps13
      go_wp2
      go_ret2
      exact ⟨by simp [opnF, H1.out, H3.out], HB.out _⟩
    · have hd3 : (th == 1) = false := by simpa using h3
      have H3 := hide h3
      clear h3
      go_enter Try.func13, Try.ntmps13
      go_wp2
      go_ret2
      exact ⟨by simp [opnF, H1.out, H3.out], HB.out _⟩

theorem ropens_any (r : Rg) (w : World) :
    Calls Try.prog 14 #[rgV r] w fun e w' => e = .returned (.tuple #[.int .i64 (opnF r).1, .bool (opnF r).2]) ∧ Below w.heap.size w w' := by
  rw [opn_eq]
  have hb0 := fun o => (Below.refl w.heap.size w).alloc (Nat.le_refl _) o
  have HB := hide hb0
  clear hb0
  unfold rgV
  go_enter Try.func14, Try.ntmps14
  go_wp2
  all_goals go_ret2
  all_goals refine ⟨?_, HB.out _⟩
  all_goals unfold opnR
  all_goals simp_all
  all_goals try omega

def inE (n : Int) : List Value := [.int .i64 n]
theorem inE_len (n : Int) : (inE n).length = 1 := rfl
abbrev Is (w : World) (B : Nat) (A : Option Addr) (n c : Nat) (xs : List Int) : Prop := Sl inE 1 w B A n c xs
theorem Is_at {w : World} {B : Nat} {A : Option Addr} {n c : Nat} {xs : List Int} (h : Is w B A n c xs) {k : Nat} (hk : k < n) :
    ∃ b off x, A = some ⟨b, off, none⟩ ∧ b < B ∧ xs[k]? = some x ∧ w.cell? ⟨b, off + k, none⟩ = some (.int .i64 x) := by
  obtain ⟨b, off, x, hA, hb, hx, hc⟩ := h.at_ hk
  exact ⟨b, off, x, hA, hb, hx, by simpa using hc 0 _ rfl⟩
theorem any_step {α : Type} {p : α → Bool} {xs : List α} {k : Nat} {x : α} (h : xs[k]? = some x) : (xs.drop k).any p = (p x || (xs.drop (k + 1)).any p) := by
  obtain ⟨hk, rfl⟩ := List.getElem?_eq_some_iff.1 h
  rw [List.drop_eq_getElem_cons hk, List.any_cons]

/-- Whether a number is in a list. -/
def hasF (xs : List Int) (v : Int) : Bool := xs.any (fun x => x == v)

theorem has_any (A : Option Addr) (n c : Nat) (xs : List Int) (v : Int) (w : World) (B : Nat) (hs : Is w B A n c xs) :
    Calls Try.prog 24 #[.slice A n c, .int .i64 v] w fun e w' => e = .returned (.bool (hasF xs v)) ∧ w = w' := by
  have hbig := hs.big
  go_enter Try.func24, Try.ntmps24
  go_wp2
  go_loop [5] (fun i => ∃ k : Nat, k ≤ n ∧ i = .int .i64 k ∧ hasF xs v = (xs.drop k).any (fun x => x == v)) (fun i => n - (intOf i).toNat)
  case atStart => exact ⟨0, Nat.zero_le _, rfl, rfl⟩
  case round =>
    obtain ⟨k, hk, rfl, ha⟩ := hrel
    have HA := hide ha
    clear ha
    by_cases hlt : k < n
    · obtain ⟨b, off, x, rfl, hb, hx, c0⟩ := Is_at hs hlt
      have HX := hide (any_step (p := fun x => x == v) hx)
      clear hx
      go_wp2
      · go_ret
        exact ⟨ret_bool (by rw [HA.out, HX.out, ‹(x == v) = true›]; rfl), rfl⟩
      · go_round
        case rel => exact ⟨k + 1, by omega, by go_num, by rw [HA.out, HX.out, ‹(x == v) = false›]; rfl⟩
        case measure => simp [intOf]; omega
    · go_wp2
      go_ret
      exact ⟨ret_bool (by rw [HA.out, List.drop_eq_nil_of_le (by have := hs.len; omega)]; rfl), rfl⟩

theorem index_any (A : Option Addr) (n c : Nat) (xs : List Int) (v : Int) (w : World) (B : Nat) (hs : Is w B A n c xs) :
    Calls Try.prog 27 #[.slice A n c, .int .i64 v] w fun e w' => (∃ i : Int, e = .returned (.int .i64 i) ∧ decide (0 ≤ i) = hasF xs v) ∧ w = w' := by
  have hbig := hs.big
  go_enter Try.func27, Try.ntmps27
  go_wp2
  go_loop [5, 8] (fun _ i => ∃ k : Nat, k ≤ n ∧ i = .int .i64 k ∧ hasF xs v = (xs.drop k).any (fun x => x == v)) (fun _ i => n - (intOf i).toNat)
  case atStart => exact ⟨0, Nat.zero_le _, rfl, rfl⟩
  case round =>
    obtain ⟨k, hk, rfl, ha⟩ := hrel
    have HA := hide ha
    clear ha
    by_cases hlt : k < n
    · obtain ⟨b, off, x, rfl, hb, hx, c0⟩ := Is_at hs hlt
      have HX := hide (any_step (p := fun x => x == v) hx)
      clear hx
      by_cases hv : v = x
      · have hvx : (v == x) = true := by simpa using hv
        have HV := hide hv
        clear hv
        go_wp2
        go_ret
        exact ⟨⟨_, rfl, by rw [HA.out, HX.out]; simp [HV.out]⟩, rfl⟩
      · have hvx : (v == x) = false := by simpa using hv
        have HV := hide hv
        clear hv
        go_wp2
        go_round
        case rel => exact ⟨k + 1, by omega, by go_num, by rw [HA.out, HX.out, show (x == v) = false from by simp; exact fun h => HV.out h.symm]; rfl⟩
        case measure => simp [intOf]; omega
    · go_wp2
      go_ret
      exact ⟨⟨_, rfl, by rw [HA.out, List.drop_eq_nil_of_le (by have := hs.len; omega)]; rfl⟩, rfl⟩

theorem contains_any (A : Option Addr) (n c : Nat) (xs : List Int) (v : Int) (w : World) (B : Nat) (hs : Is w B A n c xs) :
    Calls Try.prog 23 #[.slice A n c, .int .i64 v] w fun e w' => e = .returned (.bool (hasF xs v)) ∧ w = w' := by
  have hi := index_any A n c xs v w B hs
  have HI := hide hi
  clear hi hs
  go_enter Try.func23, Try.ntmps23
  go_wp2_with fail
  refine HI.out.mono ?_
  rintro e w1 ⟨⟨i, rfl, hd⟩, rfl⟩
  have HD := hide hd
  clear hd
  go_wp2
  go_ret
  exact ⟨ret_bool HD.out, rfl⟩
end Go.Proofs.Ytgijjgnacgpdfaa
