/- A row of ints; Ints of the reference; slices.Index of ints. -/
import Derived.Test.YtgjhjabnnhhkbaaRow
import Derived.Test.YtgjhjabnnhhkbaaIdx
import Derived.Test.YtgjhjabnnhhkbaaProg
import Derived.Shelf.Abstract
import Derived.Deep.QuietTactic
import Derived.BigQuiet
namespace Go.Proofs.Ytgjhjabnnhhkbaa
open Go.RowKit

def inE (n : Int) : List Value := [.int .i64 n]
theorem inE_len (n : Int) : (inE n).length = 1 := rfl
theorem inE_one (x : Int) : ∀ u ∈ inE x, u.oneCell' = true := by
  intro u hu; simp only [inE, List.mem_cons, List.not_mem_nil, or_false] at hu; subst hu; rfl
abbrev Is (w : World) (B : Nat) (A : Option Addr) (n c : Nat) (xs : List Int) : Prop := Sl inE 1 w B A n c xs
theorem Is_at {w : World} {B : Nat} {A : Option Addr} {n c : Nat} {xs : List Int} (h : Is w B A n c xs) {k : Nat} (hk : k < n) :
    ∃ b off x, A = some ⟨b, off, none⟩ ∧ b < B ∧ xs[k]? = some x ∧ w.cell? ⟨b, off + k, none⟩ = some (.int .i64 x) := by
  obtain ⟨b, off, x, hA, hb, hx, hc⟩ := h.at_ hk
  exact ⟨b, off, x, hA, hb, hx, by simpa using hc 0 _ rfl⟩

theorem int_info : (Try.prog.info? 3).map (fun i => (i.zero, i.size, i.bytes)) = some (some (.int .i64 0), 1, 8) := by kernel_rfl
abbrev Ino (w : World) (B : Nat) (v : Value) (xs : List Int) : Prop := w.ownsRow B 3 1 v xs.length (xs.flatMap inE)
theorem Ino_sl {w : World} {B : Nat} {v : Value} {xs : List Int} (h : Ino w B v xs) (hn : xs.length ≤ 140737488355328) : ∃ A c, v = .slice A xs.length c ∧ Is w w.heap.size A xs.length c xs := by
  have h' := h
  rcases h.2 with ⟨rfl, h0⟩ | ⟨g, cap, _, rfl, _⟩
  · refine ⟨none, 0, by rw [h0], ?_⟩
    unfold Ino at h'
    rw [h0] at h' ⊢
    exact Sl.of_own inE_len h' h0 (by omega)
  · exact ⟨_, cap, rfl, Sl.of_own inE_len h' rfl hn⟩
theorem in_sl1 {w : World} {g : Nat} {x : Int} (h : Box w g 3 #[.int .i64 x]) : Is w (g + 1) (some ⟨g, 0, none⟩) 1 1 [x] :=
  Sl.of_box (t := 3) inE_len (xs := [x]) (show Box w g 3 (([x] : List Int).flatMap inE).toArray from h) rfl (Nat.le_refl _) (by omega)
set_option maxHeartbeats 1000000 in
theorem ints_any (A A' : Option Addr) (n c n' c' : Nat) (xs ys : List Int) (w : World) (hs : Is w w.heap.size A n c xs) (ht : Is w w.heap.size A' n' c' ys) :
    Calls Try.prog 15 #[.slice A n c, .slice A' n' c'] w fun e w' => e = .returned (.bool (decide (xs = ys))) ∧ Below w.heap.size w w' := by
  have hbig := hs.big
  have hbig' := ht.big
  have HS := hide hs
  have HT := hide ht
  clear hs ht
  by_cases hnn : n = n'
  · subst hnn
    go_enter Try.func15, Try.ntmps15
    go_wp2
    go_loopw [5] (fun i wr => ∃ k : Nat, k ≤ n ∧ i = .int .i64 k ∧ Below w.heap.size w wr ∧ xs.take k = ys.take k) (fun i _ => n - (intOf i).toNat)
    case atStart => exact ⟨0, Nat.zero_le _, rfl, Below.refl _ _, rfl⟩
    case round =>
      obtain ⟨k, hk, rfl, hb, ha⟩ := hrel
      have HA := hide ha
      have HB := hide hb
      clear ha hb
      by_cases hlt : k < n
      · obtain ⟨b, off, x, rfl, hbB, hx, c0⟩ := Is_at (HS.out.below HB.out) hlt
        obtain ⟨b', off', y, rfl, hbB', hy, d0⟩ := Is_at (HT.out.below HB.out) hlt
        have HX := hide hx
        have HY := hide hy
        clear hx hy
        have hkk : (k : Int) < (n : Int) := by omega
        by_cases hxy : x = y
        · subst hxy
          go_wp2_with fail
          go_quiet (fail)
          go_wp2
          go_roundw
          case rel =>
            refine ⟨k + 1, by omega, by go_num, below_drewN HB.out _, ?_⟩
            obtain ⟨h1, h2⟩ := List.getElem?_eq_some_iff.1 HX.out
            obtain ⟨h3, h4⟩ := List.getElem?_eq_some_iff.1 HY.out
            rw [List.take_succ_eq_append_getElem h1, List.take_succ_eq_append_getElem h3, HA.out, h2, h4]
          case measure => simp [intOf]; omega
        · have hd : (x != y) = true := by simpa using hxy
          have HXY := hide hxy
          clear hxy
          go_wp2_with fail
          go_quiet (fail)
          go_wp2
          go_ret
          refine ⟨ret_bool ?_, below_drewN HB.out _⟩
          have : xs ≠ ys := by
            intro e
            have h1 := HX.out
            rw [e, HY.out] at h1
            exact HXY.out (Option.some.inj h1).symm
          simp [this]
      · go_wp2
        go_ret
        refine ⟨ret_bool ?_, HB.out⟩
        have h1 := HS.out.len
        have h2 := HT.out.len
        have h3 := HA.out
        rw [List.take_of_length_le (by omega), List.take_of_length_le (by omega)] at h3
        simp [h3]
  · have hne : ((n : Int) == (n' : Int)) = false := by simp; omega
    go_enter Try.func15, Try.ntmps15
    go_wp2
    go_ret
    refine ⟨ret_bool ?_, Below.refl _ _⟩
    have : xs ≠ ys := by
      intro e; have h1 := HS.out.len; have h2 := HT.out.len; subst e; omega
    simp [this]

set_option maxHeartbeats 1000000 in
theorem index_any (A : Option Addr) (n c : Nat) (xs : List Int) (v : Int) (w : World) (B : Nat) (hs : Is w B A n c xs) :
    Calls Try.prog 44 #[.slice A n c, .int .i64 v] w fun e w' => e = .returned (.int .i64 (ix (fun y => v == y) xs)) ∧ w = w' := by
  have hle := hs.le
  have hbig := hs.big
  go_enter Try.func44, Try.ntmps44
  go_wp2
  go_loop [8] (fun i => ∃ k : Nat, k ≤ n ∧ i = .int .i64 k ∧ ix (fun y => v == y) xs = idxP (fun y => v == y) (xs.drop k) k) (fun i => n - (intOf i).toNat)
  case atStart => exact ⟨0, Nat.zero_le _, rfl, rfl⟩
  case round =>
    obtain ⟨k, hk, rfl, ha⟩ := hrel
    have HA := hide ha
    clear ha
    by_cases hlt : k < n
    · obtain ⟨b, off, x, rfl, hb, hx, c0⟩ := Is_at hs hlt
      have HX := hide (idxP_step (p := fun y => v == y) hx)
      clear hx
      by_cases hq : (v == x) = true
      · go_wp2
        go_ret
        exact ⟨ret_int (by rw [HA.out, HX.out, if_pos hq]), rfl⟩
      · have hq' : (v == x) = false := by simpa using hq
        have HN := hide hq
        clear hq
        go_wp2
        go_round
        case rel => exact ⟨k + 1, by omega, by go_num, by rw [HA.out, HX.out, if_neg HN.out]⟩
        case measure => simp [intOf]; omega
    · go_wp2
      go_ret
      exact ⟨ret_int (by rw [HA.out, idxP_end (by have := hs.len; omega)]), rfl⟩
end Go.Proofs.Ytgjhjabnnhhkbaa
