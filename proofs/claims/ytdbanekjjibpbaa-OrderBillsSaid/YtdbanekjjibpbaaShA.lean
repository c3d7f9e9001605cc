/- Walks: money.Share of valid weights. -/
import Derived.Test.YtdbanekjjibpbaaShPlain
import Derived.Deep.QuietTactic
import Derived.BigQuiet
namespace Go.Proofs.Ytdbanekjjibpbaa
open Go.RowKit

def inE (n : Int) : List Value := [.int .i64 n]
theorem inE_len (n : Int) : (inE n).length = 1 := rfl
theorem inE_one (x : Int) : ∀ u ∈ inE x, u.oneCell' = true := by
  intro u hu; simp only [inE, List.mem_cons, List.not_mem_nil, or_false] at hu; subst hu; rfl
abbrev Is (w : World) (B : Nat) (A : Option Addr) (n c : Nat) (xs : List Int) : Prop := Sl inE 1 w B A n c xs
theorem Is_at {w : World} {B : Nat} {A : Option Addr} {n c : Nat} {xs : List Int} (h : Is w B A n c xs) {k : Nat} (hk : k < n) :
    ∃ b off x, A = some ⟨b, off, none⟩ ∧ b < B ∧ xs[k]? = some x ∧ w.cell? ⟨b, off + k, none⟩ = some (.int .i64 x) := by
  obtain ⟨b, off, x, hA, hb, hx, hc⟩ := h.at_ hk
  exact ⟨b, off, x, hA, hb, hx, by simpa using hc 0 _ rfl⟩

def mnyS (n : Int) : Bool := decide (0 ≤ n) && decide (n ≤ 100000000)
theorem mrightS_any (n : Int) (w : World) :
    Calls Try.prog 37 #[.int .i64 n] w fun e w' => e = .returned (.bool (mnyS n)) ∧ w = w' := by
  go_enter Try.func37, Try.ntmps37
  by_cases h : 0 ≤ n
  · go_wp2
    go_ret
    exact ⟨ret_bool (by simp [mnyS, h]), rfl⟩
  · go_wp2
    go_ret
    exact ⟨ret_bool (by simp [mnyS]; omega), rfl⟩

/-- The comparing function of Share. -/
theorem share1_any (t S : Int) (ws : List Int) (b0 b1 b2 : Nat) (A : Option Addr) (n c : Nat) (x y : Int) (w : World) (h0 : w.cell? ⟨b0, 0, none⟩ = some (.int .i64 t)) (h1 : w.cell? ⟨b1, 0, none⟩ = some (.slice A n c)) (h2 : w.cell? ⟨b2, 0, none⟩ = some (.int .i64 S))
    (hs : Is w w.heap.size A n c ws) (ht : 0 ≤ t ∧ t ≤ 100000000) (hS : 1 ≤ S ∧ S ≤ 16000) (hw : ∀ x ∈ ws, 1 ≤ x ∧ x ≤ 1000) (hx : 0 ≤ x ∧ x < ws.length) (hy : 0 ≤ y ∧ y < ws.length) :
    Calls Try.prog 47 #[.int .i64 x, .int .i64 y, .pointer (some ⟨b0, 0, none⟩), .pointer (some ⟨b1, 0, none⟩), .pointer (some ⟨b2, 0, none⟩)] w fun e w' => e = .returned (.int .i64 (cfS t S ws x y)) ∧ ∃ q, w' = w.drewN q := by
  obtain rfl := hs.len
  obtain ⟨i, rfl⟩ := Int.eq_ofNat_of_zero_le hx.1
  obtain ⟨j, rfl⟩ := Int.eq_ofNat_of_zero_le hy.1
  have hi : i < ws.length := by omega
  have hj : j < ws.length := by omega
  obtain ⟨b, off, u, rfl, hb, hu, ci⟩ := Is_at hs hi
  obtain ⟨b', off', v, hA, hb', hv, cj⟩ := Is_at hs hj
  cases hA
  have hwu := hw u (List.mem_of_getElem? hu)
  have hwv := hw v (List.mem_of_getElem? hv)
  have e1 : remF t S ws (i : Int) = t * u % S := by unfold remF; rw [Int.toNat_natCast, List.getD_eq_getElem?_getD, hu]; rfl
  have e2 : remF t S ws (j : Int) = t * v % S := by unfold remF; rw [Int.toNat_natCast, List.getD_eq_getElem?_getD, hv]; rfl
  have e3 : cfS t S ws (i : Int) (j : Int) = t * v % S - t * u % S := by unfold cfS; rw [e1, e2]
  rw [e3]
  have p1 : 0 ≤ t * u ∧ t * u ≤ 100000000000 := ⟨Int.mul_nonneg ht.1 (by omega), by
    have := Int.mul_le_mul ht.2 hwu.2 (by omega) (by omega); omega⟩
  have p2 : 0 ≤ t * v ∧ t * v ≤ 100000000000 := ⟨Int.mul_nonneg ht.1 (by omega), by
    have := Int.mul_le_mul ht.2 hwv.2 (by omega) (by omega); omega⟩
  have w1 : IntKind.i64.wrap (t * u) = t * u := by rw [IntKind.wrap_i64]; omega
  have w2 : IntKind.i64.wrap (t * v) = t * v := by rw [IntKind.wrap_i64]; omega
  have m1 : (t * u).tmod S = t * u % S := Int.tmod_eq_emod_of_nonneg p1.1
  have m2 : (t * v).tmod S = t * v % S := Int.tmod_eq_emod_of_nonneg p2.1
  have r1 := Int.emod_nonneg (t * u) (show S ≠ 0 by omega)
  have r2 := Int.emod_lt_of_pos (t * u) (show 0 < S by omega)
  have r3 := Int.emod_nonneg (t * v) (show S ≠ 0 by omega)
  have r4 := Int.emod_lt_of_pos (t * v) (show 0 < S by omega)
  have w3 : IntKind.i64.wrap (t * u % S) = t * u % S := by rw [IntKind.wrap_i64]; omega
  have w4 : IntKind.i64.wrap (t * v % S) = t * v % S := by rw [IntKind.wrap_i64]; omega
  have w5 : IntKind.i64.wrap (t * v % S - t * u % S) = t * v % S - t * u % S := by rw [IntKind.wrap_i64]; omega
  have hS0 : ¬ S = 0 := by omega
  have hiz : (i : Int) < (ws.length : Int) := by omega
  have hjz : (j : Int) < (ws.length : Int) := by omega
  clear e1 e2 e3 hs hw hu hv hx hy hwu hwv p1 p2 r1 r2 r3 r4 ht hS
  go_enter Try.func47, Try.ntmps47
  go_wp2_with fail
  go_quiet (fail)
  go_wp2
  go_ret
  exact ⟨rfl, _, rfl⟩
end Go.Proofs.Ytdbanekjjibpbaa
