/- Dividing an amount by weights: what money.Share computes, as plain functions. No walk. -/
import Derived.Test.YtdbanekjjibpbaaSort
namespace Go.Proofs.Ytdbanekjjibpbaa

def baseF (t S : Int) (ws : List Int) : List Int := ws.map (fun w => t * w / S)
def remF (t S : Int) (ws : List Int) (i : Int) : Int := t * ws.getD i.toNat 0 % S
def cfS (t S : Int) (ws : List Int) (a b : Int) : Int := remF t S ws b - remF t S ws a
def rangeI (n : Nat) : List Int := (List.range n).map Int.ofNat
def ordF (t S : Int) (ws : List Int) : List Int := isort (cfS t S ws) (rangeI ws.length)
def leftF (t S : Int) (ws : List Int) : Int := t - (baseF t S ws).sum
def bump1 (ps : List Int) (i : Int) : List Int := ps.set i.toNat (ps.getD i.toNat 0 + 1)
def bump (ps : List Int) (is : List Int) : List Int := is.foldl bump1 ps
def shareF (t : Int) (ws : List Int) : List Int := bump (baseF t ws.sum ws) ((ordF t ws.sum ws).take (leftF t ws.sum ws).toNat)

/-- Weights that are valid, of an amount that is one. -/
structure WsV (t : Int) (ws : List Int) : Prop where
  t0 : 0 ≤ t
  t1 : t ≤ 100000000
  n0 : 1 ≤ ws.length
  n1 : ws.length ≤ 16
  w : ∀ x ∈ ws, 1 ≤ x ∧ x ≤ 1000

theorem sum_bd : ∀ {ws : List Int}, (∀ x ∈ ws, 1 ≤ x ∧ x ≤ 1000) → (ws.length : Int) ≤ ws.sum ∧ ws.sum ≤ 1000 * ws.length
  | [], _ => by simp
  | x :: r, h => by
    have h1 := h x (by simp)
    have h2 := sum_bd (ws := r) (fun y hy => h y (by simp [hy]))
    rw [List.sum_cons, List.length_cons]; omega
theorem sum_step {ws : List Int} {k : Nat} {x : Int} (h : ws[k]? = some x) : (ws.take (k + 1)).sum = (ws.take k).sum + x := by
  rw [take_step h, List.sum_append]; simp
theorem sum_take_bd {ws : List Int} (h : ∀ x ∈ ws, 1 ≤ x ∧ x ≤ 1000) (k : Nat) : 0 ≤ (ws.take k).sum ∧ (ws.take k).sum ≤ 1000 * ws.length := by
  have := sum_bd (ws := ws.take k) (fun y hy => h y (List.mem_of_mem_take hy))
  have hl : (ws.take k).length ≤ ws.length := by rw [List.length_take]; exact Nat.min_le_right _ _
  omega
theorem WsV.S {t : Int} {ws : List Int} (h : WsV t ws) : 1 ≤ ws.sum ∧ ws.sum ≤ 16000 := by
  have := sum_bd h.w
  have := h.n0
  have := h.n1
  omega
theorem baseF_step {t S : Int} {ws : List Int} {k : Nat} {x : Int} (h : ws[k]? = some x) : (baseF t S (ws.take (k + 1))).sum = (baseF t S (ws.take k)).sum + t * x / S := by
  unfold baseF
  rw [take_step h, List.map_append, List.sum_append]; simp

/-- What is left over is S times less than the remainders together. -/
theorem left_mul {t S : Int} (hS : 0 < S) : ∀ ws : List Int, t * ws.sum - S * (baseF t S ws).sum = (ws.map (fun w => t * w % S)).sum
  | [] => by simp [baseF]
  | x :: r => by
    have ih := left_mul (t := t) hS r
    have e : S * (t * x / S) + t * x % S = t * x := Int.mul_ediv_add_emod (t * x) S
    simp only [baseF, List.map_cons, List.sum_cons] at ih ⊢
    rw [Int.mul_add, Int.mul_add]
    omega
theorem rem_sum {t S : Int} (hS : 0 < S) : ∀ ws : List Int, 0 ≤ (ws.map (fun w => t * w % S)).sum ∧ (ws.map (fun w => t * w % S)).sum ≤ ws.length * (S - 1)
  | [] => by simp
  | x :: r => by
    have ih := rem_sum hS r (t := t)
    have h1 := Int.emod_nonneg (t * x) (show S ≠ 0 by omega)
    have h2 := Int.emod_lt_of_pos (t * x) hS
    simp only [List.map_cons, List.sum_cons, List.length_cons]
    push_cast
    rw [Int.add_mul]
    omega
theorem left_bd {t : Int} {ws : List Int} (h : WsV t ws) : 0 ≤ leftF t ws.sum ws ∧ leftF t ws.sum ws < ws.length := by
  obtain ⟨s1, s2⟩ := h.S
  have h1 := left_mul (t := t) (S := ws.sum) (by omega) ws
  have h2 := rem_sum (t := t) (S := ws.sum) (by omega) ws
  have e : t * ws.sum - ws.sum * (baseF t ws.sum ws).sum = ws.sum * leftF t ws.sum ws := by unfold leftF; rw [Int.mul_sub, Int.mul_comm t]
  rw [e] at h1
  rw [← h1] at h2
  obtain ⟨h3, h4⟩ := h2
  have hn := h.n0
  constructor
  · by_cases hneg : leftF t ws.sum ws < 0
    · have : ws.sum * leftF t ws.sum ws < 0 := Int.mul_neg_of_pos_of_neg (by omega) hneg
      omega
    · omega
  · by_cases hge : (ws.length : Int) ≤ leftF t ws.sum ws
    · have h5 : ws.sum * (ws.length : Int) ≤ ws.sum * leftF t ws.sum ws := Int.mul_le_mul_of_nonneg_left hge (by omega)
      have h6 : (ws.length : Int) * (ws.sum - 1) = ws.sum * (ws.length : Int) - ws.length := by rw [Int.mul_sub, Int.mul_comm]; omega
      omega
    · omega
end Go.Proofs.Ytdbanekjjibpbaa
