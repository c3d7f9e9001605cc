/- Walks: the reference's Get and Reserved. -/
import Derived.Test.YtdbanekjjibpbaaOdF
namespace Go.Proofs.Ytdbanekjjibpbaa
open Go.RowKit

theorem getP_step {xs : List Od} {k : Nat} {x : Od} {id : Int} (h : xs[k]? = some x) : getO (xs.drop k) id = if (x.id == id) = true then (x, true) else getO (xs.drop (k + 1)) id := by
  obtain ⟨hk, rfl⟩ := List.getElem?_eq_some_iff.1 h
  rw [List.drop_eq_getElem_cons hk]
  unfold getO
  rw [List.find?_cons]
  cases hq : (xs[k].id == id) <;> simp
theorem getP_end {xs : List Od} {k : Nat} {id : Int} (h : xs.length ≤ k) : getO (xs.drop k) id = (od0, false) := by
  rw [List.drop_eq_nil_of_le h]; rfl

set_option maxHeartbeats 1000000 in
theorem rget_any (A : Option Addr) (n c : Nat) (xs : List Od) (id : Int) (w : World) (hs : Ods w w.heap.size A n c xs) :
    Calls Try.prog 20 #[.slice A n c, .int .i64 id] w fun e w' => e = .returned (.tuple #[odV (getO xs id).1, .bool (getO xs id).2]) ∧ Below w.heap.size w w' := by
  have hle := hs.le
  have hbig := hs.big
  have HS := hide hs
  have hlen := hide hs.len
  clear hs
  go_enter Try.func20, Try.ntmps20
  go_wp2
  go_loop [6] (fun i => ∃ k : Nat, k ≤ n ∧ i = .int .i64 k ∧ getO xs id = getO (xs.drop k) id) (fun i => n - (intOf i).toNat)
  case atStart => exact ⟨0, Nat.zero_le _, rfl, rfl⟩
  case round =>
    obtain ⟨k, hk, rfl, ha⟩ := hrel
    have HA := hide ha
    clear ha
    by_cases hlt : k < n
    · obtain ⟨b, off, x, rfl, hbB, hx, c0, c1, c2, c3, c4, c5, c6, c7, c8, c9⟩ := Ods_at HS.out hlt
      have HX := hide (getP_step (id := id) hx)
      clear hx
      by_cases hq : (x.id == id) = true
      · have e1 : getO xs id = (x, true) := by rw [HA.out, HX.out, if_pos hq]
        have E1 := hide e1
        clear e1
        go_wp2
        refine bodyPost_ret (v := .tuple #[odV x, .bool true]) (by simp [results, Try.results20, go_sem, odV]) rfl ⟨by rw [E1.out], ?_⟩
        exact (Below.refl _ _).alloc (Nat.le_refl _) _
      · have HN := hide hq
        have hq' : (x.id == id) = false := by simpa using hq
        clear hq
        go_wp2
        go_round
        case rel => exact ⟨k + 1, by omega, by go_num, by rw [HA.out, HX.out, if_neg HN.out]⟩
        case measure => simp [intOf]; omega
    · have e1 : getO xs id = (od0, false) := by rw [HA.out, getP_end (by have := hlen.out; omega)]
      have E1 := hide e1
      clear e1
      go_wp2
      refine bodyPost_ret (v := .tuple #[odV od0, .bool false]) (by simp [results, Try.results20, go_sem, odV, od0]) rfl ⟨by rw [E1.out], ?_⟩
      exact (Below.refl _ _).alloc (Nat.le_refl _) _
theorem rresv_any (x : Od) (w : World) (hm : OdM x) : Calls Try.prog 26 #[odV x] w fun e w' => e = .returned (.int .i64 (resvO x)) ∧ Below w.heap.size w w' := by
  obtain ⟨_, ⟨p1, p2⟩, ⟨p3, p4⟩, ⟨p5, p6⟩, ⟨p7, p8⟩, _⟩ := hm
  have hw1 : IntKind.i64.wrap (x.cop - x.bil) = x.cop - x.bil := by rw [IntKind.wrap_i64]; omega
  have hw2 : IntKind.i64.wrap (x.rcv - x.bil) = x.rcv - x.bil := by rw [IntKind.wrap_i64]; omega
  have g1 : 0 ≤ (x.cop - x.bil) * x.pri := Int.mul_nonneg (by omega) (by omega)
  have g2 : (x.cop - x.bil) * x.pri ≤ 99 * 1000000 := Int.mul_le_mul (by omega) p4 (by omega) (by omega)
  have g3 : 0 ≤ (x.rcv - x.bil) * x.pri := Int.mul_nonneg (by omega) (by omega)
  have g4 : (x.rcv - x.bil) * x.pri ≤ 99 * 1000000 := Int.mul_le_mul (by omega) p4 (by omega) (by omega)
  have hw3 : IntKind.i64.wrap ((x.cop - x.bil) * x.pri) = (x.cop - x.bil) * x.pri := by rw [IntKind.wrap_i64]; omega
  have hw4 : IntKind.i64.wrap ((x.rcv - x.bil) * x.pri) = (x.rcv - x.bil) * x.pri := by rw [IntKind.wrap_i64]; omega
  unfold odV
  by_cases h1 : x.st = 1
  · have hr : resvO x = (x.cop - x.bil) * x.pri := by unfold resvO; rw [if_pos h1]
    rw [hr]
    clear hr g3 g4 hw2 hw4
    rw [h1]
    clear h1
    go_enter Try.func26, Try.ntmps26
    go_wp2
    go_ret
    exact ⟨ret_int (by first | rfl | omega), (Below.refl _ _).alloc (Nat.le_refl _) _⟩
  · by_cases h3 : x.st = 3
    · have hr : resvO x = (x.rcv - x.bil) * x.pri := by unfold resvO; rw [if_neg h1, if_pos h3]
      rw [hr]
      clear hr g1 g2 hw1 hw3
      rw [h3]
      clear h1 h3
      go_enter Try.func26, Try.ntmps26
      go_wp2
      go_ret
      exact ⟨ret_int (by first | rfl | omega), (Below.refl _ _).alloc (Nat.le_refl _) _⟩
    · have hr : resvO x = 0 := by unfold resvO; rw [if_neg h1, if_neg h3]
      rw [hr]
      have hb1 : (x.st == 1) = false := by simpa using h1
      have hb3 : (x.st == 3) = false := by simpa using h3
      clear hr g1 g2 g3 g4 hw1 hw2 hw3 hw4 h1 h3
      go_enter Try.func26, Try.ntmps26
      go_wp2
      go_ret
      exact ⟨rfl, (Below.refl _ _).alloc (Nat.le_refl _) _⟩
end Go.Proofs.Ytdbanekjjibpbaa
