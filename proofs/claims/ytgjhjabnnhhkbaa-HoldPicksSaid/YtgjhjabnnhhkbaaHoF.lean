/- Walks: find; Get of both. Printed by gen_ho_b.py. -/
import Derived.Test.YtgjhjabnnhhkbaaHoA
namespace Go.Proofs.Ytgjhjabnnhhkbaa
open Go.RowKit

def atH (xs : List Ho) (id : Int) : Int := ix (fun x => x.id == id) xs
/-- The order with an ID, or the zero order; whether there is one. -/
def getH (xs : List Ho) (id : Int) : Ho × Bool := match xs.find? (fun x => x.id == id) with
  | some x => (x, true)
  | none => (ho0, false)
theorem getH_cases (xs : List Ho) (id : Int) :
    (atH xs id = -1 ∧ getH xs id = (ho0, false) ∧ ∀ x ∈ xs, (x.id == id) = false) ∨
    ∃ (i : Nat) (x : Ho), atH xs id = i ∧ xs[i]? = some x ∧ x.id = id ∧ getH xs id = (x, true) ∧ ∀ y ∈ xs.take i, (y.id == id) = false := by
  rcases ix_cases (fun x : Ho => x.id == id) xs with ⟨h1, h2⟩ | ⟨i, x, h1, h2, h3, h4⟩
  · refine .inl ⟨h1, ?_, h2⟩
    have : xs.find? (fun x : Ho => x.id == id) = none := List.find?_eq_none.2 (fun x hx => by rw [h2 x hx]; decide)
    unfold getH; rw [this]
  · refine .inr ⟨i, x, h1, h2, by simpa using h3, ?_, h4⟩
    have : xs.find? (fun x : Ho => x.id == id) = some x := by
      obtain ⟨hi, rfl⟩ := List.getElem?_eq_some_iff.1 h2
      rw [List.find?_eq_some_iff_append]
      exact ⟨h3, xs.take i, xs.drop (i + 1), by rw [← List.drop_eq_getElem_cons hi, List.take_append_drop], fun y hy => by rw [h4 y hy]; rfl⟩
    unfold getH; rw [this]
theorem hfind1_any (x : Ho) (id : Int) (a : Nat) (w : World) (ha : a < w.heap.size) (hc : w.cell? ⟨a, 0, none⟩ = some (.int .i64 id)) :
    Calls Try.prog 60 #[hoV x, .pointer (some ⟨a, 0, none⟩)] w fun e w' => e = .returned (.bool (x.id == id)) ∧ Below w.heap.size w w' := by
  unfold hoV
  go_enter Try.func60, Try.ntmps60
  go_wp2
  go_ret
  exact ⟨rfl, (Below.refl _ _).alloc (Nat.le_refl _) _⟩
theorem e_hfind1 : ∀ args w, (callFunc 60 args).run Try.prog w = .ok (.enter 60 args) w := enters_of Try.func60 (by kernel_rfl) rfl
theorem hfind_any (A : Option Addr) (n c : Nat) (xs : List Ho) (id : Int) (w : World) (hs : Hos w w.heap.size A n c xs) :
    Calls Try.prog 45 #[.slice A n c, .int .i64 id] w fun e w' => e = .returned (.int .i64 (atH xs id)) ∧ Below w.heap.size w w' := by
  have hi := ho_indexFunc 60 #[.pointer (some ⟨w.heap.size, 0, none⟩)] (fun x => x.id == id) e_hfind1 A n c xs (w.alloc (.cells #[.int .i64 id] 3)) ((hs.alloc (Nat.le_refl _) _).more (by simp))
    (fun W x _ hb => hfind1_any x id w.heap.size W (by have := hb.size; simp at this; omega) ((hb.cell (p := ⟨w.heap.size, 0, none⟩) (by simp)).trans (cell_new w _ _)))
  have HI := hide hi
  clear hi hs
  go_enter Try.func45, Try.ntmps45
  go_wp2_with (go_at_call 53; refine HI.out.mono ?_; rintro e w1 ⟨rfl, hb⟩)
  go_ret
  exact ⟨rfl, below_call hb⟩

set_option maxHeartbeats 1000000 in
theorem hget_any (A : Option Addr) (n c : Nat) (xs : List Ho) (id : Int) (w : World) (hs : Hos w w.heap.size A n c xs) :
    Calls Try.prog 31 #[.slice A n c, .int .i64 id] w fun e w' => e = .returned (.tuple #[hoV (getH xs id).1, .bool (getH xs id).2]) ∧ Below w.heap.size w w' := by
  have hle := hs.le
  have hbig := hs.big
  have HS := hide hs
  have hi := fun o => hfind_any A n c xs id (w.alloc o) ((hs.alloc (Nat.le_refl _) o).more (by simp))
  clear hs
  rcases getH_cases xs id with ⟨h1, h2, _⟩ | ⟨i, x, h1, h2, h3, h4, _⟩
  · rw [h1] at hi
    rw [h2]
    have HI := hide hi
    clear hi h1 h2
    go_enter Try.func31, Try.ntmps31
    go_wp2_with fail
    refine (HI.out _).mono ?_
    rintro e w1 ⟨rfl, hb⟩
    obtain ⟨hc, hf⟩ := bcell hb
    have hz : w.heap.size < w1.heap.size := by have := hb.size; simp at this; omega
    go_wp2
    refine bodyPost_ret (v := .tuple #[hoV ho0, .bool false]) (by simp [results, Try.results31, go_sem, hc, hoV, ho0]) rfl ⟨rfl, ?_⟩
    exact below_ho (below_call hb) (Nat.le_refl _) _ _ _ _ _ _ _ _ _ _ _
  · rw [h1] at hi
    rw [h4]
    have HI := hide hi
    have hi : i < n := by have := (List.getElem?_eq_some_iff.1 h2).1; have := HS.out.len; omega
    obtain ⟨b, off, y, rfl, hbB, hy, c0, c1, c2, c3, c4, c5, c6, c7, c8, c9, c10⟩ := Hos_at HS.out hi
    obtain rfl : x = y := by rw [hy] at h2; exact (Option.some.inj h2).symm
    clear h1 h2 hy h4 h3
    go_enter Try.func31, Try.ntmps31
    go_wp2_with fail
    refine (HI.out _).mono ?_
    rintro e w1 ⟨rfl, hb⟩
    obtain ⟨hc, hf⟩ := bcell hb
    have hz : w.heap.size < w1.heap.size := by have := hb.size; simp at this; omega
    have hcc : ∀ o, w1.cell? ⟨b, o, none⟩ = w.cell? ⟨b, o, none⟩ := fun o => by
      rw [hc b o (by simp; omega)]; exact World.cell?_alloc_lt w _ _ hbB
    rw [← hcc] at c0 c1 c2 c3 c4 c5 c6 c7 c8 c9 c10
    go_wp2
    refine bodyPost_ret (v := .tuple #[hoV x, .bool true]) (by simp [results, Try.results31, go_sem, hc, hoV]) rfl ⟨rfl, ?_⟩
    exact below_ho (below_call hb) (Nat.le_refl _) _ _ _ _ _ _ _ _ _ _ _

theorem getPH_step {xs : List Ho} {k : Nat} {x : Ho} {id : Int} (h : xs[k]? = some x) : getH (xs.drop k) id = if (x.id == id) = true then (x, true) else getH (xs.drop (k + 1)) id := by
  obtain ⟨hk, rfl⟩ := List.getElem?_eq_some_iff.1 h
  rw [List.drop_eq_getElem_cons hk]
  unfold getH
  rw [List.find?_cons]
  cases hq : (xs[k].id == id) <;> simp
theorem getPH_end {xs : List Ho} {k : Nat} {id : Int} (h : xs.length ≤ k) : getH (xs.drop k) id = (ho0, false) := by
  rw [List.drop_eq_nil_of_le h]; rfl

set_option maxHeartbeats 1000000 in
theorem hrget_any (A : Option Addr) (n c : Nat) (xs : List Ho) (id : Int) (w : World) (hs : Hos w w.heap.size A n c xs) :
    Calls Try.prog 32 #[.slice A n c, .int .i64 id] w fun e w' => e = .returned (.tuple #[hoV (getH xs id).1, .bool (getH xs id).2]) ∧ Below w.heap.size w w' := by
  have hle := hs.le
  have hbig := hs.big
  have HS := hide hs
  have hlen := hide hs.len
  clear hs
  go_enter Try.func32, Try.ntmps32
  go_wp2
  go_loop [6] (fun i => ∃ k : Nat, k ≤ n ∧ i = .int .i64 k ∧ getH xs id = getH (xs.drop k) id) (fun i => n - (intOf i).toNat)
  case atStart => exact ⟨0, Nat.zero_le _, rfl, rfl⟩
  case round =>
    obtain ⟨k, hk, rfl, ha⟩ := hrel
    have HA := hide ha
    clear ha
    by_cases hlt : k < n
    · obtain ⟨b, off, x, rfl, hbB, hx, c0, c1, c2, c3, c4, c5, c6, c7, c8, c9, c10⟩ := Hos_at HS.out hlt
      have HX := hide (getPH_step (id := id) hx)
      clear hx
      by_cases hq : (x.id == id) = true
      · have e1 : getH xs id = (x, true) := by rw [HA.out, HX.out, if_pos hq]
        have E1 := hide e1
        clear e1
        go_wp2
        refine bodyPost_ret (v := .tuple #[hoV x, .bool true]) (by simp [results, Try.results32, go_sem, hoV]) rfl ⟨by rw [E1.out], ?_⟩
        exact (Below.refl _ _).alloc (Nat.le_refl _) _
      · have HN := hide hq
        have hq' : (x.id == id) = false := by simpa using hq
        clear hq
        go_wp2
        go_round
        case rel => exact ⟨k + 1, by omega, by go_num, by rw [HA.out, HX.out, if_neg HN.out]⟩
        case measure => simp [intOf]; omega
    · have e1 : getH xs id = (ho0, false) := by rw [HA.out, getPH_end (by have := hlen.out; omega)]
      have E1 := hide e1
      clear e1
      go_wp2
      refine bodyPost_ret (v := .tuple #[hoV ho0, .bool false]) (by simp [results, Try.results32, go_sem, hoV, ho0]) rfl ⟨by rw [E1.out], ?_⟩
      exact (Below.refl _ _).alloc (Nat.le_refl _) _
end Go.Proofs.Ytgjhjabnnhhkbaa
