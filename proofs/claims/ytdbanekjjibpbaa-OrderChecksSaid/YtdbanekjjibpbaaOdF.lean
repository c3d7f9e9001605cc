/- What the operations on orders compute, as plain functions; walks: find, Get and Reserved of both. -/
import Derived.Test.YtdbanekjjibpbaaOdB
import Derived.Deep.QuietTactic
import Derived.BigQuiet
namespace Go.Proofs.Ytdbanekjjibpbaa
open Go.RowKit

def atO (xs : List Od) (id : Int) : Int := ix (fun x => x.id == id) xs
/-- The order with an ID, or the zero order; whether there is one. -/
def getO (xs : List Od) (id : Int) : Od × Bool := match xs.find? (fun x => x.id == id) with
  | some x => (x, true)
  | none => (od0, false)
theorem getO_cases (xs : List Od) (id : Int) :
    (atO xs id = -1 ∧ getO xs id = (od0, false) ∧ ∀ x ∈ xs, (x.id == id) = false) ∨
    ∃ (i : Nat) (x : Od), atO xs id = i ∧ xs[i]? = some x ∧ x.id = id ∧ getO xs id = (x, true) ∧ ∀ y ∈ xs.take i, (y.id == id) = false := by
  rcases ix_cases (fun x : Od => x.id == id) xs with ⟨h1, h2⟩ | ⟨i, x, h1, h2, h3, h4⟩
  · refine .inl ⟨h1, ?_, h2⟩
    have : xs.find? (fun x : Od => x.id == id) = none := List.find?_eq_none.2 (fun x hx => by rw [h2 x hx]; decide)
    unfold getO; rw [this]
  · refine .inr ⟨i, x, h1, h2, by simpa using h3, ?_, h4⟩
    have : xs.find? (fun x : Od => x.id == id) = some x := by
      obtain ⟨hi, rfl⟩ := List.getElem?_eq_some_iff.1 h2
      rw [List.find?_eq_some_iff_append]
      exact ⟨h3, xs.take i, xs.drop (i + 1), by rw [← List.drop_eq_getElem_cons hi, List.take_append_drop], fun y hy => by rw [h4 y hy]; rfl⟩
    unfold getO; rw [this]
/-- What an order still encumbers. -/
def resvO (x : Od) : Int := if x.st = 1 then (x.cop - x.bil) * x.pri else if x.st = 3 then (x.rcv - x.bil) * x.pri else 0
/-- An operation on the order with an ID: er is its error, g the changed order. -/
def opO (xs : List Od) (id : Int) (er : Od → Int) (g : Od → Od) : Int × List Od :=
  if atO xs id = -1 then (9, []) else if er (getO xs id).1 = 0 then (0, xs.set (atO xs id).toNat (g (getO xs id).1)) else (er (getO xs id).1, [])
theorem opO_none {xs : List Od} {id : Int} {er : Od → Int} {g : Od → Od} (h : atO xs id = -1) : opO xs id er g = (9, []) := by unfold opO; rw [if_pos h]
theorem opO_some {xs : List Od} {id : Int} {er : Od → Int} {g : Od → Od} {i : Nat} {x : Od} (h : atO xs id = i) (hg : getO xs id = (x, true)) : opO xs id er g = if er x = 0 then (0, xs.set i (g x)) else (er x, []) := by
  unfold opO; rw [if_neg (by omega), h, hg]; rfl
def rcvE (n : Int) (x : Od) : Int := if n < 1 then 2 else if x.st = 1 ∧ n ≤ x.cop - x.rcv then 0 else 12
def rcvF (n : Int) (x : Od) : Od := { x with rcv := x.rcv + n }
def stopE (x : Od) : Int := if x.st = 1 then 0 else 12
def stopF (x : Od) : Od := { x with st := 3 }
structure Bl where
  ven : Int
  num : Int
  ord : Int
  cop : Int
  amt : Int
def blV (b : Bl) : Value := .agg #[.int .i64 b.ven, .int .i64 b.num, .int .i64 b.ord, .int .i64 b.cop, .int .i64 b.amt]
abbrev blC (b : Bl) : Array Value := #[.int .i64 b.ven, .int .i64 b.num, .int .i64 b.ord, .int .i64 b.cop, .int .i64 b.amt]
def billE (b : Bl) (x : Od) : Int := if x.ven = b.ven then (if (1 ≤ b.num ∧ b.num ≤ 99999) ∧ 1 ≤ b.cop ∧ (1 ≤ b.amt ∧ b.amt ≤ 100000000) then (if b.cop ≤ x.rcv - x.bil then (if x.paid + b.amt ≤ 100000000 then 0 else 2) else 12) else 2) else 1
def billF (b : Bl) (x : Od) : Od := { x with bil := x.bil + b.cop, paid := x.paid + b.amt, st := if x.bil + b.cop = x.cop then 2 else x.st }
def receiveO (xs : List Od) (id n : Int) : Int × List Od := opO xs id (rcvE n) (rcvF n)
def stopO (xs : List Od) (id : Int) : Int × List Od := opO xs id stopE stopF
def billO (xs : List Od) (b : Bl) : Int × List Od := opO xs b.ord (billE b) (billF b)
def placeO (xs : List Od) (x : Od) : Int × List Od :=
  if x.st = 1 ∧ x.rcv = 0 ∧ x.bil = 0 ∧ x.paid = 0 then (if rightO (xs ++ [x]) = 0 then (0, xs ++ [x]) else (rightO (xs ++ [x]), [])) else (12, [])
/-- An order's numbers within their limits. -/
structure OdM (x : Od) : Prop where
  id : 1 ≤ x.id ∧ x.id ≤ 9999
  cop : 1 ≤ x.cop ∧ x.cop ≤ 99
  pri : 1 ≤ x.pri ∧ x.pri ≤ 1000000
  rcv : 0 ≤ x.rcv ∧ x.rcv ≤ x.cop
  bil : 0 ≤ x.bil ∧ x.bil ≤ x.rcv
  paid : 0 ≤ x.paid ∧ x.paid ≤ 100000000
theorem chkO_M {x : Od} (h : chkO x = 0) : OdM x ∧ bad1 x = false ∧ (1 ≤ x.st ∧ x.st ≤ 3) ∧ sharesV x.sh = true ∧ bad4 x = false := by
  unfold chkO at h
  split at h
  · cases h
  · rename_i h1
    split at h
    · cases h
    · rename_i h2
      split at h
      · cases h
      · rename_i h3
        split at h
        · cases h
        · rename_i h4
          have g1 := h1; have g2 := h2; have g3 := h3
          simp only [bad1, bad2, bad3, oidB, Bool.or_eq_true, Bool.not_eq_true', not_or, Bool.not_eq_false, winB_iff] at h1 h2 h3
          exact ⟨⟨h1.1.1.1.1, h1.1.2, h1.2, h2.1.1, h2.1.2, h2.2⟩, by simpa using g1, h3.1, h3.2, by simpa using h4⟩

theorem find1_any (x : Od) (id : Int) (a : Nat) (w : World) (ha : a < w.heap.size) (hc : w.cell? ⟨a, 0, none⟩ = some (.int .i64 id)) :
    Calls Try.prog 45 #[odV x, .pointer (some ⟨a, 0, none⟩)] w fun e w' => e = .returned (.bool (x.id == id)) ∧ Below w.heap.size w w' := by
  unfold odV
  go_enter Try.func45, Try.ntmps45
  go_wp2
  go_ret
  exact ⟨rfl, (Below.refl _ _).alloc (Nat.le_refl _) _⟩
theorem e_find1 : ∀ args w, (callFunc 45 args).run Try.prog w = .ok (.enter 45 args) w := enters_of Try.func45 (by kernel_rfl) rfl
theorem find_any (A : Option Addr) (n c : Nat) (xs : List Od) (id : Int) (w : World) (hs : Ods w w.heap.size A n c xs) :
    Calls Try.prog 33 #[.slice A n c, .int .i64 id] w fun e w' => e = .returned (.int .i64 (atO xs id)) ∧ Below w.heap.size w w' := by
  have hi := od_indexFunc 45 #[.pointer (some ⟨w.heap.size, 0, none⟩)] (fun x => x.id == id) e_find1 A n c xs (w.alloc (.cells #[.int .i64 id] 3)) ((hs.alloc (Nat.le_refl _) _).more (by simp))
    (fun W x _ hb => find1_any x id w.heap.size W (by have := hb.size; simp at this; omega) ((hb.cell (p := ⟨w.heap.size, 0, none⟩) (by simp)).trans (cell_new w _ _)))
  have HI := hide hi
  clear hi hs
  go_enter Try.func33, Try.ntmps33
  go_wp2_with (go_at_call 44; refine HI.out.mono ?_; rintro e w1 ⟨rfl, hb⟩)
  go_ret
  exact ⟨rfl, below_call hb⟩

set_option maxHeartbeats 1000000 in
theorem oget_any (A : Option Addr) (n c : Nat) (xs : List Od) (id : Int) (w : World) (hs : Ods w w.heap.size A n c xs) :
    Calls Try.prog 19 #[.slice A n c, .int .i64 id] w fun e w' => e = .returned (.tuple #[odV (getO xs id).1, .bool (getO xs id).2]) ∧ Below w.heap.size w w' := by
  have hle := hs.le
  have hbig := hs.big
  have HS := hide hs
  have hi := fun o => find_any A n c xs id (w.alloc o) ((hs.alloc (Nat.le_refl _) o).more (by simp))
  clear hs
  rcases getO_cases xs id with ⟨h1, h2, _⟩ | ⟨i, x, h1, h2, h3, h4, _⟩
  · rw [h1] at hi
    rw [h2]
    have HI := hide hi
    clear hi h1 h2
    go_enter Try.func19, Try.ntmps19
    go_wp2_with fail
    refine (HI.out _).mono ?_
    rintro e w1 ⟨rfl, hb⟩
    obtain ⟨hc, hf⟩ := bcell hb
    have hz : w.heap.size < w1.heap.size := by have := hb.size; simp at this; omega
    go_wp2
    refine bodyPost_ret (v := .tuple #[odV od0, .bool false]) (by simp [results, Try.results19, go_sem, hc, odV, od0]) rfl ⟨rfl, ?_⟩
    exact below_od (below_call hb) (Nat.le_refl _) _ _ _ _ _ _ _ _ _ _
  · rw [h1] at hi
    rw [h4]
    have HI := hide hi
    have hi : i < n := by have := (List.getElem?_eq_some_iff.1 h2).1; have := HS.out.len; omega
    obtain ⟨b, off, y, rfl, hbB, hy, c0, c1, c2, c3, c4, c5, c6, c7, c8, c9⟩ := Ods_at HS.out hi
    obtain rfl : x = y := by rw [hy] at h2; exact (Option.some.inj h2).symm
    clear h1 h2 hy h4 h3
    go_enter Try.func19, Try.ntmps19
    go_wp2_with fail
    refine (HI.out _).mono ?_
    rintro e w1 ⟨rfl, hb⟩
    obtain ⟨hc, hf⟩ := bcell hb
    have hz : w.heap.size < w1.heap.size := by have := hb.size; simp at this; omega
    have hcc : ∀ o, w1.cell? ⟨b, o, none⟩ = w.cell? ⟨b, o, none⟩ := fun o => by
      rw [hc b o (by simp; omega)]; exact World.cell?_alloc_lt w _ _ hbB
    rw [← hcc] at c0 c1 c2 c3 c4 c5 c6 c7 c8 c9
    go_wp2
    refine bodyPost_ret (v := .tuple #[odV x, .bool true]) (by simp [results, Try.results19, go_sem, hc, odV]) rfl ⟨rfl, ?_⟩
    exact below_od (below_call hb) (Nat.le_refl _) _ _ _ _ _ _ _ _ _ _
theorem oresv_any (x : Od) (w : World) (hm : OdM x ∨ x = od0) : Calls Try.prog 25 #[odV x] w fun e w' => e = .returned (.int .i64 (resvO x)) ∧ Below w.heap.size w w' := by
  rcases hm with hm | rfl
  · obtain ⟨_, ⟨p1, p2⟩, ⟨p3, p4⟩, ⟨p5, p6⟩, ⟨p7, p8⟩, _⟩ := hm
    have hw1 : IntKind.i64.wrap (x.cop - x.bil) = x.cop - x.bil := by rw [IntKind.wrap_i64]; omega
    have hw2 : IntKind.i64.wrap (x.rcv - x.bil) = x.rcv - x.bil := by rw [IntKind.wrap_i64]; omega
    have g1 : 0 ≤ (x.cop - x.bil) * x.pri := Int.mul_nonneg (by omega) (by omega)
    have g2 : (x.cop - x.bil) * x.pri ≤ 99 * 1000000 := Int.mul_le_mul (by omega) p4 (by omega) (by omega)
    have g3 : 0 ≤ (x.rcv - x.bil) * x.pri := Int.mul_nonneg (by omega) (by omega)
    have g4 : (x.rcv - x.bil) * x.pri ≤ 99 * 1000000 := Int.mul_le_mul (by omega) p4 (by omega) (by omega)
    have hw3 : IntKind.i64.wrap ((x.cop - x.bil) * x.pri) = (x.cop - x.bil) * x.pri := by rw [IntKind.wrap_i64]; omega
    have hw4 : IntKind.i64.wrap ((x.rcv - x.bil) * x.pri) = (x.rcv - x.bil) * x.pri := by rw [IntKind.wrap_i64]; omega
    unfold odV
    by_cases h1 : x.st = 1
    · have hr : resvO x = (x.cop - x.bil) * x.pri := by unfold resvO; rw [if_pos h1]
      rw [hr]
      have HS := hide h1
      clear hr g3 g4 hw2 hw4
      rw [h1]
      clear h1
      go_enter Try.func25, Try.ntmps25
      go_wp2
      go_ret
      exact ⟨ret_int (by first | rfl | omega), (Below.refl _ _).alloc (Nat.le_refl _) _⟩
    · by_cases h3 : x.st = 3
      · have hr : resvO x = (x.rcv - x.bil) * x.pri := by unfold resvO; rw [if_neg h1, if_pos h3]
        rw [hr]
        clear hr g1 g2 hw1 hw3
        rw [h3]
        clear h1 h3
        go_enter Try.func25, Try.ntmps25
        go_wp2
        go_ret
        exact ⟨ret_int (by first | rfl | omega), (Below.refl _ _).alloc (Nat.le_refl _) _⟩
      · have hr : resvO x = 0 := by unfold resvO; rw [if_neg h1, if_neg h3]
        rw [hr]
        have hb1 : (x.st == 1) = false := by simpa using h1
        have hb3 : (x.st == 3) = false := by simpa using h3
        clear hr g1 g2 g3 g4 hw1 hw2 hw3 hw4 h1 h3
        go_enter Try.func25, Try.ntmps25
        go_wp2
        go_ret
        exact ⟨rfl, (Below.refl _ _).alloc (Nat.le_refl _) _⟩
  · show Calls _ _ #[.agg #[.int .i64 0, .int .i64 0, .int .i64 0, .int .i64 0, .int .i64 0, .int .i64 0, .int .i64 0, .int .i64 0, .int .i64 0, .slice none 0 0]] _ _
    go_enter Try.func25, Try.ntmps25
    go_wp2
    go_ret
    exact ⟨rfl, (Below.refl _ _).alloc (Nat.le_refl _) _⟩
end Go.Proofs.Ytdbanekjjibpbaa
