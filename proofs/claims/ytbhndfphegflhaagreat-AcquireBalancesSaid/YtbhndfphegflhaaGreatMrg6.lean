/- Texts laid together by merge.py: OdF, BlKit, OdG, Sort, ShPlain. -/
import Derived.Test.YtbhndfphegflhaaGreatMrg5
import Derived.Deep.QuietTactic
import Derived.BigQuiet
import Derived.Test.YtbhndfphegflhaaGreatMrg4
import Derived.Test.YtbhndfphegflhaaGreatMrg0
import Derived.Test.YtbhndfphegflhaaGreatProg
import Derived.Shelf.Abstract
import Derived.BigRegion
set_option linter.unusedSimpArgs false
set_option linter.unusedVariables false
/- What the operations on orders compute, as plain functions; walks: find, Get and Reserved of both. -/
namespace Go.Proofs.YtbhndfphegflhaaGreat
open Go.RowKit

def atO (xs : List Od) (id : Int) : Int := ix (fun x => x.id == id) xs
/-- The order with an ID, or the zero order; whether there is one. -/
def getO (xs : List Od) (id : Int) : Od × Bool := match xs.find? (fun x => x.id == id) with
  | some x => (x, true)
  | none => (od0, false)
theorem getO_cases (xs : List Od) (id : Int) :
    (atO xs id = -1 ∧ getO xs id = (od0, false) ∧ ∀ x ∈ xs, (x.id == id) = false) ∨
    ∃ (i : Nat) (x : Od), atO xs id = i ∧ xs[i]? = some x ∧ x.id = id ∧ getO xs id = (x, true) ∧ ∀ y ∈ xs.take i, (y.id == id) = false := by
  rcases ix_cases (fun x : Od => x.id == id) xs with ⟨h1, h2⟩ | ⟨i, x, h1, h2, h3, h4⟩
  · refine .inl ⟨h1, ?_, h2⟩
    have : xs.find? (fun x : Od => x.id == id) = none := List.find?_eq_none.2 (fun x hx => by rw [h2 x hx]; decide)
    unfold getO; rw [this]
  · refine .inr ⟨i, x, h1, h2, by simpa using h3, ?_, h4⟩
    have : xs.find? (fun x : Od => x.id == id) = some x := by
      obtain ⟨hi, rfl⟩ := List.getElem?_eq_some_iff.1 h2
      rw [List.find?_eq_some_iff_append]
      exact ⟨h3, xs.take i, xs.drop (i + 1), by rw [← List.drop_eq_getElem_cons hi, List.take_append_drop], fun y hy => by rw [h4 y hy]; rfl⟩
    unfold getO; rw [this]
/-- What an order still encumbers. -/
def resvO (x : Od) : Int := if x.st = 1 then (x.cop - x.bil) * x.pri else if x.st = 3 then (x.rcv - x.bil) * x.pri else 0
/-- An operation on the order with an ID: er is its error, g the changed order. -/
def opO (xs : List Od) (id : Int) (er : Od → Int) (g : Od → Od) : Int × List Od :=
  if atO xs id = -1 then (9, []) else if er (getO xs id).1 = 0 then (0, xs.set (atO xs id).toNat (g (getO xs id).1)) else (er (getO xs id).1, [])
theorem opO_none {xs : List Od} {id : Int} {er : Od → Int} {g : Od → Od} (h : atO xs id = -1) : opO xs id er g = (9, []) := by unfold opO; rw [if_pos h]
theorem opO_some {xs : List Od} {id : Int} {er : Od → Int} {g : Od → Od} {i : Nat} {x : Od} (h : atO xs id = i) (hg : getO xs id = (x, true)) : opO xs id er g = if er x = 0 then (0, xs.set i (g x)) else (er x, []) := by
  unfold opO; rw [if_neg (by omega), h, hg]; rfl
def rcvE (n : Int) (x : Od) : Int := if n < 1 then 2 else if x.st = 1 ∧ n ≤ x.cop - x.rcv then 0 else 12
def rcvF (n : Int) (x : Od) : Od := { x with rcv := x.rcv + n }
def stopE (x : Od) : Int := if x.st = 1 then 0 else 12
def stopF (x : Od) : Od := { x with st := 3 }
structure Bl where
  ven : Int
  num : Int
  ord : Int
  cop : Int
  amt : Int
def blV (b : Bl) : Value := .agg #[.int .i64 b.ven, .int .i64 b.num, .int .i64 b.ord, .int .i64 b.cop, .int .i64 b.amt]
abbrev blC (b : Bl) : Array Value := #[.int .i64 b.ven, .int .i64 b.num, .int .i64 b.ord, .int .i64 b.cop, .int .i64 b.amt]
def billE (b : Bl) (x : Od) : Int := if x.ven = b.ven then (if (1 ≤ b.num ∧ b.num ≤ 99999) ∧ 1 ≤ b.cop ∧ (1 ≤ b.amt ∧ b.amt ≤ 100000000) then (if b.cop ≤ x.rcv - x.bil then (if x.paid + b.amt ≤ 100000000 then 0 else 2) else 12) else 2) else 1
def billF (b : Bl) (x : Od) : Od := { x with bil := x.bil + b.cop, paid := x.paid + b.amt, st := if x.bil + b.cop = x.cop then 2 else x.st }
def receiveO (xs : List Od) (id n : Int) : Int × List Od := opO xs id (rcvE n) (rcvF n)
def stopO (xs : List Od) (id : Int) : Int × List Od := opO xs id stopE stopF
def billO (xs : List Od) (b : Bl) : Int × List Od := opO xs b.ord (billE b) (billF b)
def placeO (xs : List Od) (x : Od) : Int × List Od :=
  if x.st = 1 ∧ x.rcv = 0 ∧ x.bil = 0 ∧ x.paid = 0 then (if rightO (xs ++ [x]) = 0 then (0, xs ++ [x]) else (rightO (xs ++ [x]), [])) else (12, [])
/-- An order's numbers within their limits. -/
structure OdM (x : Od) : Prop where
  id : 1 ≤ x.id ∧ x.id ≤ 9999
  cop : 1 ≤ x.cop ∧ x.cop ≤ 99
  pri : 1 ≤ x.pri ∧ x.pri ≤ 1000000
  rcv : 0 ≤ x.rcv ∧ x.rcv ≤ x.cop
  bil : 0 ≤ x.bil ∧ x.bil ≤ x.rcv
  paid : 0 ≤ x.paid ∧ x.paid ≤ 100000000
theorem chkO_M {x : Od} (h : chkO x = 0) : OdM x ∧ bad1 x = false ∧ (1 ≤ x.st ∧ x.st ≤ 3) ∧ sharesV x.sh = true ∧ bad4 x = false := by
  unfold chkO at h
  split at h
  · cases h
  · rename_i h1
    split at h
    · cases h
    · rename_i h2
      split at h
      · cases h
      · rename_i h3
        split at h
        · cases h
        · rename_i h4
          have g1 := h1; have g2 := h2; have g3 := h3
          simp only [bad1, bad2, bad3, oidB, Bool.or_eq_true, Bool.not_eq_true', not_or, Bool.not_eq_false, winB_iff] at h1 h2 h3
          exact ⟨⟨h1.1.1.1.1, h1.1.2, h1.2, h2.1.1, h2.1.2, h2.2⟩, by simpa using g1, h3.1, h3.2, by simpa using h4⟩

theorem find1_any (x : Od) (id : Int) (a : Nat) (w : World) (ha : a < w.heap.size) (hc : w.cell? ⟨a, 0, none⟩ = some (.int .i64 id)) :
    Calls Tryz.prog 132 #[odV x, .pointer (some ⟨a, 0, none⟩)] w fun e w' => e = .returned (.bool (x.id == id)) ∧ Below w.heap.size w w' := by
  unfold odV
  go_enter Tryz.func132, Tryz.ntmps132
  go_wp2
  go_ret
  exact ⟨rfl, (Below.refl _ _).alloc (Nat.le_refl _) _⟩
theorem e_find1 : ∀ args w, (callFunc 132 args).run Tryz.prog w = .ok (.enter 132 args) w := enters_of Tryz.func132 (by kernel_rfl) rfl
theorem find_any (A : Option Addr) (n c : Nat) (xs : List Od) (id : Int) (w : World) (hs : Ods w w.heap.size A n c xs) :
    Calls Tryz.prog 81 #[.slice A n c, .int .i64 id] w fun e w' => e = .returned (.int .i64 (atO xs id)) ∧ Below w.heap.size w w' := by
  have hi := od_indexFunc 132 #[.pointer (some ⟨w.heap.size, 0, none⟩)] (fun x => x.id == id) e_find1 A n c xs (w.alloc (.cells #[.int .i64 id] 3)) ((hs.alloc (Nat.le_refl _) _).more (by simp))
    (fun W x _ hb => find1_any x id w.heap.size W (by have := hb.size; simp at this; omega) ((hb.cell (p := ⟨w.heap.size, 0, none⟩) (by simp)).trans (cell_new w _ _)))
  have HI := hide hi
  clear hi hs
  go_enter Tryz.func81, Tryz.ntmps81
  go_wp2_with (go_at_call 131; refine HI.out.mono ?_; rintro e w1 ⟨rfl, hb⟩)
  go_ret
  exact ⟨rfl, below_call hb⟩

set_option maxHeartbeats 1000000 in
theorem oget_any (A : Option Addr) (n c : Nat) (xs : List Od) (id : Int) (w : World) (hs : Ods w w.heap.size A n c xs) :
    Calls Tryz.prog 28 #[.slice A n c, .int .i64 id] w fun e w' => e = .returned (.tuple #[odV (getO xs id).1, .bool (getO xs id).2]) ∧ Below w.heap.size w w' := by
  have hle := hs.le
  have hbig := hs.big
  have HS := hide hs
  have hi := fun o => find_any A n c xs id (w.alloc o) ((hs.alloc (Nat.le_refl _) o).more (by simp))
  clear hs
  rcases getO_cases xs id with ⟨h1, h2, _⟩ | ⟨i, x, h1, h2, h3, h4, _⟩
  · rw [h1] at hi
    rw [h2]
    have HI := hide hi
    clear hi h1 h2
    go_enter Tryz.func28, Tryz.ntmps28
    go_wp2_with fail
    refine (HI.out _).mono ?_
    rintro e w1 ⟨rfl, hb⟩
    obtain ⟨hc, hf⟩ := bcell hb
    have hz : w.heap.size < w1.heap.size := by have := hb.size; simp at this; omega
    go_wp2
    refine bodyPost_ret (v := .tuple #[odV od0, .bool false]) (by simp [results, Tryz.results28, go_sem, hc, odV, od0]) rfl ⟨rfl, ?_⟩
    exact below_od (below_call hb) (Nat.le_refl _) _ _ _ _ _ _ _ _ _ _
  · rw [h1] at hi
    rw [h4]
    have HI := hide hi
    have hi : i < n := by have := (List.getElem?_eq_some_iff.1 h2).1; have := HS.out.len; omega
    obtain ⟨b, off, y, rfl, hbB, hy, c0, c1, c2, c3, c4, c5, c6, c7, c8, c9⟩ := Ods_at HS.out hi
    obtain rfl : x = y := by rw [hy] at h2; exact (Option.some.inj h2).symm
    clear h1 h2 hy h4 h3
    go_enter Tryz.func28, Tryz.ntmps28
    go_wp2_with fail
    refine (HI.out _).mono ?_
    rintro e w1 ⟨rfl, hb⟩
    obtain ⟨hc, hf⟩ := bcell hb
    have hz : w.heap.size < w1.heap.size := by have := hb.size; simp at this; omega
    have hcc : ∀ o, w1.cell? ⟨b, o, none⟩ = w.cell? ⟨b, o, none⟩ := fun o => by
      rw [hc b o (by simp; omega)]; exact World.cell?_alloc_lt w _ _ hbB
    rw [← hcc] at c0 c1 c2 c3 c4 c5 c6 c7 c8 c9
    go_wp2
    refine bodyPost_ret (v := .tuple #[odV x, .bool true]) (by simp [results, Tryz.results28, go_sem, hc, odV]) rfl ⟨rfl, ?_⟩
    exact below_od (below_call hb) (Nat.le_refl _) _ _ _ _ _ _ _ _ _ _
theorem oresv_any (x : Od) (w : World) (hm : OdM x ∨ x = od0) : Calls Tryz.prog 29 #[odV x] w fun e w' => e = .returned (.int .i64 (resvO x)) ∧ Below w.heap.size w w' := by
  rcases hm with hm | rfl
  · obtain ⟨_, ⟨p1, p2⟩, ⟨p3, p4⟩, ⟨p5, p6⟩, ⟨p7, p8⟩, _⟩ := hm
    have hw1 : IntKind.i64.wrap (x.cop - x.bil) = x.cop - x.bil := by rw [IntKind.wrap_i64]; omega
    have hw2 : IntKind.i64.wrap (x.rcv - x.bil) = x.rcv - x.bil := by rw [IntKind.wrap_i64]; omega
    have g1 : 0 ≤ (x.cop - x.bil) * x.pri := Int.mul_nonneg (by omega) (by omega)
    have g2 : (x.cop - x.bil) * x.pri ≤ 99 * 1000000 := Int.mul_le_mul (by omega) p4 (by omega) (by omega)
    have g3 : 0 ≤ (x.rcv - x.bil) * x.pri := Int.mul_nonneg (by omega) (by omega)
    have g4 : (x.rcv - x.bil) * x.pri ≤ 99 * 1000000 := Int.mul_le_mul (by omega) p4 (by omega) (by omega)
    have hw3 : IntKind.i64.wrap ((x.cop - x.bil) * x.pri) = (x.cop - x.bil) * x.pri := by rw [IntKind.wrap_i64]; omega
    have hw4 : IntKind.i64.wrap ((x.rcv - x.bil) * x.pri) = (x.rcv - x.bil) * x.pri := by rw [IntKind.wrap_i64]; omega
    unfold odV
    by_cases h1 : x.st = 1
    · have hr : resvO x = (x.cop - x.bil) * x.pri := by unfold resvO; rw [if_pos h1]
      rw [hr]
      have HS := hide h1
      clear hr g3 g4 hw2 hw4
      rw [h1]
      clear h1
      go_enter Tryz.func29, Tryz.ntmps29
      go_wp2
      go_ret
      exact ⟨ret_int (by first | rfl | omega), (Below.refl _ _).alloc (Nat.le_refl _) _⟩
    · by_cases h3 : x.st = 3
      · have hr : resvO x = (x.rcv - x.bil) * x.pri := by unfold resvO; rw [if_neg h1, if_pos h3]
        rw [hr]
        clear hr g1 g2 hw1 hw3
        rw [h3]
        clear h1 h3
        go_enter Tryz.func29, Tryz.ntmps29
        go_wp2
        go_ret
        exact ⟨ret_int (by first | rfl | omega), (Below.refl _ _).alloc (Nat.le_refl _) _⟩
      · have hr : resvO x = 0 := by unfold resvO; rw [if_neg h1, if_neg h3]
        rw [hr]
        have hb1 : (x.st == 1) = false := by simpa using h1
        have hb3 : (x.st == 3) = false := by simpa using h3
        clear hr g1 g2 g3 g4 hw1 hw2 hw3 hw4 h1 h3
        go_enter Tryz.func29, Tryz.ntmps29
        go_wp2
        go_ret
        exact ⟨rfl, (Below.refl _ _).alloc (Nat.le_refl _) _⟩
  · show Calls _ _ #[.agg #[.int .i64 0, .int .i64 0, .int .i64 0, .int .i64 0, .int .i64 0, .int .i64 0, .int .i64 0, .int .i64 0, .int .i64 0, .slice none 0 0]] _ _
    go_enter Tryz.func29, Tryz.ntmps29
    go_wp2
    go_ret
    exact ⟨rfl, (Below.refl _ _).alloc (Nat.le_refl _) _⟩
end Go.Proofs.YtbhndfphegflhaaGreat

/- library/api.Bill as plain data; a slice of them; '=='; IndexFunc; Clone. Printed by gen_kit.py. -/
namespace Go.Proofs.YtbhndfphegflhaaGreat
open Go.RowKit

deriving instance DecidableEq for Bl

def blE (x : Bl) : List Value := [.int .i64 x.ven, .int .i64 x.num, .int .i64 x.ord, .int .i64 x.cop, .int .i64 x.amt]
def bl0 : Bl := ⟨0, 0, 0, 0, 0⟩
theorem blE_len (x : Bl) : (blE x).length = 5 := rfl
theorem blE_one (x : Bl) : ∀ u ∈ blE x, u.oneCell' = true := by
  intro u hu; simp only [blE, List.mem_cons, List.not_mem_nil, or_false] at hu
  rcases hu with rfl | rfl | rfl | rfl | rfl <;> rfl
structure BlW (x : Bl) : Prop where
  ven : I64 x.ven
  num : I64 x.num
  ord : I64 x.ord
  cop : I64 x.cop
  amt : I64 x.amt
abbrev Bls (w : World) (B : Nat) (A : Option Addr) (n c : Nat) (xs : List Bl) : Prop := Sl blE 5 w B A n c xs
theorem bl_cells {w : World} {b o : Nat} {x : Bl} (h : ∀ j u, (blE x)[j]? = some u → w.cell? ⟨b, o + j, none⟩ = some u) :
    w.cell? ⟨b, o, none⟩ = some (.int .i64 x.ven) ∧ w.cell? ⟨b, o + 1, none⟩ = some (.int .i64 x.num) ∧ w.cell? ⟨b, o + 2, none⟩ = some (.int .i64 x.ord) ∧ w.cell? ⟨b, o + 3, none⟩ = some (.int .i64 x.cop) ∧ w.cell? ⟨b, o + 4, none⟩ = some (.int .i64 x.amt) :=
  ⟨h 0 _ rfl, h 1 _ rfl, h 2 _ rfl, h 3 _ rfl, h 4 _ rfl⟩
theorem Bls_at {w : World} {B : Nat} {A : Option Addr} {n c : Nat} {xs : List Bl} (h : Bls w B A n c xs) {k : Nat} (hk : k < n) :
    ∃ b off x, A = some ⟨b, off, none⟩ ∧ b < B ∧ xs[k]? = some x ∧
     w.cell? ⟨b, off + k * 5, none⟩ = some (.int .i64 x.ven) ∧ w.cell? ⟨b, off + k * 5 + 1, none⟩ = some (.int .i64 x.num) ∧ w.cell? ⟨b, off + k * 5 + 2, none⟩ = some (.int .i64 x.ord) ∧ w.cell? ⟨b, off + k * 5 + 3, none⟩ = some (.int .i64 x.cop) ∧ w.cell? ⟨b, off + k * 5 + 4, none⟩ = some (.int .i64 x.amt) := by
  obtain ⟨b, off, x, hA, hb, hx, hc⟩ := h.at_ hk
  exact ⟨b, off, x, hA, hb, hx, bl_cells hc⟩
theorem bl_box {w w' : World} {g : Nat} {x : Bl} (h : Box w g 43 (blC x)) (hb : Below (g + 1) w w') : Box w' g 43 (blC x) ∧
    (w'.cell? ⟨g, 0, none⟩ = some (.int .i64 x.ven) ∧ w'.cell? ⟨g, 1, none⟩ = some (.int .i64 x.num) ∧ w'.cell? ⟨g, 2, none⟩ = some (.int .i64 x.ord) ∧ w'.cell? ⟨g, 3, none⟩ = some (.int .i64 x.cop) ∧ w'.cell? ⟨g, 4, none⟩ = some (.int .i64 x.amt)) :=
  have h' := h.below hb (by omega)
  ⟨h', h'.cell 0, h'.cell 1, h'.cell 2, h'.cell 3, h'.cell 4⟩
theorem below_bl {B : Nat} {a w : World} (h : Below B a w) {b : Nat} (hb : B ≤ b) (u0 u1 u2 u3 u4 : Value) :
    Below B a (((((w.setCell ⟨b, 0, none⟩ u0).setCell ⟨b, 1, none⟩ u1).setCell ⟨b, 2, none⟩ u2).setCell ⟨b, 3, none⟩ u3).setCell ⟨b, 4, none⟩ u4) :=
  ((((h.setCell hb u0).setCell hb u1).setCell hb u2).setCell hb u3).setCell hb u4

theorem bl_struct : Tryz.prog.underlying 43 = some (.struct (Tryz.prog.fieldsOf 43)) := by kernel_rfl
theorem bl_stood : Tryz.prog.stoodInHeld 43 = false := by kernel_rfl
theorem bl_guard : Tryz.prog.eqGuardType Tryz.prog.depth 43 = false := by kernel_rfl
theorem bl_eq (x y : Bl) (w : World) : (Op.equalIn 10000 43 (blV x) (blV y)).run Tryz.prog w = .ok (decide (x = y)) w := by
  obtain ⟨a0, a1, a2, a3, a4⟩ := x
  obtain ⟨b0, b1, b2, b3, b4⟩ := y
  have u3 := Tryz.underlying3
  have u4 := Tryz.underlying4
  simp only [blV]
  rw [show (10000 : Nat) = 9999 + 1 from rfl, run_equalIn_agg w 9999 43 _ _ bl_struct bl_stood]
  simp only [Program.fieldsOf, Tryz.underlying43]
  go_simp
  by_cases h0 : a0 = b0
  case neg => simp [h0]
  by_cases h1 : a1 = b1
  case neg => simp [h0, h1]
  by_cases h2 : a2 = b2
  case neg => simp [h0, h1, h2]
  by_cases h3 : a3 = b3
  case neg => simp [h0, h1, h2, h3]
  by_cases h4 : a4 = b4
  case neg => simp [h0, h1, h2, h3, h4]
  subst h0 h1 h2 h3 h4
  simp
theorem bl_neq (x y : Bl) (w : World) : (binOp .neq 43 (blV x) (blV y)).run Tryz.prog w = .ok (.bool (!decide (x = y))) w := by
  have h := bl_eq x y w
  unfold blV at h ⊢
  rw [run_neq_struct, h]; rfl
theorem bl_eql (x y : Bl) (w : World) : (binOp .eql 43 (blV x) (blV y)).run Tryz.prog w = .ok (.bool (decide (x = y))) w := by
  have h := bl_eq x y w
  unfold blV at h ⊢
  rw [run_eql_struct, h]; rfl


/-- slices.IndexFunc: whatever predicate that lays only blocks of its own. -/
theorem bl_indexFunc (g : Nat) (lb : Array Value) (p : Bl → Bool) (eg : ∀ args w, (callFunc g args).run Tryz.prog w = .ok (.enter g args) w)
    (A : Option Addr) (n c : Nat) (xs : List Bl) (w : World) (hs : Bls w w.heap.size A n c xs)
    (hp : ∀ W x, x ∈ xs → Below w.heap.size w W → Calls Tryz.prog g (#[blV x] ++ lb) W fun e w' => e = .returned (.bool (p x)) ∧ Below W.heap.size W w') :
    Calls Tryz.prog 128 #[.slice A n c, .func (.func g) #[] lb] w fun e w' => e = .returned (.int .i64 (ix p xs)) ∧ Below w.heap.size w w' := by
  have hle := hs.le
  have hbig := hs.big
  have HP := hide hp
  clear hp
  go_enter Tryz.func128, Tryz.ntmps128
  go_wp2
  go_loopw [5, 8] (fun _ s8 wr => ∃ k : Nat, k ≤ n ∧ s8 = .int .i64 k ∧ Below w.heap.size w wr ∧ ix p xs = idxP p (xs.drop k) k) (fun _ s8 _ => n - (intOf s8).toNat)
  case atStart => exact ⟨0, Nat.zero_le _, rfl, Below.refl _ _, rfl⟩
  case round =>
    obtain ⟨k, hk, rfl, hb, ha⟩ := hrel
    have HA := hide ha
    have HB := hide hb
    clear ha hb
    by_cases hlt : k < n
    · obtain ⟨b, off, x, rfl, hbB, hx, c0, c1, c2, c3, c4⟩ := Bls_at (hs.below HB.out) hlt
      have HX := hide (idxP_step (p := p) hx)
      have hcall := HP.out wr x (List.mem_of_getElem? hx) HB.out
      have HS := hide hs
      clear hx hs
      unfold blV at hcall
      generalize hq : p x = q at hcall
      have HQ := hide hq
      clear hq
      cases q with
      | true =>
        go_wp2_with (go_at_fn g; refine hcall.mono ?_; rintro e w' ⟨rfl, hb'⟩)
        go_ret
        exact ⟨ret_int (by rw [HA.out, HX.out, if_pos HQ.out]), HB.out.trans (hb'.mono HB.out.size)⟩
      | false =>
        go_wp2_with (go_at_fn g; refine hcall.mono ?_; rintro e w' ⟨rfl, hb'⟩)
        go_roundw
        case rel => exact ⟨k + 1, by omega, by go_num, HB.out.trans (hb'.mono HB.out.size), by rw [HA.out, HX.out, if_neg (by rw [HQ.out]; decide)]⟩
        case measure => simp [intOf]; omega
    · go_wp2
      go_ret
      exact ⟨ret_int (by rw [HA.out, idxP_end (by have := hs.len; omega)]), HB.out⟩
theorem bl_containsFunc (g : Nat) (lb : Array Value) (p : Bl → Bool) (eg : ∀ args w, (callFunc g args).run Tryz.prog w = .ok (.enter g args) w)
    (A : Option Addr) (n c : Nat) (xs : List Bl) (w : World) (hs : Bls w w.heap.size A n c xs)
    (hp : ∀ W x, x ∈ xs → Below w.heap.size w W → Calls Tryz.prog g (#[blV x] ++ lb) W fun e w' => e = .returned (.bool (p x)) ∧ Below W.heap.size W w') :
    Calls Tryz.prog 71 #[.slice A n c, .func (.func g) #[] lb] w fun e w' => e = .returned (.bool (decide (0 ≤ ix p xs))) ∧ Below w.heap.size w w' := by
  have HP := hide hp
  have HS := hide hs
  clear hp hs
  go_enter Tryz.func71, Tryz.ntmps71
  go_wp2_with (go_at_call 128; refine (bl_indexFunc g lb p eg A n c xs _ HS.out HP.out).mono ?_; rintro e w' ⟨rfl, hb'⟩)
  go_ret
  exact ⟨rfl, hb'⟩

theorem bl_info : (Tryz.prog.info? 43).map (fun i => (i.zero, i.size, i.bytes)) = some (some (.agg #[.int .i64 0, .int .i64 0, .int .i64 0, .int .i64 0, .int .i64 0]), 5, 40) := by kernel_rfl
/-- A new row that reads as xs (nil where there is none). -/
abbrev Blo (w : World) (B : Nat) (v : Value) (xs : List Bl) : Prop := w.ownsRow B 43 5 v xs.length (xs.flatMap blE)
theorem Blo_sl {w : World} {B : Nat} {v : Value} {xs : List Bl} (h : Blo w B v xs) (hn : xs.length ≤ 140737488355328) : ∃ A c, v = .slice A xs.length c ∧ Bls w w.heap.size A xs.length c xs := by
  have h' := h
  rcases h.2 with ⟨rfl, h0⟩ | ⟨g, cap, _, rfl, _⟩
  · refine ⟨none, 0, by rw [h0], ?_⟩
    unfold Blo at h'
    rw [h0] at h' ⊢
    exact Sl.of_own blE_len h' h0 (by omega)
  · exact ⟨_, cap, rfl, Sl.of_own blE_len h' rfl hn⟩
theorem bl_clone (A : Option Addr) (n c : Nat) (xs : List Bl) (w : World) (hs : Bls w w.heap.size A n c xs) (hn : n ≤ 1000) :
    Calls Tryz.prog 76 #[.slice A n c] w fun e w' => ∃ v, e = .returned v ∧ Blo w' w.heap.size v xs ∧ Below w.heap.size w w' := by
  obtain ⟨i0, hi, hz0, hz1, hz2⟩ := info_parts bl_info
  have HS := hide hs
  have hnl := hs.nl
  clear hs
  cases A with
  | none =>
    have hx : xs = [] := by
      have h1 := HS.out.len; have h2 := HS.out.nl rfl; have h3 := HS.out.le
      exact List.eq_nil_of_length_eq_zero (by omega)
    subst hx
    clear hnl
    have q22 : ∀ (w : World) (a : Option Addr) (n c n' c' : Nat), (binOp .eql 24 (.slice a n c) (.slice none n' c')).run Tryz.prog w = .ok (.bool a.isNone) w := fun w a n c n' c' => Lib.run_eql_slice_nil w _ _ a n c n' c' Tryz.underlying24
    go_enter Tryz.func76, Tryz.ntmps76
    go_wp2
    go_ret
    exact ⟨_, rfl, World.ownsRow_nil _ _ _ _, Below.refl _ _⟩
  | some ad =>
    clear hnl
    have q22 : ∀ (w : World) (a : Option Addr) (n c n' c' : Nat), (binOp .eql 24 (.slice a n c) (.slice none n' c')).run Tryz.prog w = .ok (.bool a.isNone) w := fun w a n c n' c' => Lib.run_eql_slice_nil w _ _ a n c n' c' Tryz.underlying24
    go_enter Tryz.func76, Tryz.ntmps76
    go_wp2_with (at_builtin; go_must (refine wpList_append_sl _ rfl _ _ 24 rfl w.heap.size 43 i0 _ 40 Tryz.underlying24 hi hz0 hz1 hz2 rfl (by decide) blE_len blE_one _ 0 [] rfl (World.ownsRow_made w #[] 0 (Nat.le_refl _) (Nat.zero_le _) rfl) (some ad) n c rfl (HS.out.alloc (Nat.le_refl _) _) (by unfold maxLen; omega) (by omega) (by simp) ?_))
    intro v' w1 hown hg hat
    go_wp2
    go_ret
    refine ⟨v', rfl, ?_, ((Below.refl _ w).alloc (Nat.le_refl _) _).grown hg (by simp) (by intro k hk; simp [Value.ownBlock] at hk; omega)⟩
    have hl := HS.out.len
    subst hl
    simpa using hown
end Go.Proofs.YtbhndfphegflhaaGreat

/- Walks: the reference's Get and Reserved. -/
namespace Go.Proofs.YtbhndfphegflhaaGreat
open Go.RowKit

theorem getP_step {xs : List Od} {k : Nat} {x : Od} {id : Int} (h : xs[k]? = some x) : getO (xs.drop k) id = if (x.id == id) = true then (x, true) else getO (xs.drop (k + 1)) id := by
  obtain ⟨hk, rfl⟩ := List.getElem?_eq_some_iff.1 h
  rw [List.drop_eq_getElem_cons hk]
  unfold getO
  rw [List.find?_cons]
  cases hq : (xs[k].id == id) <;> simp
theorem getP_end {xs : List Od} {k : Nat} {id : Int} (h : xs.length ≤ k) : getO (xs.drop k) id = (od0, false) := by
  rw [List.drop_eq_nil_of_le h]; rfl

set_option maxHeartbeats 1000000 in
theorem rget_any (A : Option Addr) (n c : Nat) (xs : List Od) (id : Int) (w : World) (hs : Ods w w.heap.size A n c xs) :
    Calls Tryz.prog 30 #[.slice A n c, .int .i64 id] w fun e w' => e = .returned (.tuple #[odV (getO xs id).1, .bool (getO xs id).2]) ∧ Below w.heap.size w w' := by
  have hle := hs.le
  have hbig := hs.big
  have HS := hide hs
  have hlen := hide hs.len
  clear hs
  go_enter Tryz.func30, Tryz.ntmps30
  go_wp2
  go_loop [6] (fun i => ∃ k : Nat, k ≤ n ∧ i = .int .i64 k ∧ getO xs id = getO (xs.drop k) id) (fun i => n - (intOf i).toNat)
  case atStart => exact ⟨0, Nat.zero_le _, rfl, rfl⟩
  case round =>
    obtain ⟨k, hk, rfl, ha⟩ := hrel
    have HA := hide ha
    clear ha
    by_cases hlt : k < n
    · obtain ⟨b, off, x, rfl, hbB, hx, c0, c1, c2, c3, c4, c5, c6, c7, c8, c9⟩ := Ods_at HS.out hlt
      have HX := hide (getP_step (id := id) hx)
      clear hx
      by_cases hq : (x.id == id) = true
      · have e1 : getO xs id = (x, true) := by rw [HA.out, HX.out, if_pos hq]
        have E1 := hide e1
        clear e1
        go_wp2
        refine bodyPost_ret (v := .tuple #[odV x, .bool true]) (by simp [results, Tryz.results30, go_sem, odV]) rfl ⟨by rw [E1.out], ?_⟩
        exact (Below.refl _ _).alloc (Nat.le_refl _) _
      · have HN := hide hq
        have hq' : (x.id == id) = false := by simpa using hq
        clear hq
        go_wp2
        go_round
        case rel => exact ⟨k + 1, by omega, by go_num, by rw [HA.out, HX.out, if_neg HN.out]⟩
        case measure => simp [intOf]; omega
    · have e1 : getO xs id = (od0, false) := by rw [HA.out, getP_end (by have := hlen.out; omega)]
      have E1 := hide e1
      clear e1
      go_wp2
      refine bodyPost_ret (v := .tuple #[odV od0, .bool false]) (by simp [results, Tryz.results30, go_sem, odV, od0]) rfl ⟨by rw [E1.out], ?_⟩
      exact (Below.refl _ _).alloc (Nat.le_refl _) _
theorem rresv_any (x : Od) (w : World) (hm : OdM x) : Calls Tryz.prog 67 #[odV x] w fun e w' => e = .returned (.int .i64 (resvO x)) ∧ Below w.heap.size w w' := by
  obtain ⟨_, ⟨p1, p2⟩, ⟨p3, p4⟩, ⟨p5, p6⟩, ⟨p7, p8⟩, _⟩ := hm
  have hw1 : IntKind.i64.wrap (x.cop - x.bil) = x.cop - x.bil := by rw [IntKind.wrap_i64]; omega
  have hw2 : IntKind.i64.wrap (x.rcv - x.bil) = x.rcv - x.bil := by rw [IntKind.wrap_i64]; omega
  have g1 : 0 ≤ (x.cop - x.bil) * x.pri := Int.mul_nonneg (by omega) (by omega)
  have g2 : (x.cop - x.bil) * x.pri ≤ 99 * 1000000 := Int.mul_le_mul (by omega) p4 (by omega) (by omega)
  have g3 : 0 ≤ (x.rcv - x.bil) * x.pri := Int.mul_nonneg (by omega) (by omega)
  have g4 : (x.rcv - x.bil) * x.pri ≤ 99 * 1000000 := Int.mul_le_mul (by omega) p4 (by omega) (by omega)
  have hw3 : IntKind.i64.wrap ((x.cop - x.bil) * x.pri) = (x.cop - x.bil) * x.pri := by rw [IntKind.wrap_i64]; omega
  have hw4 : IntKind.i64.wrap ((x.rcv - x.bil) * x.pri) = (x.rcv - x.bil) * x.pri := by rw [IntKind.wrap_i64]; omega
  unfold odV
  by_cases h1 : x.st = 1
  · have hr : resvO x = (x.cop - x.bil) * x.pri := by unfold resvO; rw [if_pos h1]
    rw [hr]
    clear hr g3 g4 hw2 hw4
    rw [h1]
    clear h1
    go_enter Tryz.func67, Tryz.ntmps67
    go_wp2
    go_ret
    exact ⟨ret_int (by first | rfl | omega), (Below.refl _ _).alloc (Nat.le_refl _) _⟩
  · by_cases h3 : x.st = 3
    · have hr : resvO x = (x.rcv - x.bil) * x.pri := by unfold resvO; rw [if_neg h1, if_pos h3]
      rw [hr]
      clear hr g1 g2 hw1 hw3
      rw [h3]
      clear h1 h3
      go_enter Tryz.func67, Tryz.ntmps67
      go_wp2
      go_ret
      exact ⟨ret_int (by first | rfl | omega), (Below.refl _ _).alloc (Nat.le_refl _) _⟩
    · have hr : resvO x = 0 := by unfold resvO; rw [if_neg h1, if_neg h3]
      rw [hr]
      have hb1 : (x.st == 1) = false := by simpa using h1
      have hb3 : (x.st == 3) = false := by simpa using h3
      clear hr g1 g2 g3 g4 hw1 hw2 hw3 hw4 h1 h3
      go_enter Tryz.func67, Tryz.ntmps67
      go_wp2
      go_ret
      exact ⟨rfl, (Below.refl _ _).alloc (Nat.le_refl _) _⟩
end Go.Proofs.YtbhndfphegflhaaGreat

/- Walks: slices.SortStableFunc of at most 20 ints (one block: an insertion sort). -/
namespace Go.Proofs.YtbhndfphegflhaaGreat
open Go.RowKit

/-! ### plain -/
def insK (cf : Int → Int → Int) (x : Int) (P : List Int) : Nat → Nat
  | 0 => 0
  | j + 1 => if cf x (P.getD j 0) < 0 then insK cf x P j else j + 1
def insF (cf : Int → Int → Int) (x : Int) (P : List Int) : List Int := P.take (insK cf x P P.length) ++ x :: P.drop (insK cf x P P.length)
def isort (cf : Int → Int → Int) (d : List Int) : List Int := d.foldl (fun P x => insF cf x P) []
theorem insK_le (cf : Int → Int → Int) (x : Int) (P : List Int) : ∀ j, insK cf x P j ≤ j
  | 0 => Nat.le_refl _
  | j + 1 => by
    rw [insK]; split
    · exact Nat.le_trans (insK_le cf x P j) (by omega)
    · exact Nat.le_refl _
theorem insF_len (cf : Int → Int → Int) (x : Int) (P : List Int) : (insF cf x P).length = P.length + 1 := by
  have := insK_le cf x P P.length
  unfold insF; simp; omega
theorem isort_snoc (cf : Int → Int → Int) (d : List Int) (x : Int) : isort cf (d ++ [x]) = insF cf x (isort cf d) := by
  unfold isort; rw [List.foldl_append]; rfl
theorem isort_len (cf : Int → Int → Int) (d : List Int) : (isort cf d).length = d.length := by
  have : ∀ (d P : List Int), (d.foldl (fun P x => insF cf x P) P).length = P.length + d.length := by
    intro d
    induction d with
    | nil => intro P; rfl
    | cons x r ih => intro P; rw [List.foldl_cons, ih, insF_len, List.length_cons]; omega
  have h := this d []
  simpa [isort] using h
theorem insF_mem {cf : Int → Int → Int} {x : Int} {P : List Int} {y : Int} : y ∈ insF cf x P ↔ y = x ∨ y ∈ P := by
  unfold insF
  rw [List.mem_append, List.mem_cons]
  constructor
  · rintro (h | h | h)
    · exact .inr (List.mem_of_mem_take h)
    · exact .inl h
    · exact .inr (List.mem_of_mem_drop h)
  · rintro (h | h)
    · exact .inr (.inl h)
    · rw [← List.take_append_drop (insK cf x P P.length) P] at h
      rcases List.mem_append.1 h with h | h
      · exact .inl h
      · exact .inr (.inr h)
theorem isort_mem {cf : Int → Int → Int} {d : List Int} {y : Int} : y ∈ isort cf d ↔ y ∈ d := by
  have : ∀ (d P : List Int), y ∈ d.foldl (fun P x => insF cf x P) P ↔ y ∈ P ∨ y ∈ d := by
    intro d
    induction d with
    | nil => intro P; simp
    | cons x r ih =>
      intro P; rw [List.foldl_cons, ih, insF_mem, List.mem_cons]
      constructor
      · rintro ((h | h) | h)
        · exact .inr (.inl h)
        · exact .inl h
        · exact .inr (.inr h)
      · rintro (h | h | h)
        · exact .inl (.inr h)
        · exact .inl (.inl h)
        · exact .inr h
  have h := this d []
  simpa [isort] using h

/-- The element x on its way to the left. -/
def slid (P : List Int) (x : Int) (R : List Int) (j : Nat) : List Int := P.take j ++ x :: P.drop j ++ R
theorem slid_len {P : List Int} {x : Int} {R : List Int} {j : Nat} (h : j ≤ P.length) : (slid P x R j).length = P.length + 1 + R.length := by unfold slid; simp; omega
theorem slid_at {P : List Int} {x : Int} {R : List Int} {j : Nat} (h : j ≤ P.length) : (slid P x R j)[j]? = some x := by
  unfold slid
  rw [List.append_assoc, List.getElem?_append_right (by simp; omega)]
  simp [Nat.min_eq_left h]
theorem slid_prev {P : List Int} {x : Int} {R : List Int} {j : Nat} (h : j + 1 ≤ P.length) : (slid P x R (j + 1))[j]? = some (P.getD j 0) := by
  unfold slid
  rw [List.append_assoc, List.getElem?_append_left (by simp; omega), List.getElem?_take, if_pos (by omega), List.getD_eq_getElem?_getD, List.getElem?_eq_getElem (by omega)]; rfl
theorem slid_swap {P : List Int} {x : Int} {R : List Int} {j : Nat} (h : j + 1 ≤ P.length) : ((slid P x R (j + 1)).set (j + 1) (P.getD j 0)).set j x = slid P x R j := by
  obtain ⟨a, ha⟩ : ∃ a, P[j]? = some a := ⟨_, List.getElem?_eq_getElem (by omega)⟩
  have h1 : P.take (j + 1) = P.take j ++ [a] := take_step ha
  have h2 : P.drop j = a :: P.drop (j + 1) := by
    obtain ⟨hj, rfl⟩ := List.getElem?_eq_some_iff.1 ha
    rw [List.drop_eq_getElem_cons hj]
  have h3 : P.getD j 0 = a := by rw [List.getD_eq_getElem?_getD, ha]; rfl
  have hl : (P.take j).length = j := by simp; omega
  unfold slid
  rw [h1, h2, h3]
  simp only [List.append_assoc, List.cons_append, List.nil_append]
  rw [List.set_append_right _ _ (by omega), hl, show j + 1 - j = 1 from by omega]
  simp only [List.set_cons_succ, List.set_cons_zero]
  rw [List.set_append_right _ _ (by omega), hl, Nat.sub_self]
  simp

/-! ### the world of the sort: row g reads as ds; nothing older has changed -/
def iv (x : Int) : Value := .int .i64 x
structure SWi (w0 : World) (g : Nat) (ds : List Int) (W : World) : Prop where
  box : Box W g 3 (ds.map iv).toArray
  old : Below g w0 W
theorem SWi.cell {w0 W : World} {g : Nat} {ds : List Int} (h : SWi w0 g ds W) {j : Nat} {x : Int} (hx : ds[j]? = some x) : W.cell? ⟨g, j, none⟩ = some (.int .i64 x) := by
  rw [h.box.cell]; simp [hx, iv]
theorem SWi.drewN {w0 W : World} {g : Nat} {ds : List Int} (h : SWi w0 g ds W) (m : Nat) : SWi w0 g ds (W.drewN m) := ⟨h.box.drewN m, below_drewN h.old m⟩
theorem SWi.drew {w0 W : World} {g : Nat} {ds : List Int} (h : SWi w0 g ds W) : SWi w0 g ds W.drew := ⟨h.box.drew, h.old.drew⟩
theorem SWi.set {w0 W : World} {g : Nat} {ds : List Int} (h : SWi w0 g ds W) (j : Nat) (x : Int) : SWi w0 g (ds.set j x) (W.setCell ⟨g, j, none⟩ (.int .i64 x)) := by
  refine ⟨?_, h.old.setCell (Nat.le_refl _) _⟩
  have := h.box.set_ j (.int .i64 x)
  rw [List.map_set]
  simpa [iv] using this

/-- What the comparing function does in each world of the sort. -/
def Cmpi (f : Nat) (cb : Array Value) (cf : Int → Int → Int) (Pd : Int → Prop) (g : Nat) (w0 : World) : Prop :=
  ∀ W x y, Pd x → Pd y → Below g w0 W → Calls Tryz.prog f (#[.int .i64 x, .int .i64 y] ++ cb) W fun e w' => e = .returned (.int .i64 (cf x y)) ∧ ∃ q, w' = W.drewN q

set_option maxRecDepth 100000 in
set_option maxHeartbeats 4000000 in
theorem insertion_any (f : Nat) (cb : Array Value) (cf : Int → Int → Int) (Pd : Int → Prop) (g cap : Nat) (d : List Int) (w0 w : World) (eg : ∀ args w, (callFunc f args).run Tryz.prog w = .ok (.enter f args) w)
    (hcmp : Cmpi f cb cf Pd g w0) (hs : SWi w0 g d w) (hd : ∀ x ∈ d, Pd x) (hcap : d.length ≤ cap) (hn : d.length ≤ 1000) :
    Calls Tryz.prog 209 #[.slice (some ⟨g, 0, none⟩) d.length cap, .int .i64 0, .int .i64 d.length, .func (.func f) #[] cb] w fun e w' => e = .returned (.tuple #[]) ∧ SWi w0 g (isort cf d) w' := by
  have HC := hide hcmp
  have HS := hide hs
  have HD := hide hd
  clear hcmp hs hd
  go_enter Tryz.func209, Tryz.ntmps209
  go_wp2
  go_loopw [8] (fun s8 wr => ∃ i : Nat, 1 ≤ i ∧ i ≤ d.length + 1 ∧ s8 = .int .i64 i ∧ SWi w0 g (isort cf (d.take i) ++ d.drop i) wr) (fun s8 _ => d.length + 1 - (intOf s8).toNat)
  case atStart =>
    refine ⟨1, Nat.le_refl _, by omega, by go_num, ?_⟩
    have : isort cf (d.take 1) ++ d.drop 1 = d := by
      match d with
      | [] => rfl
      | [a] => rfl
      | a :: b :: r => rfl
    rw [this]; exact HS.out
  case round =>
    obtain ⟨i, hi1, hi2, rfl, hsw⟩ := hrel
    have HW := hide hsw
    clear hsw HS
    by_cases hlt : i < d.length
    · have hltz : (i : Int) < (d.length : Int) := by omega
      obtain ⟨x, hx⟩ : ∃ x, d[i]? = some x := ⟨_, List.getElem?_eq_getElem hlt⟩
      obtain ⟨P, hP⟩ : ∃ P, P = isort cf (d.take i) := ⟨_, rfl⟩
      obtain ⟨R, hR⟩ : ∃ R, R = d.drop (i + 1) := ⟨_, rfl⟩
      have hPl : P.length = i := by rw [hP, isort_len, List.length_take]; omega
      have hRl : R.length = d.length - (i + 1) := by rw [hR, List.length_drop]
      have hst : isort cf (d.take i) ++ d.drop i = slid P x R i := by
        have t1 : P.take i = P := List.take_of_length_le (by omega)
        have t2 : P.drop i = [] := List.drop_of_length_le (by omega)
        obtain ⟨_, rfl⟩ := List.getElem?_eq_some_iff.1 hx
        unfold slid
        rw [← hP, t1, t2, hR, List.drop_eq_getElem_cons hlt]
        simp
      have hend : isort cf (d.take (i + 1)) ++ d.drop (i + 1) = slid P x R (insK cf x P i) := by
        rw [take_step hx, isort_snoc]
        unfold slid insF
        rw [← hP, hPl, ← hR]
      have hPd : ∀ y ∈ P, Pd y := fun y hy => HD.out y (List.mem_of_mem_take (isort_mem.1 (hP ▸ hy)))
      have hxd : Pd x := HD.out x (List.mem_of_getElem? hx)
      have HST := hide hst
      have HEND := hide hend
      have HPD := hide hPd
      have HXD := hide hxd
      have HPL := hide hPl
      have hW2 : SWi w0 g (slid P x R i) wr := by rw [← HST.out]; exact HW.out
      have HW2 := hide hW2
      clear hx hP hR hst hend hPd hxd hPl hW2 HW
      go_wp2
      go_loopw [9] (fun s9 wr => ∃ j : Nat, j ≤ i ∧ s9 = .int .i64 j ∧ SWi w0 g (slid P x R j) wr ∧ insK cf x P i = insK cf x P j) (fun s9 _ => (intOf s9).toNat)
      case atStart => exact ⟨i, Nat.le_refl _, rfl, HW2.out, rfl⟩
      case round =>
        obtain ⟨j, hj, rfl, hsw, hk⟩ := hrel
        have HW := hide hsw
        have HK := hide hk
        clear hsw hk HW2
        have hjn : j < d.length := by omega
        have hjc : j < cap := by omega
        by_cases hj0 : 0 < j
        · obtain ⟨q, rfl⟩ : ∃ q, j = q + 1 := ⟨j - 1, by omega⟩
          have e1 : IntKind.i64.wrap ((q : Int) + 1 - 1) = (q : Int) := by rw [IntKind.wrap_i64]; omega
          have e2 : ((q : Int) + 1).toNat = q + 1 := by omega
          have e3 : (0 : Int) ≤ (q : Int) + 1 := by omega
          have e4 : (0 : Int) < (q : Int) + 1 := by omega
          have e5 : (q : Int) + 1 < (d.length : Int) := by omega
          have e6 : q < d.length := by omega
          have e7 : ((q : Int) + 1 - 1) = (q : Int) := by omega
          have l0 := HW.out.cell (slid_at (P := P) (x := x) (R := R) (j := q + 1) (by rw [HPL.out]; omega))
          have l1 := HW.out.cell (slid_prev (P := P) (x := x) (R := R) (j := q) (by rw [HPL.out]; omega))
          obtain ⟨y, hy⟩ : ∃ y, y = P.getD q 0 := ⟨_, rfl⟩
          rw [← hy] at l1
          have hyP : Pd y := by
            rw [hy, List.getD_eq_getElem?_getD, List.getElem?_eq_getElem (by rw [HPL.out]; omega)]
            exact HPD.out _ (List.getElem_mem _)
          have hcall := fun W hW => HC.out W x y HXD.out hyP hW
          have HY := hide hy
          have HCA := hide hcall
          clear hy hyP hcall
          have hjd : decide ((q : Int) + 1 > 0) = true := decide_eq_true e4
          by_cases hv : cf x y < 0
          · have hvd : decide (cf x y < 0) = true := by simpa using hv
            have HV := hide hv
            clear hv
            go_wp2_with fail
            go_quiet ((go_at_fn f; exact Calls.quiet_of (HCA.out _ (by first | exact HW.out.old | exact HW.out.old.drew | exact below_drewN HW.out.old _ | exact below_drewN HW.out.old.drew _))))
            generalize hw2 : wr.drewN nq = w2
            have S2 : SWi w0 g (slid P x R (q + 1)) w2 := by rw [← hw2]; exact HW.out.drewN nq
            have HS2 := hide S2
            have m0 := S2.cell (slid_at (P := P) (x := x) (R := R) (j := q + 1) (by rw [HPL.out]; omega))
            have m1 : w2.cell? ⟨g, q, none⟩ = some (.int .i64 y) := by rw [HY.out]; exact S2.cell (slid_prev (P := P) (x := x) (R := R) (j := q) (by rw [HPL.out]; omega))
            have m2 := fun j => S2.box.frz j
            clear hw2 S2 l0 l1 HCA HW
            go_wp2_with fail
            go_big_region
            have S3 := (HS2.out.set (q + 1) y).set q x
            rw [HY.out, slid_swap (by rw [HPL.out]; omega), ← HY.out] at S3
            have HS3 := hide S3
            clear S3 HS2 m0 m1 m2
            go_wp2
            go_roundw
            case rel => exact ⟨q, by omega, by go_num, HS3.out.drew, by rw [HK.out, insK, if_pos (by rw [← HY.out]; exact HV.out)]⟩
            case measure => simp [intOf]
          · have hvd : decide (cf x y < 0) = false := by simpa using hv
            have HV := hide hv
            clear hv
            go_wp2_with fail
            go_quiet ((go_at_fn f; exact Calls.quiet_of (HCA.out _ (by first | exact HW.out.old | exact HW.out.old.drew | exact below_drewN HW.out.old _ | exact below_drewN HW.out.old.drew _))))
            have HS2 := hide (HW.out.drewN nq)
            clear l0 l1 HCA HW
            go_wp2
            go_roundw
            case rel => exact ⟨i + 1, by omega, by omega, by go_num, by rw [HEND.out, HK.out, insK, if_neg (by rw [← HY.out]; have := HV.out; omega)]; exact HS2.out⟩
            case measure => simp [intOf]; omega
        · obtain rfl : j = 0 := by omega
          have hjd : decide ((0 : Int) > 0) = false := by decide
          go_wp2_with fail
          go_quiet (fail)
          have HS2 := hide (HW.out.drewN nq)
          clear HW
          go_wp2
          go_roundw
          case rel => exact ⟨i + 1, by omega, by omega, by go_num, by rw [HEND.out, HK.out]; exact HS2.out⟩
          case measure => simp [intOf]; omega
    · go_wp2
      go_end0
      refine ⟨rfl, ?_⟩
      have := HW.out
      rwa [List.take_of_length_le (by omega), List.drop_of_length_le (by omega), List.append_nil] at this

set_option maxHeartbeats 1000000 in
theorem stable_any (f : Nat) (cb : Array Value) (cf : Int → Int → Int) (Pd : Int → Prop) (g cap : Nat) (d : List Int) (w0 w : World) (eg : ∀ args w, (callFunc f args).run Tryz.prog w = .ok (.enter f args) w)
    (hcmp : Cmpi f cb cf Pd g w0) (hs : SWi w0 g d w) (hd : ∀ x ∈ d, Pd x) (hcap : d.length ≤ cap) (hn : d.length < 20) :
    Calls Tryz.prog 189 #[.slice (some ⟨g, 0, none⟩) d.length cap, .func (.func f) #[] cb] w fun e w' => e = .returned (.tuple #[]) ∧ SWi w0 g (isort cf d) w' := by
  have key : Calls Tryz.prog 201 #[.slice (some ⟨g, 0, none⟩) d.length cap, .int .i64 d.length, .func (.func f) #[] cb] w fun e w' => e = .returned (.tuple #[]) ∧ SWi w0 g (isort cf d) w' := by
    have HI := hide (insertion_any f cb cf Pd g cap d w0 w eg hcmp hs hd hcap (by omega))
    clear hcmp hs hd
    have h1 : ¬ (20 : Int) ≤ (d.length : Int) := by omega
    have h2 : ¬ (20 : Int) < (d.length : Int) := by omega
    go_enter Tryz.func201, Tryz.ntmps201
    go_wp2
    go_loop [7, 8] (fun a b => a = .int .i64 0 ∧ b = .int .i64 20) (fun _ _ => 0)
    case atStart => exact ⟨rfl, rfl⟩
    case round =>
      obtain ⟨rfl, rfl⟩ := hrel
      go_wp2_with fail
      refine HI.out.mono ?_
      rintro e w1 ⟨rfl, hs⟩
      have HS := hide hs
      clear hs HI
      go_wp2
      go_loop [6] (fun a => a = .int .i64 20) (fun _ => 0)
      case atStart => rfl
      case round =>
        obtain rfl := hrel
        go_wp2
        go_end0
        exact ⟨rfl, HS.out⟩
  have HK := hide key
  clear key hcmp hs hd
  go_enter Tryz.func189, Tryz.ntmps189
  go_wp2_with fail
  refine HK.out.mono ?_
  rintro e w1 ⟨rfl, hs⟩
  go_wp2
  go_end0
  exact ⟨rfl, hs⟩
end Go.Proofs.YtbhndfphegflhaaGreat

/- Dividing an amount by weights: what money.Share computes, as plain functions. No walk. -/
namespace Go.Proofs.YtbhndfphegflhaaGreat

def baseF (t S : Int) (ws : List Int) : List Int := ws.map (fun w => t * w / S)
def remF (t S : Int) (ws : List Int) (i : Int) : Int := t * ws.getD i.toNat 0 % S
def cfS (t S : Int) (ws : List Int) (a b : Int) : Int := remF t S ws b - remF t S ws a
def rangeI (n : Nat) : List Int := (List.range n).map Int.ofNat
def ordF (t S : Int) (ws : List Int) : List Int := isort (cfS t S ws) (rangeI ws.length)
def leftF (t S : Int) (ws : List Int) : Int := t - (baseF t S ws).sum
def bump1 (ps : List Int) (i : Int) : List Int := ps.set i.toNat (ps.getD i.toNat 0 + 1)
def bump (ps : List Int) (is : List Int) : List Int := is.foldl bump1 ps
def shareF (t : Int) (ws : List Int) : List Int := bump (baseF t ws.sum ws) ((ordF t ws.sum ws).take (leftF t ws.sum ws).toNat)

/-- Weights that are valid, of an amount that is one. -/
structure WsV (t : Int) (ws : List Int) : Prop where
  t0 : 0 ≤ t
  t1 : t ≤ 100000000
  n0 : 1 ≤ ws.length
  n1 : ws.length ≤ 16
  w : ∀ x ∈ ws, 1 ≤ x ∧ x ≤ 1000

theorem sum_bd : ∀ {ws : List Int}, (∀ x ∈ ws, 1 ≤ x ∧ x ≤ 1000) → (ws.length : Int) ≤ ws.sum ∧ ws.sum ≤ 1000 * ws.length
  | [], _ => by simp
  | x :: r, h => by
    have h1 := h x (by simp)
    have h2 := sum_bd (ws := r) (fun y hy => h y (by simp [hy]))
    rw [List.sum_cons, List.length_cons]; omega
theorem sum_step {ws : List Int} {k : Nat} {x : Int} (h : ws[k]? = some x) : (ws.take (k + 1)).sum = (ws.take k).sum + x := by
  rw [take_step h, List.sum_append]; simp
theorem sum_take_bd {ws : List Int} (h : ∀ x ∈ ws, 1 ≤ x ∧ x ≤ 1000) (k : Nat) : 0 ≤ (ws.take k).sum ∧ (ws.take k).sum ≤ 1000 * ws.length := by
  have := sum_bd (ws := ws.take k) (fun y hy => h y (List.mem_of_mem_take hy))
  have hl : (ws.take k).length ≤ ws.length := by rw [List.length_take]; exact Nat.min_le_right _ _
  omega
theorem WsV.S {t : Int} {ws : List Int} (h : WsV t ws) : 1 ≤ ws.sum ∧ ws.sum ≤ 16000 := by
  have := sum_bd h.w
  have := h.n0
  have := h.n1
  omega
theorem baseF_step {t S : Int} {ws : List Int} {k : Nat} {x : Int} (h : ws[k]? = some x) : (baseF t S (ws.take (k + 1))).sum = (baseF t S (ws.take k)).sum + t * x / S := by
  unfold baseF
  rw [take_step h, List.map_append, List.sum_append]; simp

/-- What is left over is S times less than the remainders together. -/
theorem left_mul {t S : Int} (hS : 0 < S) : ∀ ws : List Int, t * ws.sum - S * (baseF t S ws).sum = (ws.map (fun w => t * w % S)).sum
  | [] => by simp [baseF]
  | x :: r => by
    have ih := left_mul (t := t) hS r
    have e : S * (t * x / S) + t * x % S = t * x := Int.mul_ediv_add_emod (t * x) S
    simp only [baseF, List.map_cons, List.sum_cons] at ih ⊢
    rw [Int.mul_add, Int.mul_add]
    omega
theorem rem_sum {t S : Int} (hS : 0 < S) : ∀ ws : List Int, 0 ≤ (ws.map (fun w => t * w % S)).sum ∧ (ws.map (fun w => t * w % S)).sum ≤ ws.length * (S - 1)
  | [] => by simp
  | x :: r => by
    have ih := rem_sum hS r (t := t)
    have h1 := Int.emod_nonneg (t * x) (show S ≠ 0 by omega)
    have h2 := Int.emod_lt_of_pos (t * x) hS
    simp only [List.map_cons, List.sum_cons, List.length_cons]
    push_cast
    rw [Int.add_mul]
    omega
theorem left_bd {t : Int} {ws : List Int} (h : WsV t ws) : 0 ≤ leftF t ws.sum ws ∧ leftF t ws.sum ws < ws.length := by
  obtain ⟨s1, s2⟩ := h.S
  have h1 := left_mul (t := t) (S := ws.sum) (by omega) ws
  have h2 := rem_sum (t := t) (S := ws.sum) (by omega) ws
  have e : t * ws.sum - ws.sum * (baseF t ws.sum ws).sum = ws.sum * leftF t ws.sum ws := by unfold leftF; rw [Int.mul_sub, Int.mul_comm t]
  rw [e] at h1
  rw [← h1] at h2
  obtain ⟨h3, h4⟩ := h2
  have hn := h.n0
  constructor
  · by_cases hneg : leftF t ws.sum ws < 0
    · have : ws.sum * leftF t ws.sum ws < 0 := Int.mul_neg_of_pos_of_neg (by omega) hneg
      omega
    · omega
  · by_cases hge : (ws.length : Int) ≤ leftF t ws.sum ws
    · have h5 : ws.sum * (ws.length : Int) ≤ ws.sum * leftF t ws.sum ws := Int.mul_le_mul_of_nonneg_left hge (by omega)
      have h6 : (ws.length : Int) * (ws.sum - 1) = ws.sum * (ws.length : Int) - ws.length := by rw [Int.mul_sub, Int.mul_comm]; omega
      omega
    · omega
end Go.Proofs.YtbhndfphegflhaaGreat
