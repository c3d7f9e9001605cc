/- Texts laid together by merge.py: OdC, OdF, BlKit, OdG. -/
import Derived.Test.YtbhndfphegflhaaGreatMrg4
import Derived.Deep.QuietTactic
import Derived.BigQuiet
import Derived.Test.YtbhndfphegflhaaGreatMrg3
import Derived.Test.YtbhndfphegflhaaGreatMrg0
import Derived.Test.YtbhndfphegflhaaGreatProg
import Derived.Shelf.Abstract
set_option linter.unusedSimpArgs false
set_option linter.unusedVariables false
/- Walks: order.Right. Printed by gen_od_right.py. -/
namespace Go.Proofs.YtbhndfphegflhaaGreat
open Go.RowKit

set_option maxRecDepth 100000 in
set_option maxHeartbeats 2000000 in
theorem oright_any (A : Option Addr) (n c : Nat) (xs : List Od) (w : World) (hs : Ods w w.heap.size A n c xs) (hss : ∀ x ∈ xs, OdS w w.heap.size x) :
    Calls Tryz.prog 108 #[.slice A n c] w fun e w' => e = .returned (.int .i64 (rightO xs)) ∧ Below w.heap.size w w' := by
  obtain rfl := hs.len
  have hle := hs.le
  have hbig := hs.big
  have HS := hide hs
  have HSS := hide hss
  clear hs hss
  by_cases h64 : 64 < xs.length
  · have hr : rightO xs = 13 := by unfold rightO; rw [if_pos h64]
    rw [hr]
    clear hr
    go_enter Tryz.func108, Tryz.ntmps108
    go_wp2
    go_ret
    exact ⟨rfl, Below.refl _ _⟩
  · have hr : rightO xs = chkOs none xs := by unfold rightO; rw [if_neg h64]
    have HR := hide hr
    clear hr
    go_enter Tryz.func108, Tryz.ntmps108
    go_wp2
    go_loopw [11] (fun i wr => ∃ k : Nat, k ≤ xs.length ∧ i = .int .i64 k ∧ Below w.heap.size w wr ∧ chkOs none xs = chkOs (prevO xs k) (xs.drop k)) (fun i _ => xs.length - (intOf i).toNat)
    case atStart => exact ⟨0, Nat.zero_le _, rfl, Below.refl _ _, rfl⟩
    case round =>
      obtain ⟨k, hk, rfl, hb, ha⟩ := hrel
      have HA := hide ha
      have HB := hide hb
      have hz := hb.size
      clear ha hb
      by_cases hlt : k < xs.length
      · obtain ⟨b, off, x, rfl, hbB, hx, c0, c1, c2, c3, c4, c5, c6, c7, c8, c9⟩ := Ods_at (HS.out.below HB.out) hlt
        have HX := hide (chkOs_step hx)
        have HBW := hide (HB.out.alloc hz (.cells (odC x) 35))
        have hc := fun W (hW : Below w.heap.size w W) => ocheck_any x W (((HSS.out x (List.mem_of_getElem? hx)).below hW).more hW.size)
        generalize chkO x = ce at hc HX
        unfold odV at hc
        have HC := hide hc
        clear hx hc
        by_cases hk0 : k = 0
        · subst hk0
          simp only [Nat.zero_mul, Nat.add_zero] at c0 c1 c2 c3 c4 c5 c6 c7 c8 c9
          have HLE := hide (show ¬ (prevO xs 0).any (fun q => decide (x.id ≤ q)) = true from by rw [prevO, anyO_none]; decide)
          by_cases hce : (ce != 0) = true
          · have hn : ¬ ce = 0 := by simpa using hce
            have HCE := hide hce
            clear hce
            go_wp2_with fail
            go_quiet (fail)
            go_wp2_with fail
            refine (HC.out _ (below_drewN HBW.out _)).mono ?_
            rintro e w' ⟨rfl, hb'⟩
            go_wp2
            go_ret
            exact ⟨ret_int (by rw [HR.out, HA.out, HX.out, if_neg HLE.out, if_pos HCE.out]), (below_drewN HBW.out _).trans (hb'.mono (Below.size (below_drewN HBW.out _)))⟩
          · have hn : ce = 0 := by simpa using hce
            have HCE := hide hce
            clear hce
            subst hn
            go_wp2_with fail
            go_quiet (fail)
            go_wp2_with fail
            refine (HC.out _ (below_drewN HBW.out _)).mono ?_
            rintro e w' ⟨rfl, hb'⟩
            go_wp2
            go_roundw
            case rel => exact ⟨1, by omega, rfl, (below_drewN HBW.out _).trans (hb'.mono (Below.size (below_drewN HBW.out _))), by rw [HA.out, HX.out, if_neg HLE.out, if_neg HCE.out]⟩
            case measure => simp [intOf]; omega
        · obtain ⟨b', off', y, hA, hbB', hy, d0, d1, d2, d3, d4, d5, d6, d7, d8, d9⟩ := Ods_at (HS.out.below HB.out) (k := k - 1) (by omega)
          cases hA
          have hpr : prevO xs k = some y.id := by
            obtain ⟨j, rfl⟩ : ∃ j, k = j + 1 := ⟨k - 1, by omega⟩
            rw [prevO]
            simp only [Nat.add_sub_cancel] at hy
            rw [hy]; rfl
          have d0' := fun o => (World.cell?_alloc_lt wr o ⟨b, off + (k - 1) * 10, none⟩ (Nat.lt_of_lt_of_le hbB hz)).trans d0
          have HPR := hide hpr
          clear hy d1 d2 d3 d4 d5 d6 d7 d8 d9 hpr d0
          have hk1 : (0 : Int) < (k : Int) := by omega
          have hk2 : 0 < k := by omega
          by_cases hxy : x.id ≤ y.id
          · have HXY := hide hxy
            go_wp2_with fail
            go_quiet (fail)
            go_wp2
            go_ret
            exact ⟨ret_int (by rw [HR.out, HA.out, HX.out, HPR.out, if_pos (show (some y.id).any (fun q => decide (x.id ≤ q)) = true from decide_eq_true HXY.out)]), below_drewN HBW.out _⟩
          · have HLE := hide (show ¬ (prevO xs k).any (fun q => decide (x.id ≤ q)) = true from by rw [HPR.out]; simpa using hxy)
            have hd : decide (x.id ≤ y.id) = false := by simpa using hxy
            by_cases hce : (ce != 0) = true
            · have hn : ¬ ce = 0 := by simpa using hce
              have HCE := hide hce
              clear hce
              go_wp2_with fail
              go_quiet (fail)
              go_wp2_with fail
              refine (HC.out _ (below_drewN HBW.out _)).mono ?_
              rintro e w' ⟨rfl, hb'⟩
              go_wp2
              go_ret
              exact ⟨ret_int (by rw [HR.out, HA.out, HX.out, if_neg HLE.out, if_pos HCE.out]), (below_drewN HBW.out _).trans (hb'.mono (Below.size (below_drewN HBW.out _)))⟩
            · have hn : ce = 0 := by simpa using hce
              have HCE := hide hce
              clear hce
              subst hn
              go_wp2_with fail
              go_quiet (fail)
              go_wp2_with fail
              refine (HC.out _ (below_drewN HBW.out _)).mono ?_
              rintro e w' ⟨rfl, hb'⟩
              go_wp2
              go_roundw
              case rel => exact ⟨k + 1, by omega, by go_num, (below_drewN HBW.out _).trans (hb'.mono (Below.size (below_drewN HBW.out _))), by rw [HA.out, HX.out, if_neg HLE.out, if_neg HCE.out]⟩
              case measure => simp [intOf]; omega
      · obtain rfl : k = xs.length := by omega
        go_wp2
        go_ret
        exact ⟨ret_int (by rw [HR.out, HA.out, List.drop_length]; rfl), HB.out⟩
end Go.Proofs.YtbhndfphegflhaaGreat

/- What the operations on orders compute, as plain functions; walks: find, Get and Reserved of both. -/
namespace Go.Proofs.YtbhndfphegflhaaGreat
open Go.RowKit

def atO (xs : List Od) (id : Int) : Int := ix (fun x => x.id == id) xs
/-- The order with an ID, or the zero order; whether there is one. -/
def getO (xs : List Od) (id : Int) : Od × Bool := match xs.find? (fun x => x.id == id) with
  | some x => (x, true)
  | none => (od0, false)
theorem getO_cases (xs : List Od) (id : Int) :
    (atO xs id = -1 ∧ getO xs id = (od0, false) ∧ ∀ x ∈ xs, (x.id == id) = false) ∨
    ∃ (i : Nat) (x : Od), atO xs id = i ∧ xs[i]? = some x ∧ x.id = id ∧ getO xs id = (x, true) ∧ ∀ y ∈ xs.take i, (y.id == id) = false := by
  rcases ix_cases (fun x : Od => x.id == id) xs with ⟨h1, h2⟩ | ⟨i, x, h1, h2, h3, h4⟩
  · refine .inl ⟨h1, ?_, h2⟩
    have : xs.find? (fun x : Od => x.id == id) = none := List.find?_eq_none.2 (fun x hx => by rw [h2 x hx]; decide)
    unfold getO; rw [this]
  · refine .inr ⟨i, x, h1, h2, by simpa using h3, ?_, h4⟩
    have : xs.find? (fun x : Od => x.id == id) = some x := by
      obtain ⟨hi, rfl⟩ := List.getElem?_eq_some_iff.1 h2
      rw [List.find?_eq_some_iff_append]
      exact ⟨h3, xs.take i, xs.drop (i + 1), by rw [← List.drop_eq_getElem_cons hi, List.take_append_drop], fun y hy => by rw [h4 y hy]; rfl⟩
    unfold getO; rw [this]
/-- What an order still encumbers. -/
def resvO (x : Od) : Int := if x.st = 1 then (x.cop - x.bil) * x.pri else if x.st = 3 then (x.rcv - x.bil) * x.pri else 0
/-- An operation on the order with an ID: er is its error, g the changed order. -/
def opO (xs : List Od) (id : Int) (er : Od → Int) (g : Od → Od) : Int × List Od :=
  if atO xs id = -1 then (9, []) else if er (getO xs id).1 = 0 then (0, xs.set (atO xs id).toNat (g (getO xs id).1)) else (er (getO xs id).1, [])
theorem opO_none {xs : List Od} {id : Int} {er : Od → Int} {g : Od → Od} (h : atO xs id = -1) : opO xs id er g = (9, []) := by unfold opO; rw [if_pos h]
theorem opO_some {xs : List Od} {id : Int} {er : Od → Int} {g : Od → Od} {i : Nat} {x : Od} (h : atO xs id = i) (hg : getO xs id = (x, true)) : opO xs id er g = if er x = 0 then (0, xs.set i (g x)) else (er x, []) := by
  unfold opO; rw [if_neg (by omega), h, hg]; rfl
def rcvE (n : Int) (x : Od) : Int := if n < 1 then 2 else if x.st = 1 ∧ n ≤ x.cop - x.rcv then 0 else 12
def rcvF (n : Int) (x : Od) : Od := { x with rcv := x.rcv + n }
def stopE (x : Od) : Int := if x.st = 1 then 0 else 12
def stopF (x : Od) : Od := { x with st := 3 }
structure Bl where
  ven : Int
  num : Int
  ord : Int
  cop : Int
  amt : Int
def blV (b : Bl) : Value := .agg #[.int .i64 b.ven, .int .i64 b.num, .int .i64 b.ord, .int .i64 b.cop, .int .i64 b.amt]
abbrev blC (b : Bl) : Array Value := #[.int .i64 b.ven, .int .i64 b.num, .int .i64 b.ord, .int .i64 b.cop, .int .i64 b.amt]
def billE (b : Bl) (x : Od) : Int := if x.ven = b.ven then (if (1 ≤ b.num ∧ b.num ≤ 99999) ∧ 1 ≤ b.cop ∧ (1 ≤ b.amt ∧ b.amt ≤ 100000000) then (if b.cop ≤ x.rcv - x.bil then (if x.paid + b.amt ≤ 100000000 then 0 else 2) else 12) else 2) else 1
def billF (b : Bl) (x : Od) : Od := { x with bil := x.bil + b.cop, paid := x.paid + b.amt, st := if x.bil + b.cop = x.cop then 2 else x.st }
def receiveO (xs : List Od) (id n : Int) : Int × List Od := opO xs id (rcvE n) (rcvF n)
def stopO (xs : List Od) (id : Int) : Int × List Od := opO xs id stopE stopF
def billO (xs : List Od) (b : Bl) : Int × List Od := opO xs b.ord (billE b) (billF b)
def placeO (xs : List Od) (x : Od) : Int × List Od :=
  if x.st = 1 ∧ x.rcv = 0 ∧ x.bil = 0 ∧ x.paid = 0 then (if rightO (xs ++ [x]) = 0 then (0, xs ++ [x]) else (rightO (xs ++ [x]), [])) else (12, [])
/-- An order's numbers within their limits. -/
structure OdM (x : Od) : Prop where
  id : 1 ≤ x.id ∧ x.id ≤ 9999
  cop : 1 ≤ x.cop ∧ x.cop ≤ 99
  pri : 1 ≤ x.pri ∧ x.pri ≤ 1000000
  rcv : 0 ≤ x.rcv ∧ x.rcv ≤ x.cop
  bil : 0 ≤ x.bil ∧ x.bil ≤ x.rcv
  paid : 0 ≤ x.paid ∧ x.paid ≤ 100000000
theorem chkO_M {x : Od} (h : chkO x = 0) : OdM x ∧ bad1 x = false ∧ (1 ≤ x.st ∧ x.st ≤ 3) ∧ sharesV x.sh = true ∧ bad4 x = false := by
  unfold chkO at h
  split at h
  · cases h
  · rename_i h1
    split at h
    · cases h
    · rename_i h2
      split at h
      · cases h
      · rename_i h3
        split at h
        · cases h
        · rename_i h4
          have g1 := h1; have g2 := h2; have g3 := h3
          simp only [bad1, bad2, bad3, oidB, Bool.or_eq_true, Bool.not_eq_true', not_or, Bool.not_eq_false, winB_iff] at h1 h2 h3
          exact ⟨⟨h1.1.1.1.1, h1.1.2, h1.2, h2.1.1, h2.1.2, h2.2⟩, by simpa using g1, h3.1, h3.2, by simpa using h4⟩

theorem find1_any (x : Od) (id : Int) (a : Nat) (w : World) (ha : a < w.heap.size) (hc : w.cell? ⟨a, 0, none⟩ = some (.int .i64 id)) :
    Calls Tryz.prog 132 #[odV x, .pointer (some ⟨a, 0, none⟩)] w fun e w' => e = .returned (.bool (x.id == id)) ∧ Below w.heap.size w w' := by
  unfold odV
  go_enter Tryz.func132, Tryz.ntmps132
  go_wp2
  go_ret
  exact ⟨rfl, (Below.refl _ _).alloc (Nat.le_refl _) _⟩
theorem e_find1 : ∀ args w, (callFunc 132 args).run Tryz.prog w = .ok (.enter 132 args) w := enters_of Tryz.func132 (by kernel_rfl) rfl
theorem find_any (A : Option Addr) (n c : Nat) (xs : List Od) (id : Int) (w : World) (hs : Ods w w.heap.size A n c xs) :
    Calls Tryz.prog 81 #[.slice A n c, .int .i64 id] w fun e w' => e = .returned (.int .i64 (atO xs id)) ∧ Below w.heap.size w w' := by
  have hi := od_indexFunc 132 #[.pointer (some ⟨w.heap.size, 0, none⟩)] (fun x => x.id == id) e_find1 A n c xs (w.alloc (.cells #[.int .i64 id] 3)) ((hs.alloc (Nat.le_refl _) _).more (by simp))
    (fun W x _ hb => find1_any x id w.heap.size W (by have := hb.size; simp at this; omega) ((hb.cell (p := ⟨w.heap.size, 0, none⟩) (by simp)).trans (cell_new w _ _)))
  have HI := hide hi
  clear hi hs
  go_enter Tryz.func81, Tryz.ntmps81
  go_wp2_with (go_at_call 131; refine HI.out.mono ?_; rintro e w1 ⟨rfl, hb⟩)
  go_ret
  exact ⟨rfl, below_call hb⟩

set_option maxHeartbeats 1000000 in
theorem oget_any (A : Option Addr) (n c : Nat) (xs : List Od) (id : Int) (w : World) (hs : Ods w w.heap.size A n c xs) :
    Calls Tryz.prog 28 #[.slice A n c, .int .i64 id] w fun e w' => e = .returned (.tuple #[odV (getO xs id).1, .bool (getO xs id).2]) ∧ Below w.heap.size w w' := by
  have hle := hs.le
  have hbig := hs.big
  have HS := hide hs
  have hi := fun o => find_any A n c xs id (w.alloc o) ((hs.alloc (Nat.le_refl _) o).more (by simp))
  clear hs
  rcases getO_cases xs id with ⟨h1, h2, _⟩ | ⟨i, x, h1, h2, h3, h4, _⟩
  · rw [h1] at hi
    rw [h2]
    have HI := hide hi
    clear hi h1 h2
    go_enter Tryz.func28, Tryz.ntmps28
    go_wp2_with fail
    refine (HI.out _).mono ?_
    rintro e w1 ⟨rfl, hb⟩
    obtain ⟨hc, hf⟩ := bcell hb
    have hz : w.heap.size < w1.heap.size := by have := hb.size; simp at this; omega
    go_wp2
    refine bodyPost_ret (v := .tuple #[odV od0, .bool false]) (by simp [results, Tryz.results28, go_sem, hc, odV, od0]) rfl ⟨rfl, ?_⟩
    exact below_od (below_call hb) (Nat.le_refl _) _ _ _ _ _ _ _ _ _ _
  · rw [h1] at hi
    rw [h4]
    have HI := hide hi
    have hi : i < n := by have := (List.getElem?_eq_some_iff.1 h2).1; have := HS.out.len; omega
    obtain ⟨b, off, y, rfl, hbB, hy, c0, c1, c2, c3, c4, c5, c6, c7, c8, c9⟩ := Ods_at HS.out hi
    obtain rfl : x = y := by rw [hy] at h2; exact (Option.some.inj h2).symm
    clear h1 h2 hy h4 h3
    go_enter Tryz.func28, Tryz.ntmps28
    go_wp2_with fail
    refine (HI.out _).mono ?_
    rintro e w1 ⟨rfl, hb⟩
    obtain ⟨hc, hf⟩ := bcell hb
    have hz : w.heap.size < w1.heap.size := by have := hb.size; simp at this; omega
    have hcc : ∀ o, w1.cell? ⟨b, o, none⟩ = w.cell? ⟨b, o, none⟩ := fun o => by
      rw [hc b o (by simp; omega)]; exact World.cell?_alloc_lt w _ _ hbB
    rw [← hcc] at c0 c1 c2 c3 c4 c5 c6 c7 c8 c9
    go_wp2
    refine bodyPost_ret (v := .tuple #[odV x, .bool true]) (by simp [results, Tryz.results28, go_sem, hc, odV]) rfl ⟨rfl, ?_⟩
    exact below_od (below_call hb) (Nat.le_refl _) _ _ _ _ _ _ _ _ _ _
theorem oresv_any (x : Od) (w : World) (hm : OdM x ∨ x = od0) : Calls Tryz.prog 29 #[odV x] w fun e w' => e = .returned (.int .i64 (resvO x)) ∧ Below w.heap.size w w' := by
  rcases hm with hm | rfl
  · obtain ⟨_, ⟨p1, p2⟩, ⟨p3, p4⟩, ⟨p5, p6⟩, ⟨p7, p8⟩, _⟩ := hm
    have hw1 : IntKind.i64.wrap (x.cop - x.bil) = x.cop - x.bil := by rw [IntKind.wrap_i64]; omega
    have hw2 : IntKind.i64.wrap (x.rcv - x.bil) = x.rcv - x.bil := by rw [IntKind.wrap_i64]; omega
    have g1 : 0 ≤ (x.cop - x.bil) * x.pri := Int.mul_nonneg (by omega) (by omega)
    have g2 : (x.cop - x.bil) * x.pri ≤ 99 * 1000000 := Int.mul_le_mul (by omega) p4 (by omega) (by omega)
    have g3 : 0 ≤ (x.rcv - x.bil) * x.pri := Int.mul_nonneg (by omega) (by omega)
    have g4 : (x.rcv - x.bil) * x.pri ≤ 99 * 1000000 := Int.mul_le_mul (by omega) p4 (by omega) (by omega)
    have hw3 : IntKind.i64.wrap ((x.cop - x.bil) * x.pri) = (x.cop - x.bil) * x.pri := by rw [IntKind.wrap_i64]; omega
    have hw4 : IntKind.i64.wrap ((x.rcv - x.bil) * x.pri) = (x.rcv - x.bil) * x.pri := by rw [IntKind.wrap_i64]; omega
    unfold odV
    by_cases h1 : x.st = 1
    · have hr : resvO x = (x.cop - x.bil) * x.pri := by unfold resvO; rw [if_pos h1]
      rw [hr]
      have HS := hide h1
      clear hr g3 g4 hw2 hw4
      rw [h1]
      clear h1
      go_enter Tryz.func29, Tryz.ntmps29
      go_wp2
      go_ret
      exact ⟨ret_int (by first | rfl | omega), (Below.refl _ _).alloc (Nat.le_refl _) _⟩
    · by_cases h3 : x.st = 3
      · have hr : resvO x = (x.rcv - x.bil) * x.pri := by unfold resvO; rw [if_neg h1, if_pos h3]
        rw [hr]
        clear hr g1 g2 hw1 hw3
        rw [h3]
        clear h1 h3
        go_enter Tryz.func29, Tryz.ntmps29
        go_wp2
        go_ret
        exact ⟨ret_int (by first | rfl | omega), (Below.refl _ _).alloc (Nat.le_refl _) _⟩
      · have hr : resvO x = 0 := by unfold resvO; rw [if_neg h1, if_neg h3]
        rw [hr]
        have hb1 : (x.st == 1) = false := by simpa using h1
        have hb3 : (x.st == 3) = false := by simpa using h3
        clear hr g1 g2 g3 g4 hw1 hw2 hw3 hw4 h1 h3
        go_enter Tryz.func29, Tryz.ntmps29
        go_wp2
        go_ret
        exact ⟨rfl, (Below.refl _ _).alloc (Nat.le_refl _) _⟩
  · show Calls _ _ #[.agg #[.int .i64 0, .int .i64 0, .int .i64 0, .int .i64 0, .int .i64 0, .int .i64 0, .int .i64 0, .int .i64 0, .int .i64 0, .slice none 0 0]] _ _
    go_enter Tryz.func29, Tryz.ntmps29
    go_wp2
    go_ret
    exact ⟨rfl, (Below.refl _ _).alloc (Nat.le_refl _) _⟩
end Go.Proofs.YtbhndfphegflhaaGreat

/- library/api.Bill as plain data; a slice of them; '=='; IndexFunc; Clone. Printed by gen_kit.py. -/
namespace Go.Proofs.YtbhndfphegflhaaGreat
open Go.RowKit

deriving instance DecidableEq for Bl

def blE (x : Bl) : List Value := [.int .i64 x.ven, .int .i64 x.num, .int .i64 x.ord, .int .i64 x.cop, .int .i64 x.amt]
theorem blE_len (x : Bl) : (blE x).length = 5 := rfl
theorem blE_one (x : Bl) : ∀ u ∈ blE x, u.oneCell' = true := by
  intro u hu; simp only [blE, List.mem_cons, List.not_mem_nil, or_false] at hu
  rcases hu with rfl | rfl | rfl | rfl | rfl <;> rfl
abbrev Bls (w : World) (B : Nat) (A : Option Addr) (n c : Nat) (xs : List Bl) : Prop := Sl blE 5 w B A n c xs
theorem bl_cells {w : World} {b o : Nat} {x : Bl} (h : ∀ j u, (blE x)[j]? = some u → w.cell? ⟨b, o + j, none⟩ = some u) :
    w.cell? ⟨b, o, none⟩ = some (.int .i64 x.ven) ∧ w.cell? ⟨b, o + 1, none⟩ = some (.int .i64 x.num) ∧ w.cell? ⟨b, o + 2, none⟩ = some (.int .i64 x.ord) ∧ w.cell? ⟨b, o + 3, none⟩ = some (.int .i64 x.cop) ∧ w.cell? ⟨b, o + 4, none⟩ = some (.int .i64 x.amt) :=
  ⟨h 0 _ rfl, h 1 _ rfl, h 2 _ rfl, h 3 _ rfl, h 4 _ rfl⟩
theorem Bls_at {w : World} {B : Nat} {A : Option Addr} {n c : Nat} {xs : List Bl} (h : Bls w B A n c xs) {k : Nat} (hk : k < n) :
    ∃ b off x, A = some ⟨b, off, none⟩ ∧ b < B ∧ xs[k]? = some x ∧
     w.cell? ⟨b, off + k * 5, none⟩ = some (.int .i64 x.ven) ∧ w.cell? ⟨b, off + k * 5 + 1, none⟩ = some (.int .i64 x.num) ∧ w.cell? ⟨b, off + k * 5 + 2, none⟩ = some (.int .i64 x.ord) ∧ w.cell? ⟨b, off + k * 5 + 3, none⟩ = some (.int .i64 x.cop) ∧ w.cell? ⟨b, off + k * 5 + 4, none⟩ = some (.int .i64 x.amt) := by
  obtain ⟨b, off, x, hA, hb, hx, hc⟩ := h.at_ hk
  exact ⟨b, off, x, hA, hb, hx, bl_cells hc⟩
theorem bl_struct : Tryz.prog.underlying 43 = some (.struct (Tryz.prog.fieldsOf 43)) := by kernel_rfl
/-- slices.IndexFunc: whatever predicate that lays only blocks of its own. -/
theorem bl_indexFunc (g : Nat) (lb : Array Value) (p : Bl → Bool) (eg : ∀ args w, (callFunc g args).run Tryz.prog w = .ok (.enter g args) w)
    (A : Option Addr) (n c : Nat) (xs : List Bl) (w : World) (hs : Bls w w.heap.size A n c xs)
    (hp : ∀ W x, x ∈ xs → Below w.heap.size w W → Calls Tryz.prog g (#[blV x] ++ lb) W fun e w' => e = .returned (.bool (p x)) ∧ Below W.heap.size W w') :
    Calls Tryz.prog 128 #[.slice A n c, .func (.func g) #[] lb] w fun e w' => e = .returned (.int .i64 (ix p xs)) ∧ Below w.heap.size w w' := by
  have hle := hs.le
  have hbig := hs.big
  have HP := hide hp
  clear hp
  go_enter Tryz.func128, Tryz.ntmps128
  go_wp2
  go_loopw [5, 8] (fun _ s8 wr => ∃ k : Nat, k ≤ n ∧ s8 = .int .i64 k ∧ Below w.heap.size w wr ∧ ix p xs = idxP p (xs.drop k) k) (fun _ s8 _ => n - (intOf s8).toNat)
  case atStart => exact ⟨0, Nat.zero_le _, rfl, Below.refl _ _, rfl⟩
  case round =>
    obtain ⟨k, hk, rfl, hb, ha⟩ := hrel
    have HA := hide ha
    have HB := hide hb
    clear ha hb
    by_cases hlt : k < n
    · obtain ⟨b, off, x, rfl, hbB, hx, c0, c1, c2, c3, c4⟩ := Bls_at (hs.below HB.out) hlt
      have HX := hide (idxP_step (p := p) hx)
      have hcall := HP.out wr x (List.mem_of_getElem? hx) HB.out
      have HS := hide hs
      clear hx hs
      unfold blV at hcall
      generalize hq : p x = q at hcall
      have HQ := hide hq
      clear hq
      cases q with
      | true =>
        go_wp2_with (go_at_fn g; refine hcall.mono ?_; rintro e w' ⟨rfl, hb'⟩)
        go_ret
        exact ⟨ret_int (by rw [HA.out, HX.out, if_pos HQ.out]), HB.out.trans (hb'.mono HB.out.size)⟩
      | false =>
        go_wp2_with (go_at_fn g; refine hcall.mono ?_; rintro e w' ⟨rfl, hb'⟩)
        go_roundw
        case rel => exact ⟨k + 1, by omega, by go_num, HB.out.trans (hb'.mono HB.out.size), by rw [HA.out, HX.out, if_neg (by rw [HQ.out]; decide)]⟩
        case measure => simp [intOf]; omega
    · go_wp2
      go_ret
      exact ⟨ret_int (by rw [HA.out, idxP_end (by have := hs.len; omega)]), HB.out⟩
theorem bl_containsFunc (g : Nat) (lb : Array Value) (p : Bl → Bool) (eg : ∀ args w, (callFunc g args).run Tryz.prog w = .ok (.enter g args) w)
    (A : Option Addr) (n c : Nat) (xs : List Bl) (w : World) (hs : Bls w w.heap.size A n c xs)
    (hp : ∀ W x, x ∈ xs → Below w.heap.size w W → Calls Tryz.prog g (#[blV x] ++ lb) W fun e w' => e = .returned (.bool (p x)) ∧ Below W.heap.size W w') :
    Calls Tryz.prog 71 #[.slice A n c, .func (.func g) #[] lb] w fun e w' => e = .returned (.bool (decide (0 ≤ ix p xs))) ∧ Below w.heap.size w w' := by
  have HP := hide hp
  have HS := hide hs
  clear hp hs
  go_enter Tryz.func71, Tryz.ntmps71
  go_wp2_with (go_at_call 128; refine (bl_indexFunc g lb p eg A n c xs _ HS.out HP.out).mono ?_; rintro e w' ⟨rfl, hb'⟩)
  go_ret
  exact ⟨rfl, hb'⟩

theorem bl_info : (Tryz.prog.info? 43).map (fun i => (i.zero, i.size, i.bytes)) = some (some (.agg #[.int .i64 0, .int .i64 0, .int .i64 0, .int .i64 0, .int .i64 0]), 5, 40) := by kernel_rfl
/-- A new row that reads as xs (nil where there is none). -/
abbrev Blo (w : World) (B : Nat) (v : Value) (xs : List Bl) : Prop := w.ownsRow B 43 5 v xs.length (xs.flatMap blE)
theorem Blo_sl {w : World} {B : Nat} {v : Value} {xs : List Bl} (h : Blo w B v xs) (hn : xs.length ≤ 140737488355328) : ∃ A c, v = .slice A xs.length c ∧ Bls w w.heap.size A xs.length c xs := by
  have h' := h
  rcases h.2 with ⟨rfl, h0⟩ | ⟨g, cap, _, rfl, _⟩
  · refine ⟨none, 0, by rw [h0], ?_⟩
    unfold Blo at h'
    rw [h0] at h' ⊢
    exact Sl.of_own blE_len h' h0 (by omega)
  · exact ⟨_, cap, rfl, Sl.of_own blE_len h' rfl hn⟩
theorem bl_clone (A : Option Addr) (n c : Nat) (xs : List Bl) (w : World) (hs : Bls w w.heap.size A n c xs) (hn : n ≤ 1000) :
    Calls Tryz.prog 76 #[.slice A n c] w fun e w' => ∃ v, e = .returned v ∧ Blo w' w.heap.size v xs ∧ Below w.heap.size w w' := by
  obtain ⟨i0, hi, hz0, hz1, hz2⟩ := info_parts bl_info
  have HS := hide hs
  have hnl := hs.nl
  clear hs
  cases A with
  | none =>
    have hx : xs = [] := by
      have h1 := HS.out.len; have h2 := HS.out.nl rfl; have h3 := HS.out.le
      exact List.eq_nil_of_length_eq_zero (by omega)
    subst hx
    clear hnl
    have q22 : ∀ (w : World) (a : Option Addr) (n c n' c' : Nat), (binOp .eql 24 (.slice a n c) (.slice none n' c')).run Tryz.prog w = .ok (.bool a.isNone) w := fun w a n c n' c' => Lib.run_eql_slice_nil w _ _ a n c n' c' Tryz.underlying24
    go_enter Tryz.func76, Tryz.ntmps76
    go_wp2
    go_ret
    exact ⟨_, rfl, World.ownsRow_nil _ _ _ _, Below.refl _ _⟩
  | some ad =>
    clear hnl
    have q22 : ∀ (w : World) (a : Option Addr) (n c n' c' : Nat), (binOp .eql 24 (.slice a n c) (.slice none n' c')).run Tryz.prog w = .ok (.bool a.isNone) w := fun w a n c n' c' => Lib.run_eql_slice_nil w _ _ a n c n' c' Tryz.underlying24
    go_enter Tryz.func76, Tryz.ntmps76
    go_wp2_with (at_builtin; go_must (refine wpList_append_sl _ rfl _ _ 24 rfl w.heap.size 43 i0 _ 40 Tryz.underlying24 hi hz0 hz1 hz2 rfl (by decide) blE_len blE_one _ 0 [] rfl (World.ownsRow_made w #[] 0 (Nat.le_refl _) (Nat.zero_le _) rfl) (some ad) n c rfl (HS.out.alloc (Nat.le_refl _) _) (by unfold maxLen; omega) (by omega) (by simp) ?_))
    intro v' w1 hown hg hat
    go_wp2
    go_ret
    refine ⟨v', rfl, ?_, ((Below.refl _ w).alloc (Nat.le_refl _) _).grown hg (by simp) (by intro k hk; simp [Value.ownBlock] at hk; omega)⟩
    have hl := HS.out.len
    subst hl
    simpa using hown
end Go.Proofs.YtbhndfphegflhaaGreat

/- Walks: the reference's Get and Reserved. -/
namespace Go.Proofs.YtbhndfphegflhaaGreat
open Go.RowKit

theorem getP_step {xs : List Od} {k : Nat} {x : Od} {id : Int} (h : xs[k]? = some x) : getO (xs.drop k) id = if (x.id == id) = true then (x, true) else getO (xs.drop (k + 1)) id := by
  obtain ⟨hk, rfl⟩ := List.getElem?_eq_some_iff.1 h
  rw [List.drop_eq_getElem_cons hk]
  unfold getO
  rw [List.find?_cons]
  cases hq : (xs[k].id == id) <;> simp
theorem getP_end {xs : List Od} {k : Nat} {id : Int} (h : xs.length ≤ k) : getO (xs.drop k) id = (od0, false) := by
  rw [List.drop_eq_nil_of_le h]; rfl

set_option maxHeartbeats 1000000 in
theorem rget_any (A : Option Addr) (n c : Nat) (xs : List Od) (id : Int) (w : World) (hs : Ods w w.heap.size A n c xs) :
    Calls Tryz.prog 30 #[.slice A n c, .int .i64 id] w fun e w' => e = .returned (.tuple #[odV (getO xs id).1, .bool (getO xs id).2]) ∧ Below w.heap.size w w' := by
  have hle := hs.le
  have hbig := hs.big
  have HS := hide hs
  have hlen := hide hs.len
  clear hs
  go_enter Tryz.func30, Tryz.ntmps30
  go_wp2
  go_loop [6] (fun i => ∃ k : Nat, k ≤ n ∧ i = .int .i64 k ∧ getO xs id = getO (xs.drop k) id) (fun i => n - (intOf i).toNat)
  case atStart => exact ⟨0, Nat.zero_le _, rfl, rfl⟩
  case round =>
    obtain ⟨k, hk, rfl, ha⟩ := hrel
    have HA := hide ha
    clear ha
    by_cases hlt : k < n
    · obtain ⟨b, off, x, rfl, hbB, hx, c0, c1, c2, c3, c4, c5, c6, c7, c8, c9⟩ := Ods_at HS.out hlt
      have HX := hide (getP_step (id := id) hx)
      clear hx
      by_cases hq : (x.id == id) = true
      · have e1 : getO xs id = (x, true) := by rw [HA.out, HX.out, if_pos hq]
        have E1 := hide e1
        clear e1
        go_wp2
        refine bodyPost_ret (v := .tuple #[odV x, .bool true]) (by simp [results, Tryz.results30, go_sem, odV]) rfl ⟨by rw [E1.out], ?_⟩
        exact (Below.refl _ _).alloc (Nat.le_refl _) _
      · have HN := hide hq
        have hq' : (x.id == id) = false := by simpa using hq
        clear hq
        go_wp2
        go_round
        case rel => exact ⟨k + 1, by omega, by go_num, by rw [HA.out, HX.out, if_neg HN.out]⟩
        case measure => simp [intOf]; omega
    · have e1 : getO xs id = (od0, false) := by rw [HA.out, getP_end (by have := hlen.out; omega)]
      have E1 := hide e1
      clear e1
      go_wp2
      refine bodyPost_ret (v := .tuple #[odV od0, .bool false]) (by simp [results, Tryz.results30, go_sem, odV, od0]) rfl ⟨by rw [E1.out], ?_⟩
      exact (Below.refl _ _).alloc (Nat.le_refl _) _
theorem rresv_any (x : Od) (w : World) (hm : OdM x) : Calls Tryz.prog 67 #[odV x] w fun e w' => e = .returned (.int .i64 (resvO x)) ∧ Below w.heap.size w w' := by
  obtain ⟨_, ⟨p1, p2⟩, ⟨p3, p4⟩, ⟨p5, p6⟩, ⟨p7, p8⟩, _⟩ := hm
  have hw1 : IntKind.i64.wrap (x.cop - x.bil) = x.cop - x.bil := by rw [IntKind.wrap_i64]; omega
  have hw2 : IntKind.i64.wrap (x.rcv - x.bil) = x.rcv - x.bil := by rw [IntKind.wrap_i64]; omega
  have g1 : 0 ≤ (x.cop - x.bil) * x.pri := Int.mul_nonneg (by omega) (by omega)
  have g2 : (x.cop - x.bil) * x.pri ≤ 99 * 1000000 := Int.mul_le_mul (by omega) p4 (by omega) (by omega)
  have g3 : 0 ≤ (x.rcv - x.bil) * x.pri := Int.mul_nonneg (by omega) (by omega)
  have g4 : (x.rcv - x.bil) * x.pri ≤ 99 * 1000000 := Int.mul_le_mul (by omega) p4 (by omega) (by omega)
  have hw3 : IntKind.i64.wrap ((x.cop - x.bil) * x.pri) = (x.cop - x.bil) * x.pri := by rw [IntKind.wrap_i64]; omega
  have hw4 : IntKind.i64.wrap ((x.rcv - x.bil) * x.pri) = (x.rcv - x.bil) * x.pri := by rw [IntKind.wrap_i64]; omega
  unfold odV
  by_cases h1 : x.st = 1
  · have hr : resvO x = (x.cop - x.bil) * x.pri := by unfold resvO; rw [if_pos h1]
    rw [hr]
    clear hr g3 g4 hw2 hw4
    rw [h1]
    clear h1
    go_enter Tryz.func67, Tryz.ntmps67
    go_wp2
    go_ret
    exact ⟨ret_int (by first | rfl | omega), (Below.refl _ _).alloc (Nat.le_refl _) _⟩
  · by_cases h3 : x.st = 3
    · have hr : resvO x = (x.rcv - x.bil) * x.pri := by unfold resvO; rw [if_neg h1, if_pos h3]
      rw [hr]
      clear hr g1 g2 hw1 hw3
      rw [h3]
      clear h1 h3
      go_enter Tryz.func67, Tryz.ntmps67
      go_wp2
      go_ret
      exact ⟨ret_int (by first | rfl | omega), (Below.refl _ _).alloc (Nat.le_refl _) _⟩
    · have hr : resvO x = 0 := by unfold resvO; rw [if_neg h1, if_neg h3]
      rw [hr]
      have hb1 : (x.st == 1) = false := by simpa using h1
      have hb3 : (x.st == 3) = false := by simpa using h3
      clear hr g1 g2 g3 g4 hw1 hw2 hw3 hw4 h1 h3
      go_enter Tryz.func67, Tryz.ntmps67
      go_wp2
      go_ret
      exact ⟨rfl, (Below.refl _ _).alloc (Nat.le_refl _) _⟩
end Go.Proofs.YtbhndfphegflhaaGreat
