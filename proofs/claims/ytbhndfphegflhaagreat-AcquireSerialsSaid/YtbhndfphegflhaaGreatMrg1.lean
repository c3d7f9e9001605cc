/- Texts laid together by merge.py: Held, Map, FuA, FuB, FuC, FuD, FuE. -/
import Derived.Test.YtbhndfphegflhaaGreatMrg0
import Derived.Deep.RegionHeld3
import Derived.Maps.OwnOps
import Derived.Maps.Views
import Derived.Test.YtbhndfphegflhaaGreatProg
import Derived.Shelf.Abstract
import Derived.Deep.QuietTactic
import Derived.BigQuiet
import Derived.Lib.SliceRun
import Derived.RegionTactic
import Derived.Deep.RegionWith
import Derived.ChangeAlike
set_option linter.unusedSimpArgs false
set_option linter.unusedVariables false
/- What a region that draws needs of its worlds: all that lay before lies unturned. -/
namespace Go.Proofs.YtbhndfphegflhaaGreat
open Go.RowKit

theorem hbel_alloc {w W : World} (h : Hid (Below w.heap.size w W)) (o : Obj) : Hid (Below w.heap.size w (W.alloc o)) := h.out.alloc h.out.size o
theorem hbel_call {w W W' : World} (h : Hid (Below w.heap.size w W)) (hb : Below W.heap.size W W') : Hid (Below w.heap.size w W') := h.out.trans (hb.mono h.out.size)
theorem hbel_set5 {w W : World} (h : Hid (Below w.heap.size w W)) (u0 u1 u2 u3 u4 : Value) :
    Hid (Below w.heap.size w (((((W.setCell ⟨w.heap.size, 0, none⟩ u0).setCell ⟨w.heap.size, 1, none⟩ u1).setCell ⟨w.heap.size, 2, none⟩ u2).setCell ⟨w.heap.size, 3, none⟩ u3).setCell ⟨w.heap.size, 4, none⟩ u4)) :=
  below_box5 h.out (Nat.le_refl _) _ _ _ _ _
end Go.Proofs.YtbhndfphegflhaaGreat

/- A map with integer keys that the call itself made, said as a function from numbers to values; whatever the element type. No program. -/
namespace Go.Proofs.YtbhndfphegflhaaGreat
open Go.RowKit Go.Maps

def heldR (v : Value) : Option (DataW Value × List MemPlace) := some (.held v, [])

/-- Block b is a map of at most n entries; at the number x it holds f x (the zero value z where it has no entry). -/
def MapI (P : Program) (k : TypeId) (w : World) (b n : Nat) (z : Value) (f : Int → Value) : Prop :=
  ∃ D : DataW Value, w.ownsMap P k heldR b n D ∧ IsMap D ∧ ∀ x, (Lit.int .i64 x).wf = true → D.atKey (.int .i64 x) (.held z) = .held (f x)

section
variable {P : Program} {k : TypeId} {w : World} {b n : Nat} {z : Value} {f : Int → Value}

theorem MapI.made (P : Program) (k : TypeId) (w : World) (z : Value) : MapI P k (w.alloc (.map #[] 0)) w.heap.size 0 z (fun _ => z) :=
  ⟨.map [], World.ownsMap_made _ _ _ _, isMap_empty, fun _ _ => rfl⟩
theorem MapI.kept {w' : World} {row : Option Nat} (h : MapI P k w b n z f) (hg : w.grownBy w' row) (hne : some b ≠ row) : MapI P k w' b n z f := by
  obtain ⟨D, h1, h2, h3⟩ := h; exact ⟨D, h1.kept hg hne, h2, h3⟩
theorem MapI.alloc (h : MapI P k w b n z f) (o : Obj) : MapI P k (w.alloc o) b n z f := by
  obtain ⟨D, h1, h2, h3⟩ := h; exact ⟨D, h1.alloc o, h2, h3⟩
theorem MapI.drewN (h : MapI P k w b n z f) (m : Nat) : MapI P k (w.drewN m) b n z f := h
theorem MapI.setCell (h : MapI P k w b n z f) {p : Addr} (hp : b ≠ p.block) (u : Value) : MapI P k (w.setCell p u) b n z f := by
  obtain ⟨D, ⟨es, cl, hb, h1⟩, h2, h3⟩ := h; exact ⟨D, ⟨es, cl, (Below.heap_setCell w p u b hp).trans hb, h1⟩, h2, h3⟩
theorem MapI.below {B : Nat} {w' : World} (h : MapI P k w b n z f) (hb : Below B w w') (hB : b < B) : MapI P k w' b n z f := by
  obtain ⟨D, ⟨es, cl, hh, h1⟩, h2, h3⟩ := h; exact ⟨D, ⟨es, cl, (hb.block b hB).trans hh, h1⟩, h2, h3⟩
theorem MapI.lt (h : MapI P k w b n z f) : b < w.heap.size := by
  obtain ⟨D, h1, _, _⟩ := h; exact h1.lt
theorem MapI.mono (h : MapI P k w b n z f) {m : Nat} (hm : n ≤ m) : MapI P k w b m z f := by
  obtain ⟨D, h1, h2, h3⟩ := h; exact ⟨D, h1.mono hm, h2, h3⟩
theorem MapI.congr (h : MapI P k w b n z f) {g : Int → Value} (hg : ∀ x, (Lit.int .i64 x).wf = true → g x = f x) : MapI P k w b n z g := by
  obtain ⟨D, h1, h2, h3⟩ := h; exact ⟨D, h1, h2, fun x hx => by rw [h3 x hx, hg x hx]⟩

theorem isKey_int (x : Int) : WideAt.IsKeyLit (.int .i64 x) := trivial

theorem MapI.lookup {t e : TypeId} (h : MapI P k w b n z f) (hk : P.underlying k = some (.int .i64)) (ht : P.underlying t = some (.map k e)) (hz : (zeroValue e).run P w = .ok z w)
    {x : Int} (hx : (Lit.int .i64 x).wf = true) : (Instr.lookup t (.map (some b)) (.int .i64 x) false).run P w = .ok (f x) w := by
  obtain ⟨D, h1, h2, h3⟩ := h
  obtain ⟨v, ps, hr, hv⟩ := h1.lookup (int_keyed hk) ht hz (zd := .held z) (zp := []) rfl (keyOf_int_mk hk hx)
  rw [h3 x hx] at hv
  have : v = f x := by
    simp only [heldR, Option.some.injEq, Prod.mk.injEq] at hv
    injection hv.1
  rw [hr, this]

theorem MapI.update {t e : TypeId} (h : MapI P k w b n z f) (hk : P.underlying k = some (.int .i64)) (ht : P.underlying t = some (.map k e)) (hn : n < maxLen) {x : Int} (hx : (Lit.int .i64 x).wf = true) (v : Value) :
    ∃ w', (Instr.mapUpdate t (.map (some b)) (.int .i64 x) v).run P w = .ok () w' ∧ MapI P k w' b (n + 1) z (fun y => if y = x then v else f y) ∧ w.grownBy w' (some b) := by
  obtain ⟨D, h1, h2, h3⟩ := h
  obtain ⟨w', hr, h4, h5⟩ := h1.update (int_keyed hk) ht hn (keyOf_int_mk hk hx) (val := v) (d := .held v) (ps := []) rfl
  refine ⟨w', hr, ⟨_, h4, h2.put _ _, fun y hy => ?_⟩, h5⟩
  by_cases e : y = x
  · subst e
    rw [atKey_put_same h2 (isKey_int _)]; simp
  · rw [atKey_put_other (by intro h; injection h with _ h; exact e h), h3 y hy]; simp [e]
end

theorem wpList_lookupI {P : Program} (w : World) {ops : Array Oper} {rest : List Oper} {o : Oper} {a : Act} {Q : Exit → Act → World → Prop}
    (hg : o.guard = none) (m x : Operand) (t : TypeId) (hop : o.op = Op.lookup t m x false)
    (k e : TypeId) (hk : P.underlying k = some (.int .i64)) (ht : P.underlying t = some (.map k e)) (z : Value) (hz : (zeroValue e).run P w = .ok z w) (b n : Nat) (f : Int → Value)
    (hm : a.eval m = .map (some b)) (hown : MapI P k w b n z f) (key : Int) (hx : a.eval x = .int .i64 key) (hkey : (Lit.int .i64 key).wf = true)
    (hK : wpList P ops Q rest (a.put o.dst (f key)) w) :
    wpList P ops Q (o :: rest) a w := by
  refine wpList_plain hg fun K' hK' => ?_
  have hrun := hown.lookup hk ht hz hkey
  unfold Oper.wp
  simp [execOp, hop, hm, hx, hrun, Result.andThen]
  exact hK' _ _ hK

theorem wpList_updateI {P : Program} (w : World) {ops : Array Oper} {rest : List Oper} {o : Oper} {a : Act} {Q : Exit → Act → World → Prop}
    (hg : o.guard = none) (m x v : Operand) (t : TypeId) (hop : o.op = Op.mapUpdate t m x v)
    (k e : TypeId) (hk : P.underlying k = some (.int .i64)) (ht : P.underlying t = some (.map k e)) (z : Value) (b n : Nat) (f : Int → Value)
    (hm : a.eval m = .map (some b)) (hown : MapI P k w b n z f) (hn : n < maxLen) (key : Int) (val : Value) (hx : a.eval x = .int .i64 key) (hv : a.eval v = val) (hkey : (Lit.int .i64 key).wf = true)
    (hK : ∀ w', MapI P k w' b (n + 1) z (fun y => if y = key then val else f y) → w.grownBy w' (some b) → wpList P ops Q rest (a.put o.dst undef) w') :
    wpList P ops Q (o :: rest) a w := by
  refine wpList_plain hg fun K' hK' => ?_
  obtain ⟨w', hrun, r1, r2⟩ := hown.update hk ht hn hkey val
  unfold Oper.wp
  simp [execOp, hop, hm, hx, hv, hrun, Result.andThen]
  exact hK' _ _ (hK w' r1 r2)
end Go.Proofs.YtbhndfphegflhaaGreat

/- Walks: the small functions of fund, its reference and money. -/
namespace Go.Proofs.YtbhndfphegflhaaGreat
open Go.RowKit

theorem amount_any (n : Int) (w : World) :
    Calls Tryz.prog 82 #[.int .i64 n] w fun e w' => e = .returned (.bool (mny n)) ∧ w = w' := by
  go_enter Tryz.func82, Tryz.ntmps82
  by_cases h : 0 ≤ n
  · go_wp2
    go_ret
    exact ⟨ret_bool (by simp [mny, h]), rfl⟩
  · go_wp2
    go_ret
    exact ⟨ret_bool (by simp [mny]; omega), rfl⟩

theorem mright_any (n : Int) (w : World) :
    Calls Tryz.prog 122 #[.int .i64 n] w fun e w' => e = .returned (.bool (mny n)) ∧ w = w' := by
  go_enter Tryz.func122, Tryz.ntmps122
  by_cases h : 0 ≤ n
  · go_wp2
    go_ret
    exact ⟨ret_bool (by simp [mny, h]), rfl⟩
  · go_wp2
    go_ret
    exact ⟨ret_bool (by simp [mny]; omega), rfl⟩

set_option maxHeartbeats 400000 in
theorem at_any (A : Option Addr) (n c : Nat) (xs : List Fu) (id : Int) (w : World) (B : Nat) (hs : Fs w B A n c xs) :
    Calls Tryz.prog 83 #[.slice A n c, .int .i64 id] w fun e w' => e = .returned (.int .i64 (atF xs id)) ∧ w = w' := by
  have hle := hs.le
  have hbig := hs.big
  go_enter Tryz.func83, Tryz.ntmps83
  go_wp2
  go_loop [5] (fun i => ∃ k : Nat, k ≤ n ∧ i = .int .i64 k ∧ atF xs id = idxP (fun x => x.id == id) (xs.drop k) k) (fun i => n - (intOf i).toNat)
  case atStart => exact ⟨0, Nat.zero_le _, rfl, rfl⟩
  case round =>
    obtain ⟨k, hk, rfl, ha⟩ := hrel
    have HA := hide ha
    clear ha
    by_cases hlt : k < n
    · obtain ⟨b, off, x, rfl, hb, hx, c0, c1, c2, c3, c4⟩ := Fs_at hs hlt
      have HX := hide (idxP_step (p := fun x => x.id == id) hx)
      clear hx c1 c2 c3 c4
      go_wp2
      · go_ret
        exact ⟨ret_int (by rw [HA.out, HX.out, if_pos ‹(x.id == id) = true›]), rfl⟩
      · go_round
        case rel => exact ⟨k + 1, by omega, by go_num, by rw [HA.out, HX.out, if_neg (by simpa using ‹(x.id == id) = false›)]⟩
        case measure => simp [intOf]; omega
    · go_wp2
      go_ret
      exact ⟨ret_int (by rw [HA.out, idxP_end (by have := hs.len; omega)]), rfl⟩

/-- free: no bound is asked; the sums wrap. -/
theorem free_any (x : Fu) (w : World) (h1 : 0 ≤ x.budget ∧ x.budget ≤ 100000000) (h2 : 0 ≤ x.enc ∧ x.enc ≤ 100000000) (h3 : 0 ≤ x.spent ∧ x.spent ≤ 100000000) :
    Calls Tryz.prog 88 #[fuV x] w fun e w' => e = .returned (.int .i64 (x.budget - x.enc - x.spent)) ∧ Below w.heap.size w w' := by
  obtain ⟨i, p, b, e, s⟩ := x
  simp only at h1 h2 h3
  unfold fuV
  go_enter Tryz.func88, Tryz.ntmps88
  go_wp2
  go_ret
  exact ⟨rfl, (Below.refl _ _).alloc (Nat.le_refl _) _⟩

theorem place1_any (x : Fu) (id : Int) (a : Nat) (w : World) (ha : a < w.heap.size) (hc : w.cell? ⟨a, 0, none⟩ = some (.int .i64 id)) :
    Calls Tryz.prog 167 #[fuV x, .pointer (some ⟨a, 0, none⟩)] w fun e w' => e = .returned (.bool (x.id == id)) ∧ Below w.heap.size w w' := by
  unfold fuV
  go_enter Tryz.func167, Tryz.ntmps167
  go_wp2
  go_ret
  exact ⟨rfl, (Below.refl _ _).alloc (Nat.le_refl _) _⟩

theorem e_place1 : ∀ args w, (callFunc 167 args).run Tryz.prog w = .ok (.enter 167 args) w := enters_of Tryz.func167 (by kernel_rfl) rfl
theorem e_right1 : ∀ args w, (callFunc 155 args).run Tryz.prog w = .ok (.enter 155 args) w := enters_of Tryz.func155 (by kernel_rfl) rfl
theorem e_add1 : ∀ args w, (callFunc 135 args).run Tryz.prog w = .ok (.enter 135 args) w := enters_of Tryz.func135 (by kernel_rfl) rfl

/-- slices.IndexFunc at funds: whatever predicate that lays only blocks of its own. -/
theorem indexFunc_any (g : Nat) (lb : Array Value) (p : Fu → Bool) (eg : ∀ args w, (callFunc g args).run Tryz.prog w = .ok (.enter g args) w)
    (A : Option Addr) (n c : Nat) (xs : List Fu) (w : World) (hs : Fs w w.heap.size A n c xs)
    (hp : ∀ W x, x ∈ xs → Below w.heap.size w W → Calls Tryz.prog g (#[fuV x] ++ lb) W fun e w' => e = .returned (.bool (p x)) ∧ Below W.heap.size W w') :
    Calls Tryz.prog 134 #[.slice A n c, .func (.func g) #[] lb] w fun e w' => e = .returned (.int .i64 (ix p xs)) ∧ Below w.heap.size w w' := by
  have hle := hs.le
  have hbig := hs.big
  have HP := hide hp
  clear hp
  go_enter Tryz.func134, Tryz.ntmps134
  go_wp2
  go_loopw [5, 8] (fun _ s8 wr => ∃ k : Nat, k ≤ n ∧ s8 = .int .i64 k ∧ Below w.heap.size w wr ∧ ix p xs = idxP p (xs.drop k) k) (fun _ s8 _ => n - (intOf s8).toNat)
  case atStart => exact ⟨0, Nat.zero_le _, rfl, Below.refl _ _, rfl⟩
  case round =>
    obtain ⟨k, hk, rfl, hb, ha⟩ := hrel
    have HA := hide ha
    have HB := hide hb
    clear ha hb
    by_cases hlt : k < n
    · obtain ⟨b, off, x, rfl, hbB, hx, c0, c1, c2, c3, c4⟩ := Fs_at (hs.below HB.out) hlt
      have HX := hide (idxP_step (p := p) hx)
      have hcall := HP.out wr x (List.mem_of_getElem? hx) HB.out
      have HS := hide hs
      clear hx hs
      unfold fuV at hcall
      generalize hq : p x = q at hcall
      have HQ := hide hq
      clear hq
      cases q with
      | true =>
        go_wp2_with (go_at_fn g; refine hcall.mono ?_; rintro e w' ⟨rfl, hb'⟩)
        go_ret
        exact ⟨ret_int (by rw [HA.out, HX.out, if_pos HQ.out]), HB.out.trans (hb'.mono HB.out.size)⟩
      | false =>
        go_wp2_with (go_at_fn g; refine hcall.mono ?_; rintro e w' ⟨rfl, hb'⟩)
        go_roundw
        case rel => exact ⟨k + 1, by omega, by go_num, HB.out.trans (hb'.mono HB.out.size), by rw [HA.out, HX.out, if_neg (by rw [HQ.out]; decide)]⟩
        case measure => simp [intOf]; omega
    · go_wp2
      go_ret
      exact ⟨ret_int (by rw [HA.out, idxP_end (by have := hs.len; omega)]), HB.out⟩

/-- slices.ContainsFunc at funds. -/
theorem containsFunc_any (g : Nat) (lb : Array Value) (p : Fu → Bool) (eg : ∀ args w, (callFunc g args).run Tryz.prog w = .ok (.enter g args) w)
    (A : Option Addr) (n c : Nat) (xs : List Fu) (w : World) (hs : Fs w w.heap.size A n c xs)
    (hp : ∀ W x, x ∈ xs → Below w.heap.size w W → Calls Tryz.prog g (#[fuV x] ++ lb) W fun e w' => e = .returned (.bool (p x)) ∧ Below W.heap.size W w') :
    Calls Tryz.prog 154 #[.slice A n c, .func (.func g) #[] lb] w fun e w' => e = .returned (.bool (decide (0 ≤ ix p xs))) ∧ Below w.heap.size w w' := by
  have HP := hide hp
  have HS := hide hs
  clear hp hs
  go_enter Tryz.func154, Tryz.ntmps154
  go_wp2_with (go_at_call 134; refine (indexFunc_any g lb p eg A n c xs _ HS.out HP.out).mono ?_; rintro e w' ⟨rfl, hb'⟩)
  go_ret
  exact ⟨rfl, hb'⟩

/-- place: the index of the fund with an ID, or -1. -/
theorem place_any (A : Option Addr) (n c : Nat) (xs : List Fu) (id : Int) (w : World) (hs : Fs w w.heap.size A n c xs) :
    Calls Tryz.prog 118 #[.slice A n c, .int .i64 id] w fun e w' => e = .returned (.int .i64 (atF xs id)) ∧ Below w.heap.size w w' := by
  have HS := hide hs
  clear hs
  go_enter Tryz.func118, Tryz.ntmps118
  go_wp2_with fail
  refine (indexFunc_any 167 _ (fun x => x.id == id) e_place1 A n c xs _ ((HS.out.alloc (Nat.le_refl _) _).more (by simp)) (fun W x _ hb => ?_)).mono ?_
  · exact place1_any x id w.heap.size W (by have := hb.size; simp at this; omega) ((hb.cell (p := ⟨w.heap.size, 0, none⟩) (by simp)).trans (by simp [go_sem]))
  rintro e w' ⟨rfl, hb'⟩
  go_wp2
  go_ret
  exact ⟨rfl, ((Below.refl _ _).alloc (Nat.le_refl _) _).trans (hb'.mono (by simp))⟩
end Go.Proofs.YtbhndfphegflhaaGreat

/- Walks: Get, Free, Clone, ContainsFunc's predicate, Same. -/
namespace Go.Proofs.YtbhndfphegflhaaGreat
open Go.RowKit

/-- What Get returns: the fund with an ID and true, or the zero fund and false. -/
def getF (xs : List Fu) (id : Int) : Fu × Bool :=
  match xs.find? (fun x => x.id == id) with
  | some x => (x, true)
  | none => (fu0, false)

theorem getF_at {xs : List Fu} {id : Int} : (atF xs id = -1 ∧ getF xs id = (fu0, false)) ∨ ∃ (i : Nat) (x : Fu), atF xs id = i ∧ xs[i]? = some x ∧ x.id = id ∧ getF xs id = (x, true) := by
  rcases ix_cases (fun x : Fu => x.id == id) xs with ⟨h1, h2⟩ | ⟨i, x, h1, h2, h3, h4⟩
  · refine .inl ⟨h1, ?_⟩
    have : xs.find? (fun x => x.id == id) = none := List.find?_eq_none.2 (fun x hx => by rw [h2 x hx]; decide)
    unfold getF; rw [this]
  · refine .inr ⟨i, x, h1, h2, by simpa using h3, ?_⟩
    have : xs.find? (fun x => x.id == id) = some x := by
      obtain ⟨hi, rfl⟩ := List.getElem?_eq_some_iff.1 h2
      rw [List.find?_eq_some_iff_append]
      refine ⟨h3, xs.take i, xs.drop (i + 1), by rw [← List.drop_eq_getElem_cons hi, List.take_append_drop], fun y hy => by rw [h4 y hy]; rfl⟩
    unfold getF; rw [this]

/-- The call's own row of five numbers for a result that is a fund. -/
theorem pget_any (A : Option Addr) (n c : Nat) (xs : List Fu) (id : Int) (w : World) (hs : Fs w w.heap.size A n c xs) :
    Calls Tryz.prog 61 #[.slice A n c, .int .i64 id] w fun e w' => e = .returned (.tuple #[fuV (getF xs id).1, .bool (getF xs id).2]) ∧ Below w.heap.size w w' := by
  have hle := hs.le
  have hbig := hs.big
  have HS := hide hs
  clear hs
  have hp := fun o => place_any A n c xs id (w.alloc o) ((HS.out.alloc (Nat.le_refl _) _).more (by simp))
  rcases getF_at (xs := xs) (id := id) with ⟨h1, h2⟩ | ⟨i, x, h1, h2, h3, h4⟩
  · rw [h1] at hp
    rw [h2]
    have HP := hide hp
    clear hp h1 h2
    go_enter Tryz.func61, Tryz.ntmps61
    go_wp2_with fail
    refine (HP.out _).mono ?_
    rintro e w1 ⟨rfl, hb⟩
    obtain ⟨hc, hf⟩ := bcell hb
    have hz : w.heap.size < w1.heap.size := by have := hb.size; simp at this; omega
    go_wp2
    refine bodyPost_ret (v := .tuple #[fuV fu0, .bool false]) (by simp [results, Tryz.results61, go_sem, hc, fuV, fu0]) rfl ⟨rfl, ?_⟩
    exact below_box5 (below_call hb) (Nat.le_refl _) _ _ _ _ _
  · rw [h1] at hp
    rw [h4]
    have HP := hide hp
    have hi : i < n := by have := (List.getElem?_eq_some_iff.1 h2).1; have := HS.out.len; omega
    obtain ⟨b, off, y, rfl, hbB, hy, c0, c1, c2, c3, c4⟩ := Fs_at HS.out hi
    obtain rfl : x = y := by rw [hy] at h2; exact (Option.some.inj h2).symm
    clear hp h1 h2 hy h4 h3
    go_enter Tryz.func61, Tryz.ntmps61
    go_wp2_with fail
    refine (HP.out _).mono ?_
    rintro e w1 ⟨rfl, hb⟩
    obtain ⟨hc, hf⟩ := bcell hb
    have hz : w.heap.size < w1.heap.size := by have := hb.size; simp at this; omega
    have hcc : ∀ o, w1.cell? ⟨b, o, none⟩ = w.cell? ⟨b, o, none⟩ := fun o => by
      rw [hc b o (by simp; omega)]; exact World.cell?_alloc_lt w _ _ hbB
    rw [← hcc] at c0 c1 c2 c3 c4
    go_wp2
    refine bodyPost_ret (v := .tuple #[fuV x, .bool true]) (by simp [results, Tryz.results61, go_sem, hc, fuV]) rfl ⟨rfl, ?_⟩
    exact below_box5 (below_call hb) (Nat.le_refl _) _ _ _ _ _

theorem frget_any (A : Option Addr) (n c : Nat) (xs : List Fu) (id : Int) (w : World) (hs : Fs w w.heap.size A n c xs) :
    Calls Tryz.prog 57 #[.slice A n c, .int .i64 id] w fun e w' => e = .returned (.tuple #[fuV (getF xs id).1, .bool (getF xs id).2]) ∧ Below w.heap.size w w' := by
  have hle := hs.le
  have hbig := hs.big
  have HS := hide hs
  clear hs
  have hp := fun o => at_any A n c xs id (w.alloc o) _ ((HS.out.alloc (Nat.le_refl _) _).more (Nat.le_refl _))
  rcases getF_at (xs := xs) (id := id) with ⟨h1, h2⟩ | ⟨i, x, h1, h2, h3, h4⟩
  · rw [h1] at hp
    rw [h2]
    have HP := hide hp
    clear hp h1 h2
    go_enter Tryz.func57, Tryz.ntmps57
    go_wp2_with fail
    refine (HP.out _).mono ?_
    rintro e w1 ⟨rfl, rfl⟩
    go_wp2
    refine bodyPost_ret (v := .tuple #[fuV fu0, .bool false]) (by simp [results, Tryz.results57, go_sem, fuV, fu0]) rfl ⟨rfl, ?_⟩
    exact (Below.refl _ _).alloc (Nat.le_refl _) _
  · rw [h1] at hp
    rw [h4]
    have HP := hide hp
    have hi : i < n := by have := (List.getElem?_eq_some_iff.1 h2).1; have := HS.out.len; omega
    obtain ⟨b, off, y, rfl, hbB, hy, c0, c1, c2, c3, c4⟩ := Fs_at HS.out hi
    obtain rfl : x = y := by rw [hy] at h2; exact (Option.some.inj h2).symm
    clear hp h1 h2 hy h4 h3
    go_enter Tryz.func57, Tryz.ntmps57
    go_wp2_with fail
    refine (HP.out _).mono ?_
    rintro e w1 ⟨rfl, rfl⟩
    go_wp2
    refine bodyPost_ret (v := .tuple #[fuV x, .bool true]) (by simp [results, Tryz.results57, go_sem, fuV]) rfl ⟨rfl, ?_⟩
    exact (Below.refl _ _).alloc (Nat.le_refl _) _

end Go.Proofs.YtbhndfphegflhaaGreat

/- Walks: Free, the predicate of Right, Clone, Same, changed. -/
namespace Go.Proofs.YtbhndfphegflhaaGreat
open Go.RowKit

/-- The three amounts of a fund are amounts. -/
structure FuM (x : Fu) : Prop where
  b : 0 ≤ x.budget ∧ x.budget ≤ 100000000
  e : 0 ≤ x.enc ∧ x.enc ≤ 100000000
  s : 0 ≤ x.spent ∧ x.spent ≤ 100000000
theorem FuM.zero : FuM fu0 := ⟨⟨by decide, by decide⟩, ⟨by decide, by decide⟩, ⟨by decide, by decide⟩⟩
theorem getF_M {xs : List Fu} (h : ∀ x ∈ xs, FuM x) (id : Int) : FuM (getF xs id).1 := by
  rcases getF_at (xs := xs) (id := id) with ⟨_, h2⟩ | ⟨i, x, _, h2, _, h4⟩
  · rw [h2]; exact FuM.zero
  · rw [h4]; exact h x (List.mem_of_getElem? h2)

def freeF (x : Fu) : Int := x.budget - x.enc - x.spent

theorem pfree_any (A : Option Addr) (n c : Nat) (xs : List Fu) (id : Int) (w : World) (hs : Fs w w.heap.size A n c xs) (hm : ∀ x ∈ xs, FuM x) :
    Calls Tryz.prog 34 #[.slice A n c, .int .i64 id] w fun e w' => e = .returned (.int .i64 (freeF (getF xs id).1)) ∧ Below w.heap.size w w' := by
  have hp := pget_any A n c xs id w hs
  have hM := getF_M hm id
  clear hm
  generalize getF xs id = r at hp hM
  obtain ⟨x, ok⟩ := r
  have HP := hide hp
  have HM := hide hM
  clear hp hM
  unfold fuV at HP
  go_enter Tryz.func34, Tryz.ntmps34
  go_wp2_with fail
  refine (HP.out).mono ?_
  rintro e w1 ⟨rfl, hb⟩
  have hz : w.heap.size ≤ w1.heap.size := hb.size
  go_wp2_with fail
  refine (free_any x _ HM.out.b HM.out.e HM.out.s).mono ?_
  rintro e w2 ⟨rfl, hb2⟩
  go_wp2
  go_ret
  exact ⟨rfl, hb.trans ((below_call hb2).mono hz)⟩

theorem right1_any (x : Fu) (w : World) (hm : FuM x) :
    Calls Tryz.prog 155 #[fuV x] w fun e w' => e = .returned (.bool (decide (freeF x < 0))) ∧ Below w.heap.size w w' := by
  have hM := fun o => free_any x (w.alloc o) hm.b hm.e hm.s
  clear hm
  unfold fuV at hM ⊢
  have HM := hide hM
  clear hM
  go_enter Tryz.func155, Tryz.ntmps155
  go_wp2_with fail
  refine (HM.out _).mono ?_
  rintro e w2 ⟨rfl, hb2⟩
  go_wp2
  go_ret
  exact ⟨rfl, below_call hb2⟩

theorem fu_info : (Tryz.prog.info? 57).map (fun i => (i.zero, i.size, i.bytes)) = some (some (.agg #[.int .i64 0, .int .i64 0, .int .i64 0, .int .i64 0, .int .i64 0]), 5, 40) := by kernel_rfl

/-- A new row that reads as xs (nil where there is none). -/
abbrev Fo (w : World) (B : Nat) (v : Value) (xs : List Fu) : Prop := w.ownsRow B 57 5 v xs.length (xs.flatMap fuE)

theorem clone_any (A : Option Addr) (n c : Nat) (xs : List Fu) (w : World) (hs : Fs w w.heap.size A n c xs) (hn : n ≤ 1000) :
    Calls Tryz.prog 133 #[.slice A n c] w fun e w' => ∃ v, e = .returned v ∧ Fo w' w.heap.size v xs ∧ Below w.heap.size w w' := by
  obtain ⟨i0, hi, hz0, hz1, hz2⟩ := info_parts fu_info
  have HS := hide hs
  have hnl := hs.nl
  clear hs
  cases A with
  | none =>
    have hx : xs = [] := by
      have h1 := HS.out.len; have h2 := HS.out.nl rfl; have h3 := HS.out.le
      exact List.eq_nil_of_length_eq_zero (by omega)
    subst hx
    clear hnl
    have q22 : ∀ (w : World) (a : Option Addr) (n c n' c' : Nat), (binOp .eql 22 (.slice a n c) (.slice none n' c')).run Tryz.prog w = .ok (.bool a.isNone) w := fun w a n c n' c' => Lib.run_eql_slice_nil w _ _ a n c n' c' Tryz.underlying22
    go_enter Tryz.func133, Tryz.ntmps133
    go_wp2
    go_ret
    exact ⟨_, rfl, World.ownsRow_nil _ _ _ _, Below.refl _ _⟩
  | some ad =>
    clear hnl
    have q22 : ∀ (w : World) (a : Option Addr) (n c n' c' : Nat), (binOp .eql 22 (.slice a n c) (.slice none n' c')).run Tryz.prog w = .ok (.bool a.isNone) w := fun w a n c n' c' => Lib.run_eql_slice_nil w _ _ a n c n' c' Tryz.underlying22
    go_enter Tryz.func133, Tryz.ntmps133
    go_wp2_with (at_builtin; go_must (refine wpList_append_sl _ rfl _ _ 22 rfl w.heap.size 57 i0 _ 40 Tryz.underlying22 hi hz0 hz1 hz2 rfl (by decide) fuE_len fuE_one _ 0 [] rfl (World.ownsRow_made w #[] 0 (Nat.le_refl _) (Nat.zero_le _) rfl) (some ad) n c rfl (HS.out.alloc (Nat.le_refl _) _) (by unfold maxLen; omega) (by omega) (by simp) ?_))
    intro v' w1 hown hg hat
    go_wp2
    go_ret
    refine ⟨v', rfl, ?_, ((Below.refl _ w).alloc (Nat.le_refl _) _).grown hg (by simp) (by intro k hk; simp [Value.ownBlock] at hk; omega)⟩
    have hl := HS.out.len
    subst hl
    simpa using hown
end Go.Proofs.YtbhndfphegflhaaGreat

/- Walks: '==' of two funds; Same; changed. -/
namespace Go.Proofs.YtbhndfphegflhaaGreat
open Go.RowKit

theorem fu_struct : Tryz.prog.underlying 57 = some (.struct (Tryz.prog.fieldsOf 57)) := by kernel_rfl
end Go.Proofs.YtbhndfphegflhaaGreat

/- Walks: change and what is handed to it. -/
namespace Go.Proofs.YtbhndfphegflhaaGreat
open Go.RowKit

theorem madd_any (a b : Int) (w : World) (hb : I64 b) :
    Calls Tryz.prog 138 #[.int .i64 a, .int .i64 b] w fun e w' => e = .returned (if mny a && mny b && mny (a + b) then .tuple #[.int .i64 (a + b), .int .i64 0] else .tuple #[.int .i64 0, .int .i64 2]) ∧ w = w' := by
  obtain ⟨hb1, hb2⟩ := hb
  by_cases h1 : mny a = true
  · by_cases h2 : mny b = true
    · have h1' : 0 ≤ a ∧ a ≤ 100000000 := by simpa [mny] using h1
      have h2' : 0 ≤ b ∧ b ≤ 100000000 := by simpa [mny] using h2
      obtain ⟨p1, p2⟩ := h1'
      obtain ⟨p3, p4⟩ := h2'
      have m1 := mright_any a
      have m2 := mright_any b
      have m3 := mright_any (a + b)
      rw [h1] at m1
      rw [h2] at m2
      have M1 := hide m1
      have M2 := hide m2
      rw [h1, h2]
      clear m1 m2 h1 h2
      by_cases h3 : mny (a + b) = true
      · rw [h3] at m3 ⊢
        have M3 := hide m3
        clear m3 h3
        go_enter Tryz.func138, Tryz.ntmps138
        go_wp2_with fail
        refine (M1.out _).mono ?_
        rintro e w1 ⟨rfl, rfl⟩
        go_wp2_with fail
        refine (M2.out _).mono ?_
        rintro e w1 ⟨rfl, rfl⟩
        go_wp2_with fail
        refine (M3.out _).mono ?_
        rintro e w1 ⟨rfl, rfl⟩
        go_wp2
        go_ret2
        exact ⟨rfl, rfl⟩
      · have h3' : mny (a + b) = false := by simpa using h3
        rw [h3'] at m3 ⊢
        have M3 := hide m3
        clear m3 h3 h3'
        go_enter Tryz.func138, Tryz.ntmps138
        go_wp2_with fail
        refine (M1.out _).mono ?_
        rintro e w1 ⟨rfl, rfl⟩
        go_wp2_with fail
        refine (M2.out _).mono ?_
        rintro e w1 ⟨rfl, rfl⟩
        go_wp2_with fail
        refine (M3.out _).mono ?_
        rintro e w1 ⟨rfl, rfl⟩
        go_wp2
        go_ret2
        exact ⟨rfl, rfl⟩
    · have h2' : mny b = false := by simpa using h2
      have m1 := mright_any a
      have m2 := mright_any b
      rw [h1] at m1
      rw [h2'] at m2
      have M1 := hide m1
      have M2 := hide m2
      rw [h1, h2']
      clear m1 m2 h1 h2 h2'
      go_enter Tryz.func138, Tryz.ntmps138
      go_wp2_with fail
      refine (M1.out _).mono ?_
      rintro e w1 ⟨rfl, rfl⟩
      go_wp2_with fail
      refine (M2.out _).mono ?_
      rintro e w1 ⟨rfl, rfl⟩
      go_wp2
      go_ret2
      exact ⟨rfl, rfl⟩
  · have h1' : mny a = false := by simpa using h1
    have m1 := mright_any a
    rw [h1'] at m1
    have M1 := hide m1
    rw [h1']
    clear m1 h1 h1'
    go_enter Tryz.func138, Tryz.ntmps138
    go_wp2_with fail
    refine (M1.out _).mono ?_
    rintro e w1 ⟨rfl, rfl⟩
    go_wp2
    go_ret2
    exact ⟨rfl, rfl⟩

/-- What Encumber's function makes of a fund: the error code and the fund. -/
def encF (am : Int) (x : Fu) : Int × Fu :=
  if mny am = false then (2, x) else if freeF x < am then (17, x) else (0, { x with enc := x.enc + am })

/-- Row g of W is a row of n funds that reads as ys. -/
abbrev Rw (W : World) (base g n cap : Nat) (ys : List Fu) : Prop := W.ownsRow base 57 5 (.slice (some ⟨g, 0, none⟩) n cap) n (ys.flatMap fuE) ∧ ys.length = n

theorem Rw_cells {W : World} {base g n cap : Nat} {ys : List Fu} (h : Rw W base g n cap ys) {i : Nat} {x : Fu} (hx : ys[i]? = some x) :
    (W.cell? ⟨g, i * 5, none⟩ = some (.int .i64 x.id) ∧ W.cell? ⟨g, i * 5 + 1, none⟩ = some (.int .i64 x.parent) ∧ W.cell? ⟨g, i * 5 + 2, none⟩ = some (.int .i64 x.budget)
      ∧ W.cell? ⟨g, i * 5 + 3, none⟩ = some (.int .i64 x.enc) ∧ W.cell? ⟨g, i * 5 + 4, none⟩ = some (.int .i64 x.spent)) ∧ ∀ j, W.frozen? ⟨g, j, none⟩ = false :=
  ⟨fu_cells (own_cell fuE_len h.1 h.2 hx), fun j => h.1.frozenAt j⟩
theorem Rw_lt {W : World} {base g n cap : Nat} {ys : List Fu} (h : Rw W base g n cap ys) : base ≤ g ∧ g < W.heap.size := h.1.lt g rfl
theorem Rw_below {W w' : World} {base g n cap : Nat} {ys : List Fu} (h : Rw W base g n cap ys) (hb : Below W.heap.size W w') : Rw w' base g n cap ys :=
  ⟨h.1.kept (row := none) ⟨hb.os, hb.tape, hb.output, hb.size, fun k hk _ => hb.block k hk⟩ (.inr (by simp [Value.ownBlock])), h.2⟩
theorem Rw_drewN {W : World} {base g n cap : Nat} {ys : List Fu} (h : Rw W base g n cap ys) (m : Nat) : Rw (W.drewN m) base g n cap ys := h

theorem Rw_set {W : World} {base g n cap : Nat} {ys : List Fu} (h : Rw W base g n cap ys) {i j : Nat} {x y : Fu} {u : Value} (hx : ys[i]? = some x) (hj : j < 5) (he : fuE y = (fuE x).set j u) :
    Rw (W.setCell ⟨g, i * 5 + j, none⟩ u) base g n cap (ys.set i y) := ⟨own_set fuE_len h.1 hx hj he, by rw [List.length_set]; exact h.2⟩
theorem set_same {α : Type} {ys : List α} {i : Nat} {x : α} (h : ys[i]? = some x) : ys.set i x = ys := by
  obtain ⟨hi, rfl⟩ := List.getElem?_eq_some_iff.1 h
  exact List.set_getElem_self hi

set_option maxHeartbeats 400000 in
theorem enc1_any (base g n cap i a : Nat) (ys : List Fu) (x : Fu) (am : Int) (W : World) (hr : Rw W base g n cap ys) (hx : ys[i]? = some x) (hm : FuM x) (hba : base ≤ W.heap.size)
    (hc : W.cell? ⟨a, 0, none⟩ = some (.int .i64 am)) :
    Calls Tryz.prog 121 #[.pointer (some ⟨g, i * 5, none⟩), .pointer (some ⟨a, 0, none⟩)] W fun e w' => e = .returned (.int .i64 (encF am x).1) ∧ Rw w' base g n cap (ys.set i (encF am x).2) ∧ Below base W w' := by
  have hm1 := mright_any am
  obtain ⟨⟨c0, c1, c2, c3, c4⟩, hfz⟩ := Rw_cells hr hx
  obtain ⟨hgb, hgl⟩ := Rw_lt hr
  have HX := hide hx
  have HR := hide hr
  have HM := hide hm
  have HE := hide (set_same hx)
  clear hr hx hm
  by_cases h1 : mny am = true
  · rw [h1] at hm1
    have h1' : 0 ≤ am ∧ am ≤ 100000000 := by simpa [mny] using h1
    obtain ⟨p1, p2⟩ := h1'
    have hf := fun w => free_any x w HM.out.b HM.out.e HM.out.s
    unfold fuV at hf
    have HF := hide hf
    have M1 := hide hm1
    have f0 := Grn.cell hc
    have f1 := Grn.cell c0
    have f2 := Grn.cell c1
    have f3 := Grn.cell c2
    have f4 := Grn.cell c3
    have f5 := Grn.cell c4
    have g3 := fun j => Grn.frz hgl (hfz j)
    clear hf hm1
    by_cases h2 : freeF x < am
    · have he : encF am x = (17, x) := by simp [encF, h1, h2]
      rw [he]
      unfold freeF at h2
      clear he h1
      go_enter Tryz.func121, Tryz.ntmps121
      go_wp2_with fail
      refine (M1.out _).mono ?_
      rintro e w1 ⟨rfl, rfl⟩
      go_wp2_with fail
      refine wp_region_grn (by kernel_rfl) (by kernel_rfl) ?_
      repeat (go_big_quiet_step ((go_at_call 88; exact Calls_grn (HF.out _))))
      refine wpQuiet_nil ?_
      rintro _ ⟨⟨w2, hb2⟩, rfl⟩
      go_wp2
      go_ret
      exact ⟨rfl, by rw [HE.out]; exact Rw_below HR.out hb2, hb2.mono hba⟩
    · have he : encF am x = (0, { x with enc := x.enc + am }) := by simp [encF, h1, h2]
      rw [he]
      unfold freeF at h2
      clear he h1
      have e1 := HM.out.e.1
      have e2 := HM.out.e.2
      go_enter Tryz.func121, Tryz.ntmps121
      go_wp2_with fail
      refine (M1.out _).mono ?_
      rintro e w1 ⟨rfl, rfl⟩
      go_wp2_with fail
      refine wp_region_grn (by kernel_rfl) (by kernel_rfl) ?_
      repeat (go_big_quiet_step ((go_at_call 88; exact Calls_grn (HF.out _))))
      refine wpQuiet_nil ?_
      rintro _ ⟨p, rfl⟩
      have k0 := f0 p
      have k3 := f4 p
      have kf := fun j => g3 j p
      go_wp2
      go_region
      go_wp2
      go_ret
      exact ⟨rfl, Rw_set (j := 3) (Rw_below HR.out p.h) HX.out (by omega) rfl, (p.h.mono hba).drew.setCell hgb _⟩
  · have h1' : mny am = false := by simpa using h1
    rw [h1'] at hm1
    have he : encF am x = (2, x) := by simp [encF, h1']
    rw [he]
    have M1 := hide hm1
    clear hm1 h1 h1' he
    go_enter Tryz.func121, Tryz.ntmps121
    go_wp2_with fail
    refine (M1.out _).mono ?_
    rintro e w1 ⟨rfl, rfl⟩
    go_wp2
    go_ret
    exact ⟨rfl, by rw [HE.out]; exact HR.out, Below.refl _ _⟩

def relF (am : Int) (x : Fu) : Int × Fu :=
  if mny am = false then (2, x) else if x.enc < am then (17, x) else (0, { x with enc := x.enc - am })

def budF (am : Int) (x : Fu) : Int × Fu :=
  if mny am && mny (x.budget + am) then (0, { x with budget := x.budget + am }) else (2, { x with budget := 0 })

set_option maxHeartbeats 400000 in
theorem bud1_any (base g n cap i a : Nat) (ys : List Fu) (x : Fu) (am : Int) (W : World) (hr : Rw W base g n cap ys) (hx : ys[i]? = some x) (hm : FuM x) (ham : I64 am)
    (hc : W.cell? ⟨a, 0, none⟩ = some (.int .i64 am)) :
    Calls Tryz.prog 137 #[.pointer (some ⟨g, i * 5, none⟩), .pointer (some ⟨a, 0, none⟩)] W fun e w' => e = .returned (.int .i64 (budF am x).1) ∧ Rw w' base g n cap (ys.set i (budF am x).2) ∧ Below base W w' := by
  have hm1 := fun w => madd_any x.budget am w ham
  obtain ⟨⟨c0, c1, c2, c3, c4⟩, hfz⟩ := Rw_cells hr hx
  obtain ⟨hgb, hgl⟩ := Rw_lt hr
  have HX := hide hx
  have HR := hide hr
  have hxb : mny x.budget = true := by have := hm.b; simp [mny, this]
  rw [hxb, Bool.true_and] at hm1
  clear hr hx hm hxb c0 c1 c3 c4
  by_cases h1 : (mny am && mny (x.budget + am)) = true
  · rw [if_pos h1] at hm1
    have he : budF am x = (0, { x with budget := x.budget + am }) := by unfold budF; rw [if_pos h1]
    rw [he]
    have M1 := hide hm1
    clear hm1 h1 he
    go_enter Tryz.func137, Tryz.ntmps137
    go_wp2_with fail
    go_quiet ((go_at_call 138; exact Calls.quiet_of_same ((M1.out _).mono fun _ _ h => ⟨h.1, h.2.symm⟩)))
    go_wp2
    go_ret
    exact ⟨rfl, Rw_set (j := 2) (Rw_drewN HR.out _) HX.out (by omega) rfl, (below_drewN (Below.refl _ _) _).setCell hgb _⟩
  · rw [if_neg h1] at hm1
    have he : budF am x = (2, { x with budget := 0 }) := by unfold budF; rw [if_neg h1]
    rw [he]
    have M1 := hide hm1
    clear hm1 h1 he
    go_enter Tryz.func137, Tryz.ntmps137
    go_wp2_with fail
    go_quiet ((go_at_call 138; exact Calls.quiet_of_same ((M1.out _).mono fun _ _ h => ⟨h.1, h.2.symm⟩)))
    go_wp2
    go_ret
    exact ⟨rfl, Rw_set (j := 2) (Rw_drewN HR.out _) HX.out (by omega) rfl, (below_drewN (Below.refl _ _) _).setCell hgb _⟩

end Go.Proofs.YtbhndfphegflhaaGreat
