/- Texts laid together by merge.py: Open2, Row, IuKit, PtPlain, ShKit. -/
import Derived.Test.YtbhndfphegflhaaGreatMrg3
import Derived.Test.YtbhndfphegflhaaGreatMrg0
import Derived.Laws.IdiomCopy
import Derived.Laws.CopyOwn
import Derived.Deep.RegionLaw
import Derived.Lib.AppendZeros
import Derived.Lib.AppendZerosOnto
import Derived.Lib.Overlaps
import Derived.Laws.Externs
import Derived.Test.YtbhndfphegflhaaGreatProg
import Derived.Shelf.Abstract
set_option linter.unusedSimpArgs false
set_option linter.unusedVariables false
/- A cell that is a bool, opened. No program. -/
namespace Go.Proofs.YtbhndfphegflhaaGreat
open Go.RowKit Go.ChangeShapes Go.WideShapes Go.Deep
def Boolv (v : Value) : Prop := ∃ b : Bool, v = .bool b
theorem Boolv_of {H : Type} {enc : TypeId × Value → H} {P : Program} {w : World} {base : Nat} {spare : Nat → Bool} {held : Bool} {t : TypeId} (ht : P.underlying t = some .bool) {n : Nat} {v : Value} {y : DataW H × List MemPlace}
    (h : DataW.trod enc P w base spare held n t [v] = some y) : Boolv v := by
  obtain ⟨a, hv, _⟩ := DataW.trod_bool ht h
  simp only [List.cons.injEq, and_true] at hv
  exact ⟨a, hv⟩
def boolIs : Value → Bool
  | .bool b => b
  | _ => false
end Go.Proofs.YtbhndfphegflhaaGreat

/- Rows of elements of k cells in a block that is known whole: stores, copies, clears. No program. -/
namespace Go.Proofs.YtbhndfphegflhaaGreat
open Go.RowKit

theorem splice_cons (l : List Value) (o : Nat) (v : Value) (r : List Value) (h : o + (r.length + 1) ≤ l.length) : splice (l.set o v) (o + 1) r = splice l o (v :: r) := by
  have := list_seg_step l o v r h
  unfold splice
  simp only [List.append_assoc, List.length_cons, List.cons_append] at this ⊢
  exact this

theorem Box.setCells {t : TypeId} {g : Nat} : ∀ (vs : List Value) (o : Nat) (w : World) (cs : Array Value), Box w g t cs → o + vs.length ≤ cs.size → Box (w.setCells g o vs) g t (splice cs.toList o vs).toArray
  | [], o, w, cs, h, _ => by
    have : splice cs.toList o [] = cs.toList := by simp [splice]
    rw [this]; exact h
  | v :: r, o, w, cs, h, hl => by
    have ih := Box.setCells r (o + 1) (w.setCell ⟨g, o, none⟩ v) (cs.setIfInBounds o v) (h.set_ o v) (by simp at hl ⊢; omega)
    rw [Array.toList_setIfInBounds, splice_cons _ _ _ _ (by simpa using hl)] at ih
    exact ih

theorem below_setCells {B b : Nat} {a : World} (hb : B ≤ b) : ∀ (vs : List Value) (o : Nat) (w : World), Below B a w → Below B a (w.setCells b o vs)
  | [], _, _, h => h
  | v :: r, o, _, h => below_setCells hb r (o + 1) _ (h.setCell hb v)

theorem Box.far_setCells {g b : Nat} {t : TypeId} {cs : Array Value} (hne : g ≠ b) : ∀ (vs : List Value) (o : Nat) (w : World), Box w g t cs → Box (w.setCells b o vs) g t cs
  | [], _, _, h => h
  | v :: r, o, _, h => Box.far_setCells hne r (o + 1) _ (h.far (p := ⟨b, o, none⟩) hne v)

theorem Box.own {w : World} {base g n cap k : Nat} {t : TypeId} {cur : Array Value} {ys : List Value} (h : Box w g t cur) (hb : base ≤ g) (hn : n ≤ cap) (hm : cap ≤ maxLen) (hs : cur.size = cap * k) (ht : cur.toList.take (n * k) = ys) :
    w.ownsRow base t k (.slice (some ⟨g, 0, none⟩) n cap) n ys := by
  refine ⟨?_, .inr ⟨g, cap, cur, rfl, hb, h, hn, hm, hs, ht⟩⟩
  rw [← ht, List.length_take]
  have : n * k ≤ cap * k := Nat.mul_le_mul_right k hn
  simp; omega

/-- What a row of the call's own is: nil and empty, or a block known whole. -/
theorem own_box {w : World} {base n k : Nat} {t : TypeId} {v : Value} {ys : List Value} (h : w.ownsRow base t k v n ys) :
    (v = .slice none 0 0 ∧ n = 0) ∨ ∃ g cap cur, v = .slice (some ⟨g, 0, none⟩) n cap ∧ base ≤ g ∧ Box w g t cur ∧ n ≤ cap ∧ cap ≤ maxLen ∧ cur.size = cap * k ∧ cur.toList.take (n * k) = ys := by
  rcases h.2 with h | ⟨g, cap, cur, h1, h2, h3, h4⟩
  · exact .inl h
  · exact .inr ⟨g, cap, cur, h1, h2, h3, h4⟩

theorem World.shape_box {w : World} {g : Nat} {t : TypeId} {cs : Array Value} (h : Box w g t cs) : w.shape? g = some (t, cs.size) := by
  unfold Box at h
  simp [World.shape?, h]

theorem splice_len (l : List Value) (o : Nat) (c : List Value) (h : o + c.length ≤ l.length) : (splice l o c).length = l.length := length_splice l o c h
theorem take_splice_lo (l : List Value) (o a : Nat) (c : List Value) (ha : a ≤ o) (ho : o ≤ l.length) : (splice l o c).take a = l.take a := by
  unfold splice
  rw [List.take_append_of_le_length (by simp; omega), List.take_take, Nat.min_eq_left ha]
theorem take_splice (l : List Value) (o : Nat) (c : List Value) (ho : o ≤ l.length) : (splice l o c).take (o + c.length) = l.take o ++ c := by
  unfold splice
  rw [← List.append_assoc, List.take_append_of_le_length (by simp; omega), List.take_of_length_le (by simp; omega)]
theorem drop_splice (l : List Value) (o : Nat) (c : List Value) (ho : o ≤ l.length) : (splice l o c).drop o = c ++ l.drop (o + c.length) := by
  have h1 : (l.take o).length = o := by simp; omega
  unfold splice
  rw [List.drop_append_of_le_length (by omega), List.drop_of_length_le (by omega), List.nil_append]
/-- First the element, then what stood behind. -/
theorem splice_two (l X M : List Value) (a : Nat) (h : a + X.length + M.length ≤ l.length) : (splice (splice l a X) (a + X.length) M).take (a + X.length + M.length) = l.take a ++ X ++ M := by
  rw [take_splice _ _ _ (by rw [splice_len _ _ _ (by omega)]; omega), take_splice _ _ _ (by omega)]
/-- First what stood behind, then the element. -/
theorem splice_two' (l X M : List Value) (a : Nat) (h : a + X.length + M.length ≤ l.length) : (splice (splice l (a + X.length) M) a X).take (a + X.length + M.length) = l.take a ++ X ++ M := by
  have hl := splice_len l (a + X.length) M (by omega)
  have e : splice (splice l (a + X.length) M) a X = l.take a ++ (X ++ (M ++ l.drop (a + X.length + M.length))) := by
    rw [splice, take_splice_lo _ _ _ _ (by omega) (by omega), drop_splice _ _ _ (by omega)]
  rw [e, ← List.append_assoc, ← List.append_assoc, List.take_append_of_le_length (by simp; omega), List.take_of_length_le (by simp; omega)]
theorem splice_shut (l M Z : List Value) (a : Nat) (h : a + M.length + Z.length ≤ l.length) : (splice (splice l a M) (a + M.length) Z).take (a + M.length) = l.take a ++ M := by
  rw [take_splice_lo _ _ _ _ (Nat.le_refl _) (by rw [splice_len _ _ _ (by omega)]; omega), take_splice _ _ _ (by omega)]

theorem flat_take {α : Type} {enc : α → List Value} {k : Nat} (hk : ∀ x, (enc x).length = k) : ∀ (xs : List α) (i : Nat), (xs.flatMap enc).take (i * k) = (xs.take i).flatMap enc
  | [], i => by simp
  | x :: r, 0 => by simp
  | x :: r, i + 1 => by
    rw [List.flatMap_cons, List.take_succ_cons, List.flatMap_cons, List.take_append, hk, show (i + 1) * k - k = i * k from by rw [Nat.add_mul]; omega, flat_take hk r i, List.take_of_length_le (by rw [hk, Nat.add_mul]; omega)]
theorem flat_drop {α : Type} {enc : α → List Value} {k : Nat} (hk : ∀ x, (enc x).length = k) : ∀ (xs : List α) (i : Nat), (xs.flatMap enc).drop (i * k) = (xs.drop i).flatMap enc
  | [], i => by simp
  | x :: r, 0 => by simp
  | x :: r, i + 1 => by
    rw [List.flatMap_cons, List.drop_succ_cons, List.drop_append, hk, show (i + 1) * k - k = i * k from by rw [Nat.add_mul]; omega, flat_drop hk r i, List.drop_of_length_le (by rw [hk, Nat.add_mul]; omega), List.nil_append]

theorem take_splice_hi (l : List Value) (o m : Nat) (c : List Value) (h : o + c.length ≤ m) (hm : m ≤ l.length) : (splice l o c).take m = splice (l.take m) o c := by
  unfold splice
  have h1 : (l.take o).length = o := by simp; omega
  rw [List.take_append, h1, List.take_append, List.take_of_length_le (by omega), List.take_of_length_le (by omega : c.length ≤ m - o), List.take_take, Nat.min_eq_left (by omega), List.drop_take]
  rw [show m - o - c.length = m - (o + c.length) from by omega]
theorem splice_flat {α : Type} {enc : α → List Value} {k : Nat} (hk : ∀ x, (enc x).length = k) (xs : List α) (i : Nat) (y : α) (hi : i < xs.length) : splice (xs.flatMap enc) (i * k) (enc y) = (xs.set i y).flatMap enc := by
  unfold splice
  rw [hk, show i * k + k = (i + 1) * k from by rw [Nat.add_mul]; omega, flat_take hk, flat_drop hk, List.set_eq_take_append_cons_drop, if_pos hi, List.flatMap_append, List.flatMap_cons]
/-- A whole element stored into a row of the call's own. -/
theorem own_setk {α : Type} {enc : α → List Value} {k : Nat} {w : World} {base g n cap : Nat} {t : TypeId} {xs : List α} (hk : ∀ x, (enc x).length = k) (h : w.ownsRow base t k (.slice (some ⟨g, 0, none⟩) n cap) n (xs.flatMap enc)) (hl : xs.length = n) {i : Nat} (hi : i < n) (y : α) :
    (w.setCells g (i * k) (enc y)).ownsRow base t k (.slice (some ⟨g, 0, none⟩) n cap) n ((xs.set i y).flatMap enc) := by
  rcases own_box h with ⟨h0, _⟩ | ⟨g', cap', cur, h0, hbg, hB, hnc, hcm, hcs, htk⟩
  · cases h0
  · cases h0
    have hm : (i + 1) * k ≤ n * k := Nat.mul_le_mul_right k hi
    have hn : n * k ≤ cap * k := Nat.mul_le_mul_right k hnc
    rw [Nat.add_mul] at hm
    have b := hB.setCells (enc y) (i * k) _ _ (by rw [hk, hcs]; omega)
    refine b.own hbg hnc hcm ?_ ?_
    · rw [List.size_toArray, splice_len _ _ _ (by rw [hk, Array.length_toList, hcs]; omega), Array.length_toList, hcs]
    · show (splice cur.toList (i * k) (enc y)).take (n * k) = _
      rw [take_splice_hi _ _ _ _ (by rw [hk]; omega) (by rw [Array.length_toList, hcs]; omega), htk, splice_flat hk xs i y (by omega)]

/-- A block of the call's own that holds a list's cells, as a slice. -/
theorem Sl.of_box {α : Type} {enc : α → List Value} {k : Nat} {w : World} {g n c : Nat} {t : TypeId} {xs : List α} (hk : ∀ x, (enc x).length = k) (h : Box w g t (xs.flatMap enc).toArray) (hl : xs.length = n) (hn : n ≤ c) (hbig : n ≤ 140737488355328) :
    Sl enc k w (g + 1) (some ⟨g, 0, none⟩) n c xs := by
  refine ⟨hl, hn, hbig, (fun e => by cases e), fun _ => ⟨g, 0, rfl, by omega, fun i x hx j u hu => ?_⟩⟩
  have hjk : j < k := by have := (List.getElem?_eq_some_iff.1 hu).1; rw [hk] at this; exact this
  rw [Nat.zero_add, h.cell]
  have := flat_at hk xs i x hx j hjk
  rw [hu] at this
  simpa using this

section
variable {P : Program}
/-- 'copy(dst, src)', elements of whatever number of cells; all is read before anything is written. -/
theorem run_copyk (w : World) (dT sT ty elem : TypeId) (i : TypeInfo) (b o dLen dCap : Nat) (a : Addr) (sLen sCap : Nat) (cs : List Value)
    (hu : P.underlying dT = some (.slice elem)) (hi : P.info? elem = some i) (hn : cs.length = Nat.min sLen dLen * i.size)
    (hsrc : ∀ j v, cs[j]? = some v → w.cell? (a.add j) = some v) (hc : ∀ j, j < cs.length → (w.cell? ⟨b, o + j, none⟩).isSome = true) (hf : ∀ j, j < cs.length → w.frozen? ⟨b, o + j, none⟩ = false) (h1 : ∀ v ∈ cs, v.oneCell' = true) :
    (Builtin.copy_ #[dT, sT] ty #[.slice (some ⟨b, o, none⟩) dLen dCap, .slice (some a) sLen sCap]).run P w = .ok (goInt (Nat.min sLen dLen)) (w.setCells b o cs) := by
  have hl := run_firstCells_some (P := P) w i.size (Nat.min sLen dLen) a sLen sCap cs hn hsrc
  have hst := run_storeCells_cells (P := P) b o cs 0 w (by simpa using hc) (by simpa using hf) h1
  simp only [Nat.add_zero] at hst
  simp only [Builtin.copy_, Builtin.lenOf, sizeOf, typeInfo]
  simp [hl, hst, run_underlying hu, hi]

theorem box_isSome {w : World} {g : Nat} {t : TypeId} {cs : Array Value} (h : Box w g t cs) {j : Nat} (hj : j < cs.size) : (w.cell? ⟨g, j, none⟩).isSome = true := by
  rw [h.cell, Array.getElem?_eq_getElem hj]; rfl

/-- 'copy' into a block known whole, from cells that are known. -/
theorem run_copy_box {w : World} (dT sT ty elem : TypeId) (i : TypeInfo) (k : Nat) {g : Nat} (o : Nat) {t : TypeId} {cur : Array Value} (dLen dCap : Nat) (a : Addr) (sLen sCap : Nat) (cs : List Value)
    (hu : P.underlying dT = some (.slice elem)) (hi : P.info? elem = some i) (hk : i.size = k) (hB : Box w g t cur) (hn : cs.length = Nat.min sLen dLen * k) (hfit : o + cs.length ≤ cur.size)
    (hsrc : ∀ j v, cs[j]? = some v → w.cell? (a.add j) = some v) (h1 : ∀ v ∈ cs, v.oneCell' = true) :
    (Builtin.copy_ #[dT, sT] ty #[.slice (some ⟨g, o, none⟩) dLen dCap, .slice (some a) sLen sCap]).run P w = .ok (goInt (Nat.min sLen dLen)) (w.setCells g o cs) :=
  run_copyk w dT sT ty elem i g o dLen dCap a sLen sCap cs hu hi (by rw [hk]; exact hn) hsrc (fun j hj => box_isSome hB (by omega)) (fun j _ => hB.frz _) h1

/-- The operation 'copy' for the walk, where its run is known by an equation. -/
theorem wpList_copy_run1 (w : World) {ops : Array Oper} {rest : List Oper} {o : Oper} {a : Act} {Q : Exit → Act → World → Prop} (hgd : o.guard = none) (d s : Operand) (t t' : TypeId)
    (ho : o.op = .call { callee := .builtin .copy, args := #[d, s], argTypes := #[t, t'] }) (v u : Value) (hd : a.eval d = v) (hs : a.eval s = u) {v' : Value} {w' : World}
    (hr : (Builtin.copy_ #[t, t'] o.type #[v, u]).run P w = .ok v' w') (h : wpList P ops Q rest (a.put o.dst v') w') : wpList P ops Q (o :: rest) a w := by
  refine wpList_plain hgd fun K hK => ?_
  unfold Oper.wp execOp
  simp only [ho, resolve, invoke, builtin, Sem.run_bind, Sem.run_pure, Result.andThen_ok, List.map_toArray, List.map_cons, List.map_nil, hd, hs, hr]
  exact hK _ _ h
/-- .. and as one step of a region that draws. -/
theorem step_copy_run1 {ops : Array Oper} {o : Oper} {a : Act} {w : World} {K : Act → World → Prop} {Q : Exit → Act → World → Prop} {E : Prop}
    (hg : o.guard = none) (d x : Operand) (dT sT : TypeId) (hop : o.op = Op.call { callee := Callee.builtin Builtin.copy, args := #[d, x], argTypes := #[dT, sT] })
    (v u : Value) (hd : a.eval d = v) (hx : a.eval x = u) {v' : Value} {w' : World} (hr : (Builtin.copy_ #[dT, sT] o.type #[v, u]).run P w = .ok v' w') (hK : K (a.put o.dst v') w') :
    if Region.wanted o (yielded ops a.tmps) = true then Oper.wp P o a w K Q else E := by
  have hw : Region.wanted o (yielded ops a.tmps) = true := by simp [Region.wanted, hg]
  rw [if_pos hw]
  unfold Oper.wp
  simp [execOp, hop, resolve, invoke, builtin, hd, hx, hr, Result.andThen]
  exact hK
/-- 'clear' of a slice of elements of more cells than one. -/
theorem run_cleark (w : World) (t e ty : TypeId) (z : Value) (ht : P.underlying t = some (.slice e)) (hv : ∀ w, (zeroValue e).run P w = .ok z w) (h1 : ∀ v ∈ (Builtin.zeroCells z.cells 1).toList, v.oneCell' = true)
    {g o c : Nat} {tt : TypeId} {cur : Array Value} (hB : Box w g tt cur) (hfit : o + z.cells.size ≤ cur.size) :
    (Builtin.clear_ #[t] ty #[.slice (some ⟨g, o, none⟩) 1 c]).run P w = .ok (.tuple #[]) (w.setCells g o (Builtin.zeroCells z.cells 1).toList) := by
  have hl : (Builtin.zeroCells z.cells 1).toList.length = z.cells.size := by simp [size_zeroCells]
  have hst := run_storeCells_cells (P := P) g o (Builtin.zeroCells z.cells 1).toList 0 w (fun j hj => box_isSome hB (by omega)) (fun j _ => hB.frz _) h1
  simp only [Nat.add_zero] at hst
  simp only [Builtin.clear_]
  simp [run_underlying ht, hv, hst]
theorem wpList_clear_run1 (w : World) {ops : Array Oper} {rest : List Oper} {o : Oper} {a : Act} {Q : Exit → Act → World → Prop} (hgd : o.guard = none) (s : Operand) (t : TypeId)
    (ho : o.op = .call { callee := .builtin .clear, args := #[s], argTypes := #[t] }) (v : Value) (hs : a.eval s = v) {v' : Value} {w' : World}
    (hr : (Builtin.clear_ #[t] o.type #[v]).run P w = .ok v' w') (h : wpList P ops Q rest (a.put o.dst v') w') : wpList P ops Q (o :: rest) a w := by
  refine wpList_plain hgd fun K hK => ?_
  unfold Oper.wp execOp
  simp only [ho, resolve, invoke, builtin, Sem.run_bind, Sem.run_pure, Result.andThen_ok, List.map_toArray, List.map_cons, List.map_nil, hs, hr]
  exact hK _ _ h
end
end Go.Proofs.YtbhndfphegflhaaGreat

/- library/api.Issue as plain data; a slice of them; '=='; IndexFunc; Clone. Printed by gen_kit.py. -/
namespace Go.Proofs.YtbhndfphegflhaaGreat
open Go.RowKit

structure Iu where
  vol : Int
  num : Int
  last : Int
  day : Int
  st : Int
  itm : Int
  deriving DecidableEq

def iuE (x : Iu) : List Value := [.int .i64 x.vol, .int .i64 x.num, .int .i64 x.last, .int .i64 x.day, .int .i64 x.st, .int .i64 x.itm]
def iuV (x : Iu) : Value := .agg #[.int .i64 x.vol, .int .i64 x.num, .int .i64 x.last, .int .i64 x.day, .int .i64 x.st, .int .i64 x.itm]
abbrev iuC (x : Iu) : Array Value := #[.int .i64 x.vol, .int .i64 x.num, .int .i64 x.last, .int .i64 x.day, .int .i64 x.st, .int .i64 x.itm]
def iu0 : Iu := ⟨0, 0, 0, 0, 0, 0⟩
theorem iuE_len (x : Iu) : (iuE x).length = 6 := rfl
theorem iuE_one (x : Iu) : ∀ u ∈ iuE x, u.oneCell' = true := by
  intro u hu; simp only [iuE, List.mem_cons, List.not_mem_nil, or_false] at hu
  rcases hu with rfl | rfl | rfl | rfl | rfl | rfl <;> rfl
structure IuW (x : Iu) : Prop where
  vol : I64 x.vol
  num : I64 x.num
  last : I64 x.last
  day : I64 x.day
  st : I64 x.st
  itm : I64 x.itm
abbrev Ius (w : World) (B : Nat) (A : Option Addr) (n c : Nat) (xs : List Iu) : Prop := Sl iuE 6 w B A n c xs
theorem iu_cells {w : World} {b o : Nat} {x : Iu} (h : ∀ j u, (iuE x)[j]? = some u → w.cell? ⟨b, o + j, none⟩ = some u) :
    w.cell? ⟨b, o, none⟩ = some (.int .i64 x.vol) ∧ w.cell? ⟨b, o + 1, none⟩ = some (.int .i64 x.num) ∧ w.cell? ⟨b, o + 2, none⟩ = some (.int .i64 x.last) ∧ w.cell? ⟨b, o + 3, none⟩ = some (.int .i64 x.day) ∧ w.cell? ⟨b, o + 4, none⟩ = some (.int .i64 x.st) ∧ w.cell? ⟨b, o + 5, none⟩ = some (.int .i64 x.itm) :=
  ⟨h 0 _ rfl, h 1 _ rfl, h 2 _ rfl, h 3 _ rfl, h 4 _ rfl, h 5 _ rfl⟩
theorem Ius_at {w : World} {B : Nat} {A : Option Addr} {n c : Nat} {xs : List Iu} (h : Ius w B A n c xs) {k : Nat} (hk : k < n) :
    ∃ b off x, A = some ⟨b, off, none⟩ ∧ b < B ∧ xs[k]? = some x ∧
     w.cell? ⟨b, off + k * 6, none⟩ = some (.int .i64 x.vol) ∧ w.cell? ⟨b, off + k * 6 + 1, none⟩ = some (.int .i64 x.num) ∧ w.cell? ⟨b, off + k * 6 + 2, none⟩ = some (.int .i64 x.last) ∧ w.cell? ⟨b, off + k * 6 + 3, none⟩ = some (.int .i64 x.day) ∧ w.cell? ⟨b, off + k * 6 + 4, none⟩ = some (.int .i64 x.st) ∧ w.cell? ⟨b, off + k * 6 + 5, none⟩ = some (.int .i64 x.itm) := by
  obtain ⟨b, off, x, hA, hb, hx, hc⟩ := h.at_ hk
  exact ⟨b, off, x, hA, hb, hx, iu_cells hc⟩
theorem iu_box {w w' : World} {g : Nat} {x : Iu} (h : Box w g 122 (iuC x)) (hb : Below (g + 1) w w') : Box w' g 122 (iuC x) ∧
    (w'.cell? ⟨g, 0, none⟩ = some (.int .i64 x.vol) ∧ w'.cell? ⟨g, 1, none⟩ = some (.int .i64 x.num) ∧ w'.cell? ⟨g, 2, none⟩ = some (.int .i64 x.last) ∧ w'.cell? ⟨g, 3, none⟩ = some (.int .i64 x.day) ∧ w'.cell? ⟨g, 4, none⟩ = some (.int .i64 x.st) ∧ w'.cell? ⟨g, 5, none⟩ = some (.int .i64 x.itm)) :=
  have h' := h.below hb (by omega)
  ⟨h', h'.cell 0, h'.cell 1, h'.cell 2, h'.cell 3, h'.cell 4, h'.cell 5⟩
theorem below_iu {B : Nat} {a w : World} (h : Below B a w) {b : Nat} (hb : B ≤ b) (u0 u1 u2 u3 u4 u5 : Value) :
    Below B a ((((((w.setCell ⟨b, 0, none⟩ u0).setCell ⟨b, 1, none⟩ u1).setCell ⟨b, 2, none⟩ u2).setCell ⟨b, 3, none⟩ u3).setCell ⟨b, 4, none⟩ u4).setCell ⟨b, 5, none⟩ u5) :=
  (((((h.setCell hb u0).setCell hb u1).setCell hb u2).setCell hb u3).setCell hb u4).setCell hb u5

theorem iu_struct : Tryz.prog.underlying 122 = some (.struct (Tryz.prog.fieldsOf 122)) := by kernel_rfl
theorem iu_stood : Tryz.prog.stoodInHeld 122 = false := by kernel_rfl
theorem iu_guard : Tryz.prog.eqGuardType Tryz.prog.depth 122 = false := by kernel_rfl
theorem iu_eq (x y : Iu) (w : World) : (Op.equalIn 10000 122 (iuV x) (iuV y)).run Tryz.prog w = .ok (decide (x = y)) w := by
  obtain ⟨a0, a1, a2, a3, a4, a5⟩ := x
  obtain ⟨b0, b1, b2, b3, b4, b5⟩ := y
  have u3 := Tryz.underlying3
  have u4 := Tryz.underlying4
  simp only [iuV]
  rw [show (10000 : Nat) = 9999 + 1 from rfl, run_equalIn_agg w 9999 122 _ _ iu_struct iu_stood]
  simp only [Program.fieldsOf, Tryz.underlying122]
  go_simp
  by_cases h0 : a0 = b0
  case neg => simp [h0]
  by_cases h1 : a1 = b1
  case neg => simp [h0, h1]
  by_cases h2 : a2 = b2
  case neg => simp [h0, h1, h2]
  by_cases h3 : a3 = b3
  case neg => simp [h0, h1, h2, h3]
  by_cases h4 : a4 = b4
  case neg => simp [h0, h1, h2, h3, h4]
  by_cases h5 : a5 = b5
  case neg => simp [h0, h1, h2, h3, h4, h5]
  subst h0 h1 h2 h3 h4 h5
  simp
theorem iu_neq (x y : Iu) (w : World) : (binOp .neq 122 (iuV x) (iuV y)).run Tryz.prog w = .ok (.bool (!decide (x = y))) w := by
  have h := iu_eq x y w
  unfold iuV at h ⊢
  rw [run_neq_struct, h]; rfl
theorem iu_eql (x y : Iu) (w : World) : (binOp .eql 122 (iuV x) (iuV y)).run Tryz.prog w = .ok (.bool (decide (x = y))) w := by
  have h := iu_eq x y w
  unfold iuV at h ⊢
  rw [run_eql_struct, h]; rfl


/-- slices.IndexFunc: whatever predicate that lays only blocks of its own. -/
theorem iu_indexFunc (g : Nat) (lb : Array Value) (p : Iu → Bool) (eg : ∀ args w, (callFunc g args).run Tryz.prog w = .ok (.enter g args) w)
    (A : Option Addr) (n c : Nat) (xs : List Iu) (w : World) (hs : Ius w w.heap.size A n c xs)
    (hp : ∀ W x, x ∈ xs → Below w.heap.size w W → Calls Tryz.prog g (#[iuV x] ++ lb) W fun e w' => e = .returned (.bool (p x)) ∧ Below W.heap.size W w') :
    Calls Tryz.prog 174 #[.slice A n c, .func (.func g) #[] lb] w fun e w' => e = .returned (.int .i64 (ix p xs)) ∧ Below w.heap.size w w' := by
  have hle := hs.le
  have hbig := hs.big
  have HP := hide hp
  clear hp
  go_enter Tryz.func174, Tryz.ntmps174
  go_wp2
  go_loopw [5, 8] (fun _ s8 wr => ∃ k : Nat, k ≤ n ∧ s8 = .int .i64 k ∧ Below w.heap.size w wr ∧ ix p xs = idxP p (xs.drop k) k) (fun _ s8 _ => n - (intOf s8).toNat)
  case atStart => exact ⟨0, Nat.zero_le _, rfl, Below.refl _ _, rfl⟩
  case round =>
    obtain ⟨k, hk, rfl, hb, ha⟩ := hrel
    have HA := hide ha
    have HB := hide hb
    clear ha hb
    by_cases hlt : k < n
    · obtain ⟨b, off, x, rfl, hbB, hx, c0, c1, c2, c3, c4, c5⟩ := Ius_at (hs.below HB.out) hlt
      have HX := hide (idxP_step (p := p) hx)
      have hcall := HP.out wr x (List.mem_of_getElem? hx) HB.out
      have HS := hide hs
      clear hx hs
      unfold iuV at hcall
      generalize hq : p x = q at hcall
      have HQ := hide hq
      clear hq
      cases q with
      | true =>
        go_wp2_with (go_at_fn g; refine hcall.mono ?_; rintro e w' ⟨rfl, hb'⟩)
        go_ret
        exact ⟨ret_int (by rw [HA.out, HX.out, if_pos HQ.out]), HB.out.trans (hb'.mono HB.out.size)⟩
      | false =>
        go_wp2_with (go_at_fn g; refine hcall.mono ?_; rintro e w' ⟨rfl, hb'⟩)
        go_roundw
        case rel => exact ⟨k + 1, by omega, by go_num, HB.out.trans (hb'.mono HB.out.size), by rw [HA.out, HX.out, if_neg (by rw [HQ.out]; decide)]⟩
        case measure => simp [intOf]; omega
    · go_wp2
      go_ret
      exact ⟨ret_int (by rw [HA.out, idxP_end (by have := hs.len; omega)]), HB.out⟩
theorem iu_containsFunc (g : Nat) (lb : Array Value) (p : Iu → Bool) (eg : ∀ args w, (callFunc g args).run Tryz.prog w = .ok (.enter g args) w)
    (A : Option Addr) (n c : Nat) (xs : List Iu) (w : World) (hs : Ius w w.heap.size A n c xs)
    (hp : ∀ W x, x ∈ xs → Below w.heap.size w W → Calls Tryz.prog g (#[iuV x] ++ lb) W fun e w' => e = .returned (.bool (p x)) ∧ Below W.heap.size W w') :
    Calls Tryz.prog 176 #[.slice A n c, .func (.func g) #[] lb] w fun e w' => e = .returned (.bool (decide (0 ≤ ix p xs))) ∧ Below w.heap.size w w' := by
  have HP := hide hp
  have HS := hide hs
  clear hp hs
  go_enter Tryz.func176, Tryz.ntmps176
  go_wp2_with (go_at_call 174; refine (iu_indexFunc g lb p eg A n c xs _ HS.out HP.out).mono ?_; rintro e w' ⟨rfl, hb'⟩)
  go_ret
  exact ⟨rfl, hb'⟩

theorem iu_info : (Tryz.prog.info? 122).map (fun i => (i.zero, i.size, i.bytes)) = some (some (.agg #[.int .i64 0, .int .i64 0, .int .i64 0, .int .i64 0, .int .i64 0, .int .i64 0]), 6, 48) := by kernel_rfl
/-- A new row that reads as xs (nil where there is none). -/
abbrev Iuo (w : World) (B : Nat) (v : Value) (xs : List Iu) : Prop := w.ownsRow B 122 6 v xs.length (xs.flatMap iuE)
theorem Iuo_sl {w : World} {B : Nat} {v : Value} {xs : List Iu} (h : Iuo w B v xs) (hn : xs.length ≤ 140737488355328) : ∃ A c, v = .slice A xs.length c ∧ Ius w w.heap.size A xs.length c xs := by
  have h' := h
  rcases h.2 with ⟨rfl, h0⟩ | ⟨g, cap, _, rfl, _⟩
  · refine ⟨none, 0, by rw [h0], ?_⟩
    unfold Iuo at h'
    rw [h0] at h' ⊢
    exact Sl.of_own iuE_len h' h0 (by omega)
  · exact ⟨_, cap, rfl, Sl.of_own iuE_len h' rfl hn⟩
theorem iu_clone (A : Option Addr) (n c : Nat) (xs : List Iu) (w : World) (hs : Ius w w.heap.size A n c xs) (hn : n ≤ 1000) :
    Calls Tryz.prog 143 #[.slice A n c] w fun e w' => ∃ v, e = .returned v ∧ Iuo w' w.heap.size v xs ∧ Below w.heap.size w w' := by
  obtain ⟨i0, hi, hz0, hz1, hz2⟩ := info_parts iu_info
  have HS := hide hs
  have hnl := hs.nl
  clear hs
  cases A with
  | none =>
    have hx : xs = [] := by
      have h1 := HS.out.len; have h2 := HS.out.nl rfl; have h3 := HS.out.le
      exact List.eq_nil_of_length_eq_zero (by omega)
    subst hx
    clear hnl
    have q22 : ∀ (w : World) (a : Option Addr) (n c n' c' : Nat), (binOp .eql 74 (.slice a n c) (.slice none n' c')).run Tryz.prog w = .ok (.bool a.isNone) w := fun w a n c n' c' => Lib.run_eql_slice_nil w _ _ a n c n' c' Tryz.underlying74
    go_enter Tryz.func143, Tryz.ntmps143
    go_wp2
    go_ret
    exact ⟨_, rfl, World.ownsRow_nil _ _ _ _, Below.refl _ _⟩
  | some ad =>
    clear hnl
    have q22 : ∀ (w : World) (a : Option Addr) (n c n' c' : Nat), (binOp .eql 74 (.slice a n c) (.slice none n' c')).run Tryz.prog w = .ok (.bool a.isNone) w := fun w a n c n' c' => Lib.run_eql_slice_nil w _ _ a n c n' c' Tryz.underlying74
    go_enter Tryz.func143, Tryz.ntmps143
    go_wp2_with (at_builtin; go_must (refine wpList_append_sl _ rfl _ _ 74 rfl w.heap.size 122 i0 _ 48 Tryz.underlying74 hi hz0 hz1 hz2 rfl (by decide) iuE_len iuE_one _ 0 [] rfl (World.ownsRow_made w #[] 0 (Nat.le_refl _) (Nat.zero_le _) rfl) (some ad) n c rfl (HS.out.alloc (Nat.le_refl _) _) (by unfold maxLen; omega) (by omega) (by simp) ?_))
    intro v' w1 hown hg hat
    go_wp2
    go_ret
    refine ⟨v', rfl, ?_, ((Below.refl _ w).alloc (Nat.le_refl _) _).grown hg (by simp) (by intro k hk; simp [Value.ownBlock] at hk; omega)⟩
    have hl := HS.out.len
    subst hl
    simpa using hown
end Go.Proofs.YtbhndfphegflhaaGreat

/- Patterns of serials as plain data; what the pattern package and its reference compute. No walk. -/
namespace Go.Proofs.YtbhndfphegflhaaGreat

/-- Does a number occur in a list? -/
def inL (xs : List Int) (v : Int) : Bool := xs.contains v
structure Pt where
  start : Int
  every : Int
  pv : Int
  fv : Int
  skA : Option Addr
  skn : Nat
  skc : Nat
  sk : List Int
  dbA : Option Addr
  dbn : Nat
  dbc : Nat
  db : List Int
/-! ### the month of a day -/
def yrI (day : Int) : Nat := ((List.range 300).find? (fun k => decide (day < ny (k + 1)))).getD 0
def moI (day : Int) : Nat := ((List.range 12).find? (fun (i : Nat) => decide (day - ny (yrI day) < bef (1900 + (yrI day : Int)) ((i : Int) + 2)))).getD 0
def mthF (day : Int) : Int := (moI day : Int) + 1
theorem find_range {n i : Nat} {p : Nat → Bool} (hi : i < n) (hp : p i = true) (hb : ∀ j, j < i → p j = false) : (List.range n).find? p = some i := by
  rw [List.find?_eq_some_iff_append]
  refine ⟨hp, List.range i, (List.range (n - i - 1)).map (fun j => i + 1 + j), ?_, fun j hj => ?_⟩
  · have h1 : List.range n = List.range (i + (1 + (n - i - 1))) := by congr 1; omega
    rw [h1, List.range_add, List.range_add]
    simp
    intro a _
    omega
  · rw [hb j (List.mem_range.1 hj)]; rfl
theorem yrI_of {day y m d : Int} (h : PartsOf day y m d) : yrI day = (y - 1900).toNat := by
  unfold yrI
  have hy : 1900 + (((y - 1900).toNat : Nat) : Int) = y := by have := h.y1; omega
  have hs : ny ((y - 1900).toNat + 1) = ny (y - 1900).toNat + 365 + lpn y := by rw [ny, hy]
  rw [find_range (i := (y - 1900).toNat) (by have := h.y1; have := h.y2; omega) (by rw [hs]; simpa using h.yu) (fun j hj => by
    have h1 := ny_mono (a := j + 1) (b := (y - 1900).toNat) (by omega)
    have h2 := h.yl
    simp; omega)]
  rfl
theorem mthF_of {day y m d : Int} (h : PartsOf day y m d) : mthF day = m := by
  unfold mthF moI
  have hy : 1900 + (((y - 1900).toNat : Nat) : Int) = y := by have := h.y1; omega
  rw [yrI_of h, hy]
  rw [find_range (i := (m - 1).toNat) (by have := h.m1; have := h.m2; omega) (by
    have e : (((m - 1).toNat : Nat) : Int) + 2 = m + 1 := by have := h.m1; omega
    rw [e]; simpa using h.mu) (fun j hj => by
    have h1 := bef_mono h.y1 h.y2 (m := (j : Int) + 2) (m' := m) (by omega) (by omega) (by have := h.m2; omega)
    have h2 := h.ml
    simp; omega)]
  simp
  have := h.m1
  omega
/-- The day n months later, and the error. -/
def monF (day n : Int) : Int × Int := monR (1900 + (yrI day : Int)) (mthF day) (day - ny (yrI day) - bef (1900 + (yrI day : Int)) (mthF day) + 1) n
theorem monF_of {day y m d : Int} (h : PartsOf day y m d) (n : Int) : monF day n = monR y m d n := by
  unfold monF
  have hy : 1900 + (((y - 1900).toNat : Nat) : Int) = y := by have := h.y1; omega
  rw [mthF_of h, yrI_of h, hy, ← h.d]

/-! ### nominal days -/
def stp (e : Int) : Int := if e = 3 then 3 else if e = 4 then 12 else 1
/-- The numbers of a valid pattern. -/
structure PtM (p : Pt) : Prop where
  start : 0 ≤ p.start ∧ p.start ≤ 109572
  every : 1 ≤ p.every ∧ p.every ≤ 4
  pv : 1 ≤ p.pv ∧ p.pv ≤ 366
  fv : 1 ≤ p.fv ∧ p.fv ≤ 9999
def nomF (p : Pt) (k : Nat) : Option Int :=
  if p.every = 1 then (if p.start + 7 * (k : Int) ≤ 109572 then some (p.start + 7 * (k : Int)) else none)
  else if (monF p.start (stp p.every * (k : Int))).2 = 0 then some (monF p.start (stp p.every * (k : Int))).1 else none
theorem ofR_cases (y m d : Int) : (ofR y m d = (0, 2)) ∨ (1 ≤ d ∧ d ≤ ml y m ∧ (ofR y m d).2 = 0) := by
  unfold ofR
  by_cases h : d < 1 ∨ ml y m < d
  · rw [if_pos h]; exact .inl rfl
  · rw [if_neg h]; exact .inr ⟨by omega, by omega, rfl⟩
theorem monR_day {y m d n : Int} (h0 : (monR y m d n).2 = 0) : 0 ≤ (monR y m d n).1 ∧ (monR y m d n).1 ≤ 109572 := by
  unfold monR at h0 ⊢
  split at h0
  · cases h0
  · rename_i hk
    rw [if_neg hk]
    generalize hq : 1900 + ((y - 1900) * 12 + m - 1 + n) / 12 = Y at h0 ⊢
    generalize hr : ((y - 1900) * 12 + m - 1 + n) % 12 + 1 = M at h0 ⊢
    generalize min d (ml Y M) = D at h0 ⊢
    have hY : 1900 ≤ Y ∧ Y ≤ 2199 := by omega
    have hM : 1 ≤ M ∧ M ≤ 12 := by omega
    rcases ofR_cases Y M D with h | ⟨h1, h2, _⟩
    · rw [h] at h0; cases h0
    · unfold ofR
      rw [if_neg (by omega)]
      have h3 := bef_mono hY.1 hY.2 (m := 1) (m' := M) (by omega) hM.1 (by omega)
      rw [bef_1] at h3
      have h4 := bef_mono hY.1 hY.2 (m := M + 1) (m' := 13) (by omega) (by omega) (by omega)
      rw [bef_13, bef_step hY.1 hY.2 hM.1 hM.2] at h4
      have h5 := ny_bound (Y - 1900).toNat
      have h6 := ny_mono (a := (Y - 1900).toNat + 1) (b := 300) (by omega)
      rw [ny_300, ny] at h6
      have e : 1900 + (((Y - 1900).toNat : Nat) : Int) = Y := by omega
      rw [e] at h6
      constructor
      · simp only; omega
      · simp only; omega
theorem nomF_day {p : Pt} (hp : PtM p) {k : Nat} {d : Int} (h : nomF p k = some d) : 0 ≤ d ∧ d ≤ 109572 ∧ k < 16000 := by
  have hs := hp.start
  unfold nomF at h
  split at h
  · split at h
    · cases h; omega
    · cases h
  · split at h
    · rename_i h1 h2
      cases h
      have h3 := monR_day h2
      refine ⟨h3.1, h3.2, ?_⟩
      -- so many months lie in no year that there is
      rcases Nat.lt_or_ge k 16000 with hk | hk
      · exact hk
      · exfalso
        have hst : 1 ≤ stp p.every := by unfold stp; split <;> (try split) <;> omega
        have h4 : (16000 : Int) ≤ stp p.every * (k : Int) := by
          have := Int.mul_le_mul hst (show (16000 : Int) ≤ (k : Int) by omega) (by omega) (by omega)
          omega
        unfold monF monR at h2
        have hy0 : (0 : Int) ≤ (yrI p.start : Int) := by omega
        have hm0 : 1 ≤ mthF p.start := by unfold mthF; omega
        rw [if_pos (Or.inr (by omega))] at h2
        cases h2
    · cases h
/-- From k on the first nominal day that exists, and its number; -1 where there is none. -/
def folN (p : Pt) : Nat → Nat → Int × Nat
  | 0, k => (-1, k)
  | n + 1, k => match nomF p k with
    | none => (-1, k)
    | some d => if inL p.sk (mthF d) = true then folN p n (k + 1) else (d, k)
def fol (p : Pt) (k : Nat) : Int × Nat := folN p (16001 - k) k
theorem fol_none {p : Pt} {k : Nat} (h : nomF p k = none) : fol p k = (-1, k) := by
  unfold fol
  cases hn : 16001 - k with
  | zero => rfl
  | succ n => rw [folN, h]
theorem fol_skip {p : Pt} (hp : PtM p) {k : Nat} {d : Int} (h : nomF p k = some d) (hs : inL p.sk (mthF d) = true) : fol p k = fol p (k + 1) := by
  have hk := (nomF_day hp h).2.2
  unfold fol
  rw [show 16001 - k = (16001 - (k + 1)) + 1 by omega, folN, h]
  simp only
  rw [if_pos hs]
theorem fol_hit {p : Pt} (hp : PtM p) {k : Nat} {d : Int} (h : nomF p k = some d) (hs : inL p.sk (mthF d) = false) : fol p k = (d, k) := by
  have hk := (nomF_day hp h).2.2
  unfold fol
  rw [show 16001 - k = (16001 - (k + 1)) + 1 by omega, folN, h]
  simp only
  rw [hs, if_neg (by simp)]
theorem fol_bound {p : Pt} (hp : PtM p) : ∀ (n k : Nat), 16001 - k = n → k ≤ 16001 → ((fol p k).1 = -1 ∨ (0 ≤ (fol p k).1 ∧ (fol p k).1 ≤ 109572 ∧ (fol p k).2 < 16000)) ∧ k ≤ (fol p k).2 ∧ (fol p k).2 ≤ 16001 := by
  intro n
  induction n with
  | zero =>
    intro k hk hk2
    have hn : nomF p k = none := by
      cases h : nomF p k with
      | none => rfl
      | some d => have := (nomF_day hp h).2.2; omega
    rw [fol_none hn]
    exact ⟨.inl rfl, Nat.le_refl _, hk2⟩
  | succ n ih =>
    intro k hk hk2
    cases h : nomF p k with
    | none => rw [fol_none h]; exact ⟨.inl rfl, Nat.le_refl _, hk2⟩
    | some d =>
      have hd := nomF_day hp h
      cases hs : inL p.sk (mthF d) with
      | true =>
        rw [fol_skip hp h hs]
        have := ih (k + 1) (by omega) (by omega)
        exact ⟨this.1, by omega, this.2.2⟩
      | false => rw [fol_hit hp h hs]; exact ⟨.inr ⟨hd.1, hd.2.1, hd.2.2⟩, Nat.le_refl _, hk2⟩
theorem fol_b {p : Pt} (hp : PtM p) {k : Nat} (hk : k ≤ 16001) : ((fol p k).1 = -1 ∨ (0 ≤ (fol p k).1 ∧ (fol p k).1 ≤ 109572 ∧ (fol p k).2 < 16000)) ∧ k ≤ (fol p k).2 ∧ (fol p k).2 ≤ 16001 := fol_bound hp _ k rfl hk

/-! ### issues -/
structure Ps where
  vol : Int
  num : Int
  d : Int
  k : Nat
def ps0 (p : Pt) : Ps := ⟨p.fv, 1, (fol p 0).1, (fol p 0).2⟩
/-- Is the issue a double one? -/
def dblB (p : Pt) (s : Ps) : Bool := inL p.db (mthF s.d) && decide (0 ≤ (fol p (s.k + 1)).1) && decide (s.num < p.pv)
def isuX (p : Pt) (s : Ps) : Iu := ⟨s.vol, s.num, if dblB p s = true then s.num + 1 else 0, s.d, 1, 0⟩
def nxtN (p : Pt) (s : Ps) : Int := (if dblB p s = true then s.num + 1 else s.num) + 1
def nxtF (p : Pt) (s : Ps) : Int × Nat := if dblB p s = true then fol p ((fol p (s.k + 1)).2 + 1) else fol p (s.k + 1)
def psS (p : Pt) (s : Ps) : Ps := ⟨if p.pv < nxtN p s then s.vol + 1 else s.vol, if p.pv < nxtN p s then 1 else nxtN p s, (nxtF p s).1, (nxtF p s).2⟩
/-- The first n issues, up to a day. -/
def isL (p : Pt) (until_ : Int) : Nat → Ps → List Iu
  | 0, _ => []
  | n + 1, s => if 0 ≤ s.d ∧ s.d ≤ until_ ∧ s.vol ≤ 9999 then isuX p s :: isL p until_ n (psS p s) else []
theorem isL_len (p : Pt) (u : Int) : ∀ (n : Nat) (s : Ps), (isL p u n s).length ≤ n
  | 0, s => by simp [isL]
  | n + 1, s => by
    rw [isL]
    split
    · rw [List.length_cons]; have := isL_len p u n (psS p s); omega
    · simp
/-- What a state of the loop is like. -/
structure PsM (p : Pt) (s : Ps) : Prop where
  vol : 1 ≤ s.vol ∧ s.vol ≤ 10000
  num : 1 ≤ s.num ∧ s.num ≤ p.pv
  d : s.d = -1 ∨ (0 ≤ s.d ∧ s.d ≤ 109572 ∧ s.k < 16000)
  k : s.k ≤ 16001
theorem ps0_M {p : Pt} (hp : PtM p) : PsM p (ps0 p) := by
  have h := fol_b hp (k := 0) (by omega)
  have := hp.fv
  have := hp.pv
  exact ⟨by unfold ps0; simp only; omega, by unfold ps0; simp only; omega, h.1, h.2.2⟩
theorem psS_M {p : Pt} (hp : PtM p) {s : Ps} (h : PsM p s) (hd : 0 ≤ s.d) (hv : s.vol ≤ 9999) : PsM p (psS p s) := by
  have h1 := h.vol
  have h2 := h.num
  have hk : s.k < 16000 := by rcases h.d with e | e <;> omega
  have hpv := hp.pv
  have f1 := fol_b hp (k := s.k + 1) (by omega)
  have hdb : dblB p s = true → 0 ≤ (fol p (s.k + 1)).1 ∧ s.num < p.pv := by
    intro hb
    unfold dblB at hb
    rw [Bool.and_eq_true, Bool.and_eq_true, decide_eq_true_eq, decide_eq_true_eq] at hb
    exact ⟨hb.1.2, hb.2⟩
  refine ⟨?_, ?_, ?_, ?_⟩
  · unfold psS; simp only; split <;> omega
  · unfold psS; simp only
    split
    · omega
    · rename_i hq
      unfold nxtN at hq ⊢
      cases hb : dblB p s with
      | true => rw [hb] at hq; have := hdb hb; simp at hq ⊢; omega
      | false => rw [hb] at hq; simp at hq ⊢; omega
  · unfold psS nxtF; simp only
    cases hb : dblB p s with
    | true =>
      rw [if_pos rfl]
      have := hdb hb
      exact (fol_b hp (k := (fol p (s.k + 1)).2 + 1) (by rcases f1.1 with e | e <;> omega)).1
    | false => rw [if_neg (by simp)]; exact f1.1
  · unfold psS nxtF; simp only
    cases hb : dblB p s with
    | true =>
      rw [if_pos rfl]
      have := hdb hb
      exact (fol_b hp (k := (fol p (s.k + 1)).2 + 1) (by rcases f1.1 with e | e <;> omega)).2.2
    | false => rw [if_neg (by simp)]; exact f1.2.2

/-! ### a pattern's error -/
/-- The first error of a list of months. -/
def monErr (l : List Int) : Int := if l.any (fun m => decide (m < 1) || decide (12 < m)) = true then 2 else if (List.range (l.length - 1)).any (fun i => decide (l.getD (i + 1) 0 ≤ l.getD i 0)) = true then 7 else 0
def ptBad1 (p : Pt) : Bool := decide (p.start < 0) || decide (109572 < p.start) || decide (p.pv < 1) || decide (366 < p.pv) || decide (p.fv < 1) || decide (9999 < p.fv)
def ptBad2 (p : Pt) : Bool := decide (p.every < 1) || decide (4 < p.every)
def ptBad3 (p : Pt) : Bool := (p.sk.length == 12) || (decide (0 < p.sk.length) && decide (3 ≤ p.every)) || (decide (0 < p.db.length) && (p.every != 2))
def ptBad4 (p : Pt) : Bool := p.db.any (fun m => inL p.sk m)
def ptErr (p : Pt) : Int := if ptBad1 p = true then 2 else if ptBad2 p = true then 1 else if (monErr p.sk != 0) = true then monErr p.sk else if (monErr p.db != 0) = true then monErr p.db else if ptBad3 p = true then 1 else if ptBad4 p = true then 1 else 0
theorem ptErr_M {p : Pt} (h : ptErr p = 0) : PtM p := by
  unfold ptErr at h
  split at h
  · cases h
  · rename_i h1
    split at h
    · cases h
    · rename_i h2
      unfold ptBad1 at h1
      unfold ptBad2 at h2
      simp at h1 h2
      exact ⟨by omega, by omega, by omega, by omega⟩
end Go.Proofs.YtbhndfphegflhaaGreat

/- library/api.Share as plain data; a slice of them; '=='; IndexFunc; Clone. Printed by gen_kit.py. -/
namespace Go.Proofs.YtbhndfphegflhaaGreat
open Go.RowKit

structure Sh where
  fund : Int
  weight : Int
  deriving DecidableEq

def shE (x : Sh) : List Value := [.int .i64 x.fund, .int .i64 x.weight]
def shV (x : Sh) : Value := .agg #[.int .i64 x.fund, .int .i64 x.weight]
abbrev shC (x : Sh) : Array Value := #[.int .i64 x.fund, .int .i64 x.weight]
def sh0 : Sh := ⟨0, 0⟩
theorem shE_len (x : Sh) : (shE x).length = 2 := rfl
theorem shE_one (x : Sh) : ∀ u ∈ shE x, u.oneCell' = true := by
  intro u hu; simp only [shE, List.mem_cons, List.not_mem_nil, or_false] at hu
  rcases hu with rfl | rfl <;> rfl
structure ShW (x : Sh) : Prop where
  fund : I64 x.fund
  weight : I64 x.weight
abbrev Shs (w : World) (B : Nat) (A : Option Addr) (n c : Nat) (xs : List Sh) : Prop := Sl shE 2 w B A n c xs
theorem sh_cells {w : World} {b o : Nat} {x : Sh} (h : ∀ j u, (shE x)[j]? = some u → w.cell? ⟨b, o + j, none⟩ = some u) :
    w.cell? ⟨b, o, none⟩ = some (.int .i64 x.fund) ∧ w.cell? ⟨b, o + 1, none⟩ = some (.int .i64 x.weight) :=
  ⟨h 0 _ rfl, h 1 _ rfl⟩
theorem Shs_at {w : World} {B : Nat} {A : Option Addr} {n c : Nat} {xs : List Sh} (h : Shs w B A n c xs) {k : Nat} (hk : k < n) :
    ∃ b off x, A = some ⟨b, off, none⟩ ∧ b < B ∧ xs[k]? = some x ∧
     w.cell? ⟨b, off + k * 2, none⟩ = some (.int .i64 x.fund) ∧ w.cell? ⟨b, off + k * 2 + 1, none⟩ = some (.int .i64 x.weight) := by
  obtain ⟨b, off, x, hA, hb, hx, hc⟩ := h.at_ hk
  exact ⟨b, off, x, hA, hb, hx, sh_cells hc⟩
theorem sh_box {w w' : World} {g : Nat} {x : Sh} (h : Box w g 86 (shC x)) (hb : Below (g + 1) w w') : Box w' g 86 (shC x) ∧
    (w'.cell? ⟨g, 0, none⟩ = some (.int .i64 x.fund) ∧ w'.cell? ⟨g, 1, none⟩ = some (.int .i64 x.weight)) :=
  have h' := h.below hb (by omega)
  ⟨h', h'.cell 0, h'.cell 1⟩
theorem below_sh {B : Nat} {a w : World} (h : Below B a w) {b : Nat} (hb : B ≤ b) (u0 u1 : Value) :
    Below B a ((w.setCell ⟨b, 0, none⟩ u0).setCell ⟨b, 1, none⟩ u1) :=
  (h.setCell hb u0).setCell hb u1

theorem sh_struct : Tryz.prog.underlying 86 = some (.struct (Tryz.prog.fieldsOf 86)) := by kernel_rfl
theorem sh_stood : Tryz.prog.stoodInHeld 86 = false := by kernel_rfl
theorem sh_guard : Tryz.prog.eqGuardType Tryz.prog.depth 86 = false := by kernel_rfl
theorem sh_eq (x y : Sh) (w : World) : (Op.equalIn 10000 86 (shV x) (shV y)).run Tryz.prog w = .ok (decide (x = y)) w := by
  obtain ⟨a0, a1⟩ := x
  obtain ⟨b0, b1⟩ := y
  have u3 := Tryz.underlying3
  have u4 := Tryz.underlying4
  simp only [shV]
  rw [show (10000 : Nat) = 9999 + 1 from rfl, run_equalIn_agg w 9999 86 _ _ sh_struct sh_stood]
  simp only [Program.fieldsOf, Tryz.underlying86]
  go_simp
  by_cases h0 : a0 = b0
  case neg => simp [h0]
  by_cases h1 : a1 = b1
  case neg => simp [h0, h1]
  subst h0 h1
  simp
theorem sh_neq (x y : Sh) (w : World) : (binOp .neq 86 (shV x) (shV y)).run Tryz.prog w = .ok (.bool (!decide (x = y))) w := by
  have h := sh_eq x y w
  unfold shV at h ⊢
  rw [run_neq_struct, h]; rfl
theorem sh_eql (x y : Sh) (w : World) : (binOp .eql 86 (shV x) (shV y)).run Tryz.prog w = .ok (.bool (decide (x = y))) w := by
  have h := sh_eq x y w
  unfold shV at h ⊢
  rw [run_eql_struct, h]; rfl


/-- slices.IndexFunc: whatever predicate that lays only blocks of its own. -/
theorem sh_indexFunc (g : Nat) (lb : Array Value) (p : Sh → Bool) (eg : ∀ args w, (callFunc g args).run Tryz.prog w = .ok (.enter g args) w)
    (A : Option Addr) (n c : Nat) (xs : List Sh) (w : World) (hs : Shs w w.heap.size A n c xs)
    (hp : ∀ W x, x ∈ xs → Below w.heap.size w W → Calls Tryz.prog g (#[shV x] ++ lb) W fun e w' => e = .returned (.bool (p x)) ∧ Below W.heap.size W w') :
    Calls Tryz.prog 204 #[.slice A n c, .func (.func g) #[] lb] w fun e w' => e = .returned (.int .i64 (ix p xs)) ∧ Below w.heap.size w w' := by
  have hle := hs.le
  have hbig := hs.big
  have HP := hide hp
  clear hp
  go_enter Tryz.func204, Tryz.ntmps204
  go_wp2
  go_loopw [5, 8] (fun _ s8 wr => ∃ k : Nat, k ≤ n ∧ s8 = .int .i64 k ∧ Below w.heap.size w wr ∧ ix p xs = idxP p (xs.drop k) k) (fun _ s8 _ => n - (intOf s8).toNat)
  case atStart => exact ⟨0, Nat.zero_le _, rfl, Below.refl _ _, rfl⟩
  case round =>
    obtain ⟨k, hk, rfl, hb, ha⟩ := hrel
    have HA := hide ha
    have HB := hide hb
    clear ha hb
    by_cases hlt : k < n
    · obtain ⟨b, off, x, rfl, hbB, hx, c0, c1⟩ := Shs_at (hs.below HB.out) hlt
      have HX := hide (idxP_step (p := p) hx)
      have hcall := HP.out wr x (List.mem_of_getElem? hx) HB.out
      have HS := hide hs
      clear hx hs
      unfold shV at hcall
      generalize hq : p x = q at hcall
      have HQ := hide hq
      clear hq
      cases q with
      | true =>
        go_wp2_with (go_at_fn g; refine hcall.mono ?_; rintro e w' ⟨rfl, hb'⟩)
        go_ret
        exact ⟨ret_int (by rw [HA.out, HX.out, if_pos HQ.out]), HB.out.trans (hb'.mono HB.out.size)⟩
      | false =>
        go_wp2_with (go_at_fn g; refine hcall.mono ?_; rintro e w' ⟨rfl, hb'⟩)
        go_roundw
        case rel => exact ⟨k + 1, by omega, by go_num, HB.out.trans (hb'.mono HB.out.size), by rw [HA.out, HX.out, if_neg (by rw [HQ.out]; decide)]⟩
        case measure => simp [intOf]; omega
    · go_wp2
      go_ret
      exact ⟨ret_int (by rw [HA.out, idxP_end (by have := hs.len; omega)]), HB.out⟩
theorem sh_containsFunc (g : Nat) (lb : Array Value) (p : Sh → Bool) (eg : ∀ args w, (callFunc g args).run Tryz.prog w = .ok (.enter g args) w)
    (A : Option Addr) (n c : Nat) (xs : List Sh) (w : World) (hs : Shs w w.heap.size A n c xs)
    (hp : ∀ W x, x ∈ xs → Below w.heap.size w W → Calls Tryz.prog g (#[shV x] ++ lb) W fun e w' => e = .returned (.bool (p x)) ∧ Below W.heap.size W w') :
    Calls Tryz.prog 197 #[.slice A n c, .func (.func g) #[] lb] w fun e w' => e = .returned (.bool (decide (0 ≤ ix p xs))) ∧ Below w.heap.size w w' := by
  have HP := hide hp
  have HS := hide hs
  clear hp hs
  go_enter Tryz.func197, Tryz.ntmps197
  go_wp2_with (go_at_call 204; refine (sh_indexFunc g lb p eg A n c xs _ HS.out HP.out).mono ?_; rintro e w' ⟨rfl, hb'⟩)
  go_ret
  exact ⟨rfl, hb'⟩

theorem sh_info : (Tryz.prog.info? 86).map (fun i => (i.zero, i.size, i.bytes)) = some (some (.agg #[.int .i64 0, .int .i64 0]), 2, 16) := by kernel_rfl
/-- A new row that reads as xs (nil where there is none). -/
abbrev Sho (w : World) (B : Nat) (v : Value) (xs : List Sh) : Prop := w.ownsRow B 86 2 v xs.length (xs.flatMap shE)
theorem Sho_sl {w : World} {B : Nat} {v : Value} {xs : List Sh} (h : Sho w B v xs) (hn : xs.length ≤ 140737488355328) : ∃ A c, v = .slice A xs.length c ∧ Shs w w.heap.size A xs.length c xs := by
  have h' := h
  rcases h.2 with ⟨rfl, h0⟩ | ⟨g, cap, _, rfl, _⟩
  · refine ⟨none, 0, by rw [h0], ?_⟩
    unfold Sho at h'
    rw [h0] at h' ⊢
    exact Sl.of_own shE_len h' h0 (by omega)
  · exact ⟨_, cap, rfl, Sl.of_own shE_len h' rfl hn⟩
end Go.Proofs.YtbhndfphegflhaaGreat
