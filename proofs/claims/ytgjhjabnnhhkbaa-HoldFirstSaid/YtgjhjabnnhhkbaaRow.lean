/- Rows of elements of k cells in a block that is known whole: stores, copies, clears. No program. -/
import Derived.Test.YtgjhjabnnhhkbaaMem
import Derived.Laws.IdiomCopy
import Derived.Laws.CopyOwn
import Derived.Deep.RegionLaw
import Derived.Lib.AppendZeros
import Derived.Lib.AppendZerosOnto
import Derived.Lib.Overlaps
import Derived.Laws.Externs
namespace Go.Proofs.Ytgjhjabnnhhkbaa
open Go.RowKit

theorem splice_cons (l : List Value) (o : Nat) (v : Value) (r : List Value) (h : o + (r.length + 1) ≤ l.length) : splice (l.set o v) (o + 1) r = splice l o (v :: r) := by
  have := list_seg_step l o v r h
  unfold splice
  simp only [List.append_assoc, List.length_cons, List.cons_append] at this ⊢
  exact this

theorem Box.setCells {t : TypeId} {g : Nat} : ∀ (vs : List Value) (o : Nat) (w : World) (cs : Array Value), Box w g t cs → o + vs.length ≤ cs.size → Box (w.setCells g o vs) g t (splice cs.toList o vs).toArray
  | [], o, w, cs, h, _ => by
    have : splice cs.toList o [] = cs.toList := by simp [splice]
    rw [this]; exact h
  | v :: r, o, w, cs, h, hl => by
    have ih := Box.setCells r (o + 1) (w.setCell ⟨g, o, none⟩ v) (cs.setIfInBounds o v) (h.set_ o v) (by simp at hl ⊢; omega)
    rw [Array.toList_setIfInBounds, splice_cons _ _ _ _ (by simpa using hl)] at ih
    exact ih

theorem below_setCells {B b : Nat} {a : World} (hb : B ≤ b) : ∀ (vs : List Value) (o : Nat) (w : World), Below B a w → Below B a (w.setCells b o vs)
  | [], _, _, h => h
  | v :: r, o, _, h => below_setCells hb r (o + 1) _ (h.setCell hb v)

theorem Box.far_setCells {g b : Nat} {t : TypeId} {cs : Array Value} (hne : g ≠ b) : ∀ (vs : List Value) (o : Nat) (w : World), Box w g t cs → Box (w.setCells b o vs) g t cs
  | [], _, _, h => h
  | v :: r, o, _, h => Box.far_setCells hne r (o + 1) _ (h.far (p := ⟨b, o, none⟩) hne v)

theorem Box.own {w : World} {base g n cap k : Nat} {t : TypeId} {cur : Array Value} {ys : List Value} (h : Box w g t cur) (hb : base ≤ g) (hn : n ≤ cap) (hm : cap ≤ maxLen) (hs : cur.size = cap * k) (ht : cur.toList.take (n * k) = ys) :
    w.ownsRow base t k (.slice (some ⟨g, 0, none⟩) n cap) n ys := by
  refine ⟨?_, .inr ⟨g, cap, cur, rfl, hb, h, hn, hm, hs, ht⟩⟩
  rw [← ht, List.length_take]
  have : n * k ≤ cap * k := Nat.mul_le_mul_right k hn
  simp; omega

/-- What a row of the call's own is: nil and empty, or a block known whole. -/
theorem own_box {w : World} {base n k : Nat} {t : TypeId} {v : Value} {ys : List Value} (h : w.ownsRow base t k v n ys) :
    (v = .slice none 0 0 ∧ n = 0) ∨ ∃ g cap cur, v = .slice (some ⟨g, 0, none⟩) n cap ∧ base ≤ g ∧ Box w g t cur ∧ n ≤ cap ∧ cap ≤ maxLen ∧ cur.size = cap * k ∧ cur.toList.take (n * k) = ys := by
  rcases h.2 with h | ⟨g, cap, cur, h1, h2, h3, h4⟩
  · exact .inl h
  · exact .inr ⟨g, cap, cur, h1, h2, h3, h4⟩

theorem World.shape_box {w : World} {g : Nat} {t : TypeId} {cs : Array Value} (h : Box w g t cs) : w.shape? g = some (t, cs.size) := by
  unfold Box at h
  simp [World.shape?, h]

theorem splice_len (l : List Value) (o : Nat) (c : List Value) (h : o + c.length ≤ l.length) : (splice l o c).length = l.length := length_splice l o c h
theorem take_splice_lo (l : List Value) (o a : Nat) (c : List Value) (ha : a ≤ o) (ho : o ≤ l.length) : (splice l o c).take a = l.take a := by
  unfold splice
  rw [List.take_append_of_le_length (by simp; omega), List.take_take, Nat.min_eq_left ha]
theorem take_splice (l : List Value) (o : Nat) (c : List Value) (ho : o ≤ l.length) : (splice l o c).take (o + c.length) = l.take o ++ c := by
  unfold splice
  rw [← List.append_assoc, List.take_append_of_le_length (by simp; omega), List.take_of_length_le (by simp; omega)]
theorem drop_splice (l : List Value) (o : Nat) (c : List Value) (ho : o ≤ l.length) : (splice l o c).drop o = c ++ l.drop (o + c.length) := by
  have h1 : (l.take o).length = o := by simp; omega
  unfold splice
  rw [List.drop_append_of_le_length (by omega), List.drop_of_length_le (by omega), List.nil_append]
/-- First the element, then what stood behind. -/
theorem splice_two (l X M : List Value) (a : Nat) (h : a + X.length + M.length ≤ l.length) : (splice (splice l a X) (a + X.length) M).take (a + X.length + M.length) = l.take a ++ X ++ M := by
  rw [take_splice _ _ _ (by rw [splice_len _ _ _ (by omega)]; omega), take_splice _ _ _ (by omega)]
/-- First what stood behind, then the element. -/
theorem splice_two' (l X M : List Value) (a : Nat) (h : a + X.length + M.length ≤ l.length) : (splice (splice l (a + X.length) M) a X).take (a + X.length + M.length) = l.take a ++ X ++ M := by
  have hl := splice_len l (a + X.length) M (by omega)
  have e : splice (splice l (a + X.length) M) a X = l.take a ++ (X ++ (M ++ l.drop (a + X.length + M.length))) := by
    rw [splice, take_splice_lo _ _ _ _ (by omega) (by omega), drop_splice _ _ _ (by omega)]
  rw [e, ← List.append_assoc, ← List.append_assoc, List.take_append_of_le_length (by simp; omega), List.take_of_length_le (by simp; omega)]
theorem splice_shut (l M Z : List Value) (a : Nat) (h : a + M.length + Z.length ≤ l.length) : (splice (splice l a M) (a + M.length) Z).take (a + M.length) = l.take a ++ M := by
  rw [take_splice_lo _ _ _ _ (Nat.le_refl _) (by rw [splice_len _ _ _ (by omega)]; omega), take_splice _ _ _ (by omega)]

theorem flat_take {α : Type} {enc : α → List Value} {k : Nat} (hk : ∀ x, (enc x).length = k) : ∀ (xs : List α) (i : Nat), (xs.flatMap enc).take (i * k) = (xs.take i).flatMap enc
  | [], i => by simp
  | x :: r, 0 => by simp
  | x :: r, i + 1 => by
    rw [List.flatMap_cons, List.take_succ_cons, List.flatMap_cons, List.take_append, hk, show (i + 1) * k - k = i * k from by rw [Nat.add_mul]; omega, flat_take hk r i, List.take_of_length_le (by rw [hk, Nat.add_mul]; omega)]
theorem flat_drop {α : Type} {enc : α → List Value} {k : Nat} (hk : ∀ x, (enc x).length = k) : ∀ (xs : List α) (i : Nat), (xs.flatMap enc).drop (i * k) = (xs.drop i).flatMap enc
  | [], i => by simp
  | x :: r, 0 => by simp
  | x :: r, i + 1 => by
    rw [List.flatMap_cons, List.drop_succ_cons, List.drop_append, hk, show (i + 1) * k - k = i * k from by rw [Nat.add_mul]; omega, flat_drop hk r i, List.drop_of_length_le (by rw [hk, Nat.add_mul]; omega), List.nil_append]

theorem take_splice_hi (l : List Value) (o m : Nat) (c : List Value) (h : o + c.length ≤ m) (hm : m ≤ l.length) : (splice l o c).take m = splice (l.take m) o c := by
  unfold splice
  have h1 : (l.take o).length = o := by simp; omega
  rw [List.take_append, h1, List.take_append, List.take_of_length_le (by omega), List.take_of_length_le (by omega : c.length ≤ m - o), List.take_take, Nat.min_eq_left (by omega), List.drop_take]
  rw [show m - o - c.length = m - (o + c.length) from by omega]
theorem splice_flat {α : Type} {enc : α → List Value} {k : Nat} (hk : ∀ x, (enc x).length = k) (xs : List α) (i : Nat) (y : α) (hi : i < xs.length) : splice (xs.flatMap enc) (i * k) (enc y) = (xs.set i y).flatMap enc := by
  unfold splice
  rw [hk, show i * k + k = (i + 1) * k from by rw [Nat.add_mul]; omega, flat_take hk, flat_drop hk, List.set_eq_take_append_cons_drop, if_pos hi, List.flatMap_append, List.flatMap_cons]
/-- A whole element stored into a row of the call's own. -/
theorem own_setk {α : Type} {enc : α → List Value} {k : Nat} {w : World} {base g n cap : Nat} {t : TypeId} {xs : List α} (hk : ∀ x, (enc x).length = k) (h : w.ownsRow base t k (.slice (some ⟨g, 0, none⟩) n cap) n (xs.flatMap enc)) (hl : xs.length = n) {i : Nat} (hi : i < n) (y : α) :
    (w.setCells g (i * k) (enc y)).ownsRow base t k (.slice (some ⟨g, 0, none⟩) n cap) n ((xs.set i y).flatMap enc) := by
  rcases own_box h with ⟨h0, _⟩ | ⟨g', cap', cur, h0, hbg, hB, hnc, hcm, hcs, htk⟩
  · cases h0
  · cases h0
    have hm : (i + 1) * k ≤ n * k := Nat.mul_le_mul_right k hi
    have hn : n * k ≤ cap * k := Nat.mul_le_mul_right k hnc
    rw [Nat.add_mul] at hm
    have b := hB.setCells (enc y) (i * k) _ _ (by rw [hk, hcs]; omega)
    refine b.own hbg hnc hcm ?_ ?_
    · rw [List.size_toArray, splice_len _ _ _ (by rw [hk, Array.length_toList, hcs]; omega), Array.length_toList, hcs]
    · show (splice cur.toList (i * k) (enc y)).take (n * k) = _
      rw [take_splice_hi _ _ _ _ (by rw [hk]; omega) (by rw [Array.length_toList, hcs]; omega), htk, splice_flat hk xs i y (by omega)]

/-- A block of the call's own that holds a list's cells, as a slice. -/
theorem Sl.of_box {α : Type} {enc : α → List Value} {k : Nat} {w : World} {g n c : Nat} {t : TypeId} {xs : List α} (hk : ∀ x, (enc x).length = k) (h : Box w g t (xs.flatMap enc).toArray) (hl : xs.length = n) (hn : n ≤ c) (hbig : n ≤ 140737488355328) :
    Sl enc k w (g + 1) (some ⟨g, 0, none⟩) n c xs := by
  refine ⟨hl, hn, hbig, (fun e => by cases e), fun _ => ⟨g, 0, rfl, by omega, fun i x hx j u hu => ?_⟩⟩
  have hjk : j < k := by have := (List.getElem?_eq_some_iff.1 hu).1; rw [hk] at this; exact this
  rw [Nat.zero_add, h.cell]
  have := flat_at hk xs i x hx j hjk
  rw [hu] at this
  simpa using this

section
variable {P : Program}
/-- 'copy(dst, src)', elements of whatever number of cells; all is read before anything is written. -/
theorem run_copyk (w : World) (dT sT ty elem : TypeId) (i : TypeInfo) (b o dLen dCap : Nat) (a : Addr) (sLen sCap : Nat) (cs : List Value)
    (hu : P.underlying dT = some (.slice elem)) (hi : P.info? elem = some i) (hn : cs.length = Nat.min sLen dLen * i.size)
    (hsrc : ∀ j v, cs[j]? = some v → w.cell? (a.add j) = some v) (hc : ∀ j, j < cs.length → (w.cell? ⟨b, o + j, none⟩).isSome = true) (hf : ∀ j, j < cs.length → w.frozen? ⟨b, o + j, none⟩ = false) (h1 : ∀ v ∈ cs, v.oneCell' = true) :
    (Builtin.copy_ #[dT, sT] ty #[.slice (some ⟨b, o, none⟩) dLen dCap, .slice (some a) sLen sCap]).run P w = .ok (goInt (Nat.min sLen dLen)) (w.setCells b o cs) := by
  have hl := run_firstCells_some (P := P) w i.size (Nat.min sLen dLen) a sLen sCap cs hn hsrc
  have hst := run_storeCells_cells (P := P) b o cs 0 w (by simpa using hc) (by simpa using hf) h1
  simp only [Nat.add_zero] at hst
  simp only [Builtin.copy_, Builtin.lenOf, sizeOf, typeInfo]
  simp [hl, hst, run_underlying hu, hi]

theorem box_isSome {w : World} {g : Nat} {t : TypeId} {cs : Array Value} (h : Box w g t cs) {j : Nat} (hj : j < cs.size) : (w.cell? ⟨g, j, none⟩).isSome = true := by
  rw [h.cell, Array.getElem?_eq_getElem hj]; rfl

/-- 'copy' into a block known whole, from cells that are known. -/
theorem run_copy_box {w : World} (dT sT ty elem : TypeId) (i : TypeInfo) (k : Nat) {g : Nat} (o : Nat) {t : TypeId} {cur : Array Value} (dLen dCap : Nat) (a : Addr) (sLen sCap : Nat) (cs : List Value)
    (hu : P.underlying dT = some (.slice elem)) (hi : P.info? elem = some i) (hk : i.size = k) (hB : Box w g t cur) (hn : cs.length = Nat.min sLen dLen * k) (hfit : o + cs.length ≤ cur.size)
    (hsrc : ∀ j v, cs[j]? = some v → w.cell? (a.add j) = some v) (h1 : ∀ v ∈ cs, v.oneCell' = true) :
    (Builtin.copy_ #[dT, sT] ty #[.slice (some ⟨g, o, none⟩) dLen dCap, .slice (some a) sLen sCap]).run P w = .ok (goInt (Nat.min sLen dLen)) (w.setCells g o cs) :=
  run_copyk w dT sT ty elem i g o dLen dCap a sLen sCap cs hu hi (by rw [hk]; exact hn) hsrc (fun j hj => box_isSome hB (by omega)) (fun j _ => hB.frz _) h1

/-- The operation 'copy' for the walk, where its run is known by an equation. -/
theorem wpList_copy_run1 (w : World) {ops : Array Oper} {rest : List Oper} {o : Oper} {a : Act} {Q : Exit → Act → World → Prop} (hgd : o.guard = none) (d s : Operand) (t t' : TypeId)
    (ho : o.op = .call { callee := .builtin .copy, args := #[d, s], argTypes := #[t, t'] }) (v u : Value) (hd : a.eval d = v) (hs : a.eval s = u) {v' : Value} {w' : World}
    (hr : (Builtin.copy_ #[t, t'] o.type #[v, u]).run P w = .ok v' w') (h : wpList P ops Q rest (a.put o.dst v') w') : wpList P ops Q (o :: rest) a w := by
  refine wpList_plain hgd fun K hK => ?_
  unfold Oper.wp execOp
  simp only [ho, resolve, invoke, builtin, Sem.run_bind, Sem.run_pure, Result.andThen_ok, List.map_toArray, List.map_cons, List.map_nil, hd, hs, hr]
  exact hK _ _ h
/-- .. and as one step of a region that draws. -/
theorem step_copy_run1 {ops : Array Oper} {o : Oper} {a : Act} {w : World} {K : Act → World → Prop} {Q : Exit → Act → World → Prop} {E : Prop}
    (hg : o.guard = none) (d x : Operand) (dT sT : TypeId) (hop : o.op = Op.call { callee := Callee.builtin Builtin.copy, args := #[d, x], argTypes := #[dT, sT] })
    (v u : Value) (hd : a.eval d = v) (hx : a.eval x = u) {v' : Value} {w' : World} (hr : (Builtin.copy_ #[dT, sT] o.type #[v, u]).run P w = .ok v' w') (hK : K (a.put o.dst v') w') :
    if Region.wanted o (yielded ops a.tmps) = true then Oper.wp P o a w K Q else E := by
  have hw : Region.wanted o (yielded ops a.tmps) = true := by simp [Region.wanted, hg]
  rw [if_pos hw]
  unfold Oper.wp
  simp [execOp, hop, resolve, invoke, builtin, hd, hx, hr, Result.andThen]
  exact hK
/-- 'clear' of a slice of elements of more cells than one. -/
theorem run_cleark (w : World) (t e ty : TypeId) (z : Value) (ht : P.underlying t = some (.slice e)) (hv : ∀ w, (zeroValue e).run P w = .ok z w) (h1 : ∀ v ∈ (Builtin.zeroCells z.cells 1).toList, v.oneCell' = true)
    {g o c : Nat} {tt : TypeId} {cur : Array Value} (hB : Box w g tt cur) (hfit : o + z.cells.size ≤ cur.size) :
    (Builtin.clear_ #[t] ty #[.slice (some ⟨g, o, none⟩) 1 c]).run P w = .ok (.tuple #[]) (w.setCells g o (Builtin.zeroCells z.cells 1).toList) := by
  have hl : (Builtin.zeroCells z.cells 1).toList.length = z.cells.size := by simp [size_zeroCells]
  have hst := run_storeCells_cells (P := P) g o (Builtin.zeroCells z.cells 1).toList 0 w (fun j hj => box_isSome hB (by omega)) (fun j _ => hB.frz _) h1
  simp only [Nat.add_zero] at hst
  simp only [Builtin.clear_]
  simp [run_underlying ht, hv, hst]
theorem wpList_clear_run1 (w : World) {ops : Array Oper} {rest : List Oper} {o : Oper} {a : Act} {Q : Exit → Act → World → Prop} (hgd : o.guard = none) (s : Operand) (t : TypeId)
    (ho : o.op = .call { callee := .builtin .clear, args := #[s], argTypes := #[t] }) (v : Value) (hs : a.eval s = v) {v' : Value} {w' : World}
    (hr : (Builtin.clear_ #[t] o.type #[v]).run P w = .ok v' w') (h : wpList P ops Q rest (a.put o.dst v') w') : wpList P ops Q (o :: rest) a w := by
  refine wpList_plain hgd fun K hK => ?_
  unfold Oper.wp execOp
  simp only [ho, resolve, invoke, builtin, Sem.run_bind, Sem.run_pure, Result.andThen_ok, List.map_toArray, List.map_cons, List.map_nil, hs, hr]
  exact hK _ _ h
end
end Go.Proofs.Ytgjhjabnnhhkbaa
