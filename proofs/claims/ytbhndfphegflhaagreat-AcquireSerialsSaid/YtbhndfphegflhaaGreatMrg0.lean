/- Texts laid together by merge.py: Mem, DtPlain, Idx, AcPlain, FuPlain. -/
import Derived.WalkKit
import Derived.WalkSpells
import Derived.WalkLawsBesides
import Derived.Maps.AppendAt
import Derived.Deep.AppendLies
import Derived.Deep.QuietTactic
import Derived.BigQuiet
set_option linter.unusedSimpArgs false
set_option linter.unusedVariables false
/- Plain words for memory: a slice value that reads as a list of elements of k cells each, in old memory or in a row of the call's own. No program. -/
namespace Go.Proofs.YtbhndfphegflhaaGreat
open Go.RowKit

theorem hide {p : Prop} (h : p) : Hid p := h
theorem ret_int {k : IntKind} {a b : Int} (h : a = b) : Ending.returned (.int k a) = .returned (.int k b) := by rw [h]
theorem ret_bool {a b : Bool} (h : a = b) : Ending.returned (.bool a) = .returned (.bool b) := by rw [h]

theorem bcell {W w1 : World} (hb : Below W.heap.size W w1) : (∀ b o, b < W.heap.size → w1.cell? ⟨b, o, none⟩ = W.cell? ⟨b, o, none⟩) ∧ (∀ b o, b < W.heap.size → w1.frozen? ⟨b, o, none⟩ = W.frozen? ⟨b, o, none⟩) :=
  ⟨fun b o h => hb.cell (p := ⟨b, o, none⟩) h, fun b o h => hb.frozen (p := ⟨b, o, none⟩) h⟩

theorem cell_new (w : World) (v : Value) (t : TypeId) : (w.alloc (.cells #[v] t)).cell? ⟨w.heap.size, 0, none⟩ = some v := by simp [go_sem]
/-- A call behind a new block of the caller's own. -/
theorem below_call {w w1 : World} {o : Obj} (hb : Below (w.alloc o).heap.size (w.alloc o) w1) : Below w.heap.size w w1 :=
  ((Below.refl w.heap.size w).alloc (Nat.le_refl _) o).trans (hb.mono (by simp))

/-- A world in which all that lay in w lies unturned. -/
structure Grn (w : World) where
  W : World
  h : Below w.heap.size w W

instance Grn.inst (w : World) : Inhabited (Grn w) := ⟨⟨w, Below.refl _ w⟩⟩

/-- A region that draws its order, whose operations only read, and whose callees may lay blocks of their own: walked once, in the order of the text. -/
theorem wp_region_grn {P : Program} {id : Nat} {Q : Exit → Act → World → Prop} {a : Act} {w : World} {l : List Oper} (hm : P.follows .mixedOrders = true) (hB : Region.lexB .any l.toArray = true)
    (h : wpQuiet P l.toArray (fun w' => ∃ p : Grn w, w' = p.W) (fun a' => ∀ w', (∃ p : Grn w, w' = p.W) → Q .normal a' w') l a) : (Code.region id l.toArray true).wp P Q a w :=
  wp_region_quiet (C := fun w' => ∃ p : Grn w, w' = p.W) hm hB ⟨⟨w.drew, (Below.refl _ w).drew⟩, rfl⟩ (by simpa using h)

theorem Calls_grn {P : Program} {f : FuncId} {args : Array Value} {w : World} {p : Grn w} {v : Value}
    (h : Calls P f args p.W fun e w' => e = .returned v ∧ Below p.W.heap.size p.W w') : Calls P f args p.W fun e w'' => e = .returned v ∧ ∃ q : Grn w, w'' = q.W :=
  h.mono fun _ w' ⟨he, hb⟩ => ⟨he, ⟨w', p.h.trans (hb.mono p.h.size)⟩, rfl⟩
theorem Calls_grn_same {P : Program} {f : FuncId} {args : Array Value} {w : World} {p : Grn w} {v : Value}
    (h : Calls P f args p.W fun e w' => e = .returned v ∧ p.W = w') : Calls P f args p.W fun e w'' => e = .returned v ∧ ∃ q : Grn w, w'' = q.W :=
  h.mono fun _ _ ⟨he, hb⟩ => ⟨he, p, hb.symm⟩
theorem Grn.cell {w : World} {b o : Nat} {v : Value} (h : w.cell? ⟨b, o, none⟩ = some v) (p : Grn w) : p.W.cell? ⟨b, o, none⟩ = some v :=
  (p.h.cell (p := ⟨b, o, none⟩) (World.block_lt_of_cell? w _ h)).trans h

theorem Grn.frz {w : World} {b o : Nat} (hb : b < w.heap.size) (h : w.frozen? ⟨b, o, none⟩ = false) (p : Grn w) : p.W.frozen? ⟨b, o, none⟩ = false :=
  (p.h.frozen (p := ⟨b, o, none⟩) hb).trans h

/-- A block of the call's own that is known whole. -/
def Box (w : World) (g : Nat) (t : TypeId) (cs : Array Value) : Prop := w.heap[g]? = some (.cells cs t (0, 0))
section
variable {w w' : World} {g : Nat} {t : TypeId} {cs : Array Value}
theorem Box.lt (h : Box w g t cs) : g < w.heap.size := by
  rcases Nat.lt_or_ge g w.heap.size with hlt | hge
  · exact hlt
  · unfold Box at h; rw [Array.getElem?_eq_none hge] at h; cases h
theorem Box.cell (h : Box w g t cs) (i : Nat) : w.cell? ⟨g, i, none⟩ = cs[i]? := cell_of_row w g i cs t (0, 0) h
theorem Box.frz (h : Box w g t cs) (i : Nat) : w.frozen? ⟨g, i, none⟩ = false := by
  unfold Box at h
  simp [World.frozen?, h]
theorem Box.new (w : World) (t : TypeId) (cs : Array Value) : Box (w.alloc (.cells cs t)) w.heap.size t cs := heap_alloc_new w _
theorem Box.drew (h : Box w g t cs) : Box w.drew g t cs := h
theorem Box.drewN (h : Box w g t cs) (n : Nat) : Box (w.drewN n) g t cs := h
theorem Box.alloc (h : Box w g t cs) (o : Obj) : Box (w.alloc o) g t cs := (Below.heap_alloc w o g h.lt).trans h
theorem Box.set_ (h : Box w g t cs) (i : Nat) (u : Value) : Box (w.setCell ⟨g, i, none⟩ u) g t (cs.setIfInBounds i u) := by
  unfold Box at h ⊢
  simp [World.setCell, Array.getElem?_modify, h]
theorem Box.far (h : Box w g t cs) {p : Addr} (hp : g ≠ p.block) (u : Value) : Box (w.setCell p u) g t cs := (Below.heap_setCell w p u g hp).trans h
theorem Box.below {B : Nat} (h : Box w g t cs) (hb : Below B w w') (hg : g < B) : Box w' g t cs := (hb.block g hg).trans h
end

/-- The slice value '.slice A n c' reads as the list xs, each element of k cells by enc, below block B. -/
structure Sl {α : Type} (enc : α → List Value) (k : Nat) (w : World) (B : Nat) (A : Option Addr) (n c : Nat) (xs : List α) : Prop where
  len : xs.length = n
  le : n ≤ c
  big : n ≤ 140737488355328
  nl : A = none → c = 0
  cells : 0 < n → ∃ b off, A = some ⟨b, off, none⟩ ∧ b < B ∧ ∀ i x, xs[i]? = some x → ∀ j u, (enc x)[j]? = some u → w.cell? ⟨b, off + i * k + j, none⟩ = some u

section
variable {α : Type} {enc : α → List Value} {k : Nat} {w w' : World} {B B' n c : Nat} {A : Option Addr} {xs : List α}

theorem Sl.at_ (h : Sl enc k w B A n c xs) {i : Nat} (hi : i < n) :
    ∃ b off x, A = some ⟨b, off, none⟩ ∧ b < B ∧ xs[i]? = some x ∧ ∀ j u, (enc x)[j]? = some u → w.cell? ⟨b, off + i * k + j, none⟩ = some u := by
  obtain ⟨b, off, hA, hb, hc⟩ := h.cells (by omega)
  have hx : xs[i]? = some (xs[i]'(by have := h.len; omega)) := List.getElem?_eq_getElem _
  exact ⟨b, off, _, hA, hb, hx, hc i _ hx⟩

theorem Sl.keep (h : Sl enc k w B A n c xs) (hk : ∀ p : Addr, p.block < B → w'.cell? p = w.cell? p) : Sl enc k w' B A n c xs :=
  ⟨h.len, h.le, h.big, h.nl, fun hn => by
    obtain ⟨b, off, hA, hb, hc⟩ := h.cells hn
    exact ⟨b, off, hA, hb, fun i x hx j u hu => (hk _ hb).trans (hc i x hx j u hu)⟩⟩
theorem Sl.more (h : Sl enc k w B A n c xs) (hB : B ≤ B') : Sl enc k w B' A n c xs :=
  ⟨h.len, h.le, h.big, h.nl, fun hn => by
    obtain ⟨b, off, hA, hb, hc⟩ := h.cells hn
    exact ⟨b, off, hA, by omega, hc⟩⟩
theorem Sl.below (h : Sl enc k w B A n c xs) (hb : Below B w w') : Sl enc k w' B A n c xs := h.keep fun _ hp => hb.cell hp
theorem Sl.drew (h : Sl enc k w B A n c xs) : Sl enc k w.drew B A n c xs := h.keep fun _ _ => rfl
theorem Sl.drewN (h : Sl enc k w B A n c xs) (m : Nat) : Sl enc k (w.drewN m) B A n c xs := h.keep fun _ _ => rfl
theorem Sl.alloc (h : Sl enc k w B A n c xs) (hB : B ≤ w.heap.size) (o : Obj) : Sl enc k (w.alloc o) B A n c xs := h.keep fun p hp => World.cell?_alloc_lt w o p (by omega)
theorem Sl.setCell (h : Sl enc k w B A n c xs) {p : Addr} (hB : B ≤ p.block) (u : Value) : Sl enc k (w.setCell p u) B A n c xs :=
  h.keep fun q hq => World.cell?_setCell_other w p q u (fun e => by subst e; omega)
theorem Sl.none_ : Sl enc k w B none 0 0 [] := ⟨rfl, by omega, by omega, fun _ => rfl, fun h => absurd h (by omega)⟩
/-- The first m elements: 's[:m]'. -/
theorem Sl.take (h : Sl enc k w B A n c xs) {m : Nat} (hm : m ≤ n) : Sl enc k w B A m c (xs.take m) :=
  ⟨by rw [List.length_take, h.len]; omega, by have := h.le; omega, by have := h.big; omega, h.nl, fun hn => by
    obtain ⟨b, off, hA, hb, hc⟩ := h.cells (by omega)
    refine ⟨b, off, hA, hb, fun i x hx => hc i x ?_⟩
    rw [List.getElem?_take] at hx
    split at hx
    · exact hx
    · cases hx⟩

theorem flat_len (hk : ∀ x, (enc x).length = k) : ∀ xs : List α, (xs.flatMap enc).length = xs.length * k
  | [] => by simp
  | x :: r => by rw [List.flatMap_cons, List.length_append, flat_len hk r, hk, List.length_cons, Nat.add_mul]; omega

theorem flat_at (hk : ∀ x, (enc x).length = k) : ∀ (xs : List α) (i : Nat) (x : α), xs[i]? = some x → ∀ j, j < k → (xs.flatMap enc)[i * k + j]? = (enc x)[j]?
  | [], i, x, h, _, _ => by simp at h
  | y :: r, 0, x, h, j, hj => by
    simp at h; subst h
    rw [List.flatMap_cons, List.getElem?_append_left (by rw [hk]; omega)]
    simp
  | y :: r, i + 1, x, h, j, hj => by
    simp at h
    rw [List.flatMap_cons, List.getElem?_append_right (by rw [hk, Nat.add_mul]; omega), hk]
    rw [show (i + 1) * k + j - k = i * k + j from by rw [Nat.add_mul]; omega]
    exact flat_at hk r i x h j hj

theorem flat_set (hk : ∀ x, (enc x).length = k) (y : α) (j : Nat) (u : Value) (hj : j < k) : ∀ (xs : List α) (i : Nat) (x : α), xs[i]? = some x → enc y = (enc x).set j u →
    (xs.flatMap enc).set (i * k + j) u = (xs.set i y).flatMap enc
  | [], i, x, h, _ => by simp at h
  | z :: r, 0, x, h, he => by
    simp at h; subst h
    rw [List.flatMap_cons, List.set_append_left _ _ (by rw [hk]; omega)]
    simp [he]
  | z :: r, i + 1, x, h, he => by
    simp at h
    rw [List.flatMap_cons, List.set_append_right _ _ (by rw [hk, Nat.add_mul]; omega), hk]
    rw [show (i + 1) * k + j - k = i * k + j from by rw [Nat.add_mul]; omega, flat_set hk y j u hj r i x h he]
    simp

/-- A row of the call's own reads as a list. -/
theorem Sl.of_own {base : Nat} {e : TypeId} (hk : ∀ x, (enc x).length = k) (h : w.ownsRow base e k (.slice A n c) n (xs.flatMap enc)) (hl : xs.length = n) (hbig : n ≤ 140737488355328) : Sl enc k w w.heap.size A n c xs := by
  obtain ⟨h1, h2⟩ := h
  refine ⟨hl, ?_, hbig, ?_, fun hn => ?_⟩
  · rcases h2 with ⟨hv, h0⟩ | ⟨g, cap, cur, hv, _, _, hle, _⟩
    · cases hv; omega
    · cases hv; omega
  · rcases h2 with ⟨hv, h0⟩ | ⟨g, cap, cur, hv, _, _, hle, _⟩
    · cases hv; exact fun _ => rfl
    · cases hv; exact fun h => by cases h
  · rcases h2 with ⟨hv, h0⟩ | ⟨g, cap, cur, hv, hbg, hh, hle, hm, hs, ht⟩
    · omega
    · injection hv with hA _ hc
      subst hA
      refine ⟨g, 0, rfl, ?_, fun i x hx j u hu => ?_⟩
      · rcases Nat.lt_or_ge g w.heap.size with hlt | hge
        · exact hlt
        · rw [Array.getElem?_eq_none hge] at hh; cases hh
      · have hjk : j < k := by have := (List.getElem?_eq_some_iff.1 hu).1; rw [hk] at this; exact this
        have hf := flat_at hk xs i x hx j hjk
        rw [hu, ← ht, List.getElem?_take] at hf
        split at hf
        · rw [Nat.zero_add, cell_of_row w g (i * k + j) cur e (0, 0) hh]
          simpa using hf
        · cases hf

/-- What is owned from base on is owned from any smaller number on. -/
theorem own_base {base base' : Nat} {e : TypeId} {size m : Nat} {v : Value} {ys : List Value} (h : w.ownsRow base e size v m ys) (hb : base' ≤ base) : w.ownsRow base' e size v m ys := by
  obtain ⟨q1, q2⟩ := h
  refine ⟨q1, ?_⟩
  rcases q2 with q2 | ⟨g', cap', cur, e1, e2, e3⟩
  · exact .inl q2
  · exact .inr ⟨g', cap', cur, e1, by omega, e3⟩

/-- A store into one cell of one element of a row of the call's own. -/
theorem own_set {base g cap : Nat} {e : TypeId} (hk : ∀ x, (enc x).length = k) (h : w.ownsRow base e k (.slice (some ⟨g, 0, none⟩) n cap) n (xs.flatMap enc))
    {i j : Nat} {x y : α} {u : Value} (hx : xs[i]? = some x) (hj : j < k) (he : enc y = (enc x).set j u) :
    (w.setCell ⟨g, i * k + j, none⟩ u).ownsRow base e k (.slice (some ⟨g, 0, none⟩) n cap) n ((xs.set i y).flatMap enc) := by
  rw [← flat_set hk y j u hj xs i x hx he]
  exact (h.stored (i * k + j) u).1
theorem own_cell {base g cap : Nat} {e : TypeId} (hk : ∀ x, (enc x).length = k) (h : w.ownsRow base e k (.slice (some ⟨g, 0, none⟩) n cap) n (xs.flatMap enc)) (hl : xs.length = n)
    {i : Nat} {x : α} (hx : xs[i]? = some x) : ∀ j u, (enc x)[j]? = some u → w.cell? ⟨g, i * k + j, none⟩ = some u := by
  intro j u hu
  have hj : j < k := by have := (List.getElem?_eq_some_iff.1 hu).1; rw [hk] at this; exact this
  have hi : i < n := by have := (List.getElem?_eq_some_iff.1 hx).1; omega
  have hm : (i + 1) * k ≤ n * k := Nat.mul_le_mul_right k hi
  rw [Nat.add_mul] at hm
  rw [h.cellAt _ (by omega), flat_at hk xs i x hx j hj, hu]
theorem set_get {i : Nat} {x y : α} (hx : xs[i]? = some x) : (xs.set i y)[i]? = some y := by
  rw [List.getElem?_set]; have := (List.getElem?_eq_some_iff.1 hx).1; simp [this]

/-- The cells of the slice, one behind the other: what the laws on append ask of the appended slice. -/
theorem Sl.flat (h : Sl enc k w B A n c xs) (hk : ∀ x, (enc x).length = k) (hn : 0 < n) (hk0 : 0 < k) : ∃ ad, A = some ad ∧ (xs.flatMap enc).length = n * k ∧ ∀ j u, (xs.flatMap enc)[j]? = some u → w.cell? (ad.add j) = some u := by
  obtain ⟨b, off, hA, hb, hc⟩ := h.cells hn
  refine ⟨_, hA, by rw [flat_len hk, h.len], fun j u hu => ?_⟩
  have hj : j < xs.length * k := by have := (List.getElem?_eq_some_iff.1 hu).1; rw [flat_len hk] at this; exact this
  have hi : j / k < xs.length := Nat.div_lt_of_lt_mul (by rw [Nat.mul_comm]; exact hj)
  have hx : xs[j / k]? = some (xs[j / k]) := List.getElem?_eq_getElem hi
  have hdm : j / k * k + j % k = j := by rw [Nat.mul_comm]; exact Nat.div_add_mod j k
  have hf := flat_at hk xs (j / k) _ hx (j % k) (Nat.mod_lt _ hk0)
  rw [hdm, hu] at hf
  have := hc _ _ hx (j % k) u hf.symm
  rw [Addr.add_lit]
  rwa [Nat.add_assoc, hdm] at this
end

section
variable {P : Program} (w : World) {α : Type} {enc : α → List Value} {k : Nat}

/-- 'append(own, xs...)' onto a row of the call's own (or nil), the source a slice that reads as a list, nil and empty too. -/
theorem run_append_sl (base : Nat) (t ty e : TypeId) (i : TypeInfo) (z : Value) (bytes : Nat) (ht : P.underlying t = some (.slice e)) (hi : P.info? e = some i) (hz : i.zero = some z)
    (hsize : i.size = k) (hby : i.bytes = bytes) (hzs : z.cells.size = k) (hk0 : 0 < k) (hk : ∀ x, (enc x).length = k) (h1 : ∀ x, ∀ u ∈ enc x, u.oneCell' = true)
    (v : Value) (n : Nat) (ys : List Value) (hown : w.ownsRow base e k v n ys)
    {B : Nat} {A : Option Addr} {m c : Nat} {xs : List α} (hs : Sl enc k w B A m c xs)
    (hnm : n + m ≤ maxLen) (hbytes : (n + m) * bytes ≤ 140737488355328) (hbase : base ≤ w.heap.size) :
    ∃ v' w', (Builtin.append_ #[t, t] ty #[v, .slice A m c]).run P w = .ok v' w' ∧ w'.ownsRow base e k v' (n + m) (ys ++ xs.flatMap enc) ∧ w.grownBy w' v.ownBlock ∧
      (v'.ownBlock = v.ownBlock ∨ v'.ownBlock = some w.heap.size) := by
  rcases Nat.eq_zero_or_pos m with h0 | h0
  · subst h0
    have hx : xs = [] := List.eq_nil_of_length_eq_zero hs.len
    subst hx
    refine ⟨v, w, ?_, by simpa using hown, World.grownBy.refl w _, .inl rfl⟩
    rcases hown.2 with ⟨rfl, rfl⟩ | ⟨g, cap, cur, rfl, _, _, hnc, _⟩
    · cases A <;> simp [Builtin.append_, run_underlying ht, sizeOf, typeInfo, hi, Builtin.lenOf, Builtin.firstCells, loadCells, loadCellsFrom]
    · cases A <;> simp [Builtin.append_, run_underlying ht, sizeOf, typeInfo, hi, Builtin.lenOf, Builtin.firstCells, hnc, storeCells, loadCells, loadCellsFrom]
  · obtain ⟨ad, hA, hfl, hfc⟩ := hs.flat hk h0 hk0
    subst hA
    obtain ⟨v', w', hr, h2, h3, _, h5⟩ := run_append_own_at (P := P) w base t ty e i z k bytes ht hi hz hsize hby hzs hk0 v n ys hown ad m c (xs.flatMap enc) hfl hfc
      (fun u hu => by obtain ⟨x, _, hx⟩ := List.mem_flatMap.1 hu; exact h1 x u hx) hnm hbytes hbase
    exact ⟨v', w', hr, h2, h3, h5⟩

theorem wpList_append_sl {ops : Array Oper} {rest : List Oper} {o : Oper} {a : Act} {Q : Exit → Act → World → Prop} (hgd : o.guard = none) (s x : Operand) (t : TypeId)
    (ho : o.op = .call { callee := .builtin .append, args := #[s, x], argTypes := #[t, t] })
    (base : Nat) (e : TypeId) (i : TypeInfo) (z : Value) (bytes : Nat) (ht : P.underlying t = some (.slice e)) (hi : P.info? e = some i) (hz : i.zero = some z)
    (hsize : i.size = k) (hby : i.bytes = bytes) (hzs : z.cells.size = k) (hk0 : 0 < k) (hk : ∀ x, (enc x).length = k) (h1 : ∀ x, ∀ u ∈ enc x, u.oneCell' = true)
    (v : Value) (n : Nat) (ys : List Value) (hsv : a.eval s = v) (hown : w.ownsRow base e k v n ys)
    {B : Nat} (A : Option Addr) (m c : Nat) {xs : List α} (hx : a.eval x = .slice A m c) (hs : Sl enc k w B A m c xs)
    (hnm : n + m ≤ maxLen) (hbytes : (n + m) * bytes ≤ 140737488355328) (hbase : base ≤ w.heap.size)
    (h : ∀ v' w', w'.ownsRow base e k v' (n + m) (ys ++ xs.flatMap enc) → w.grownBy w' v.ownBlock → (v'.ownBlock = v.ownBlock ∨ v'.ownBlock = some w.heap.size) → wpList P ops Q rest (a.put o.dst v') w') :
    wpList P ops Q (o :: rest) a w := by
  refine wpList_plain hgd fun K hK => ?_
  obtain ⟨v', w', hr, h2, h3, h4⟩ := run_append_sl (P := P) w base t o.type e i z bytes ht hi hz hsize hby hzs hk0 hk h1 v n ys hown hs hnm hbytes hbase
  unfold Oper.wp execOp
  simp only [ho, resolve, invoke, builtin, Sem.run_bind, Sem.run_pure, Result.andThen_ok, List.map_toArray, List.map_cons, List.map_nil, hsv, hx, hr]
  exact hK _ _ (h v' w' h2 h3 h4)
end
end Go.Proofs.YtbhndfphegflhaaGreat

/- Dates as plain functions. No program. -/
namespace Go.Proofs.YtbhndfphegflhaaGreat

/-- February has 29 days. -/
def lp (y : Int) : Bool := decide (y % 4 = 0) && (decide (y % 100 ≠ 0) || decide (y % 400 = 0))
def lpn (y : Int) : Int := if lp y = true then 1 else 0
theorem lpn_01 (y : Int) : 0 ≤ lpn y ∧ lpn y ≤ 1 := by unfold lpn; split <;> omega
/-- Days before the year 1900 + k. -/
def ny : Nat → Int
  | 0 => 0
  | k + 1 => ny k + 365 + lpn (1900 + (k : Int))
theorem ny_bound : ∀ k : Nat, 365 * (k : Int) ≤ ny k ∧ ny k ≤ 366 * (k : Int)
  | 0 => ⟨by decide, by decide⟩
  | k + 1 => by
    have h := ny_bound k
    have h1 := lpn_01 (1900 + (k : Int))
    rw [ny]
    constructor <;> omega
theorem ny_lt (k : Nat) : ny k + 365 ≤ ny (k + 1) ∧ ny (k + 1) ≤ ny k + 366 := by
  have h1 := lpn_01 (1900 + (k : Int))
  rw [ny]; omega
theorem ny_mono {a b : Nat} (h : a ≤ b) : ny a ≤ ny b := by
  induction b with
  | zero => have : a = 0 := by omega
            subst this; exact Int.le_refl _
  | succ b ih =>
    have h1 := ny_lt b
    by_cases e : a = b + 1
    · subst e; exact Int.le_refl _
    · have := ih (by omega); omega
theorem ny_300 : ny 300 = 109573 := by decide +kernel

/-- The days of a month, in a common year. -/
def tab (m : Int) : Int := if m = 2 then 28 else if m = 4 ∨ m = 6 ∨ m = 9 ∨ m = 11 then 30 else 31
/-- The days of a month; 0 outside the years 1900 to 2199 and the months 1 to 12. -/
def ml (y m : Int) : Int := if y < 1900 ∨ 2199 < y ∨ m < 1 ∨ 12 < m then 0 else if m = 2 ∧ lp y = true then 29 else tab m
/-- The days of a year before a month. -/
def bef0 (m : Int) : Int := if m = 1 then 0 else if m = 2 then 31 else if m = 3 then 59 else if m = 4 then 90 else if m = 5 then 120 else if m = 6 then 151 else if m = 7 then 181
  else if m = 8 then 212 else if m = 9 then 243 else if m = 10 then 273 else if m = 11 then 304 else if m = 12 then 334 else 365
def bef (y m : Int) : Int := bef0 m + if 2 < m then lpn y else 0
theorem twelve {m : Int} (h1 : 1 ≤ m) (h2 : m ≤ 12) : m = 1 ∨ m = 2 ∨ m = 3 ∨ m = 4 ∨ m = 5 ∨ m = 6 ∨ m = 7 ∨ m = 8 ∨ m = 9 ∨ m = 10 ∨ m = 11 ∨ m = 12 := by omega
theorem bef_step {y m : Int} (hy : 1900 ≤ y) (hy2 : y ≤ 2199) (h1 : 1 ≤ m) (h2 : m ≤ 12) : bef y (m + 1) = bef y m + ml y m := by
  have hl := lpn_01 y
  have hr : ¬ (y < 1900 ∨ 2199 < y ∨ m < 1 ∨ 12 < m) := by omega
  unfold ml
  rw [if_neg hr]
  rcases twelve h1 h2 with rfl | rfl | rfl | rfl | rfl | rfl | rfl | rfl | rfl | rfl | rfl | rfl
  · simp [bef, bef0, tab]
  · by_cases hlp : lp y = true <;> simp [bef, bef0, tab, lpn, hlp]
  all_goals (simp [bef, bef0, tab]; try omega)
theorem bef_13 (y : Int) : bef y 13 = 365 + lpn y := by simp [bef, bef0]
theorem bef_1 (y : Int) : bef y 1 = 0 := by simp [bef, bef0]
theorem ml_bound (y m : Int) : 0 ≤ ml y m ∧ ml y m ≤ 31 := by
  unfold ml tab
  repeat' split
  all_goals omega
theorem bef_mono {y m m' : Int} (hy : 1900 ≤ y) (hy2 : y ≤ 2199) (h1 : 1 ≤ m) (h : m ≤ m') (h2 : m' ≤ 13) : bef y m ≤ bef y m' := by
  obtain ⟨k, rfl⟩ : ∃ k : Nat, m' = m + k := ⟨(m' - m).toNat, by omega⟩
  induction k with
  | zero => simp
  | succ k ih =>
    have := ih (by omega) (by omega)
    have h3 := bef_step (m := m + k) hy hy2 (by omega) (by omega)
    have h4 := ml_bound y (m + k)
    rw [show m + ((k + 1 : Nat) : Int) = m + k + 1 from by omega]
    omega

/-- The day of a date, or the error code 2. -/
def ofR (y m d : Int) : Int × Int := if d < 1 ∨ ml y m < d then (0, 2) else (ny (y - 1900).toNat + bef y m + d - 1, 0)
/-- y, m, d are year, month and day of the month of a day. -/
structure PartsOf (day y m d : Int) : Prop where
  y1 : 1900 ≤ y
  y2 : y ≤ 2199
  m1 : 1 ≤ m
  m2 : m ≤ 12
  yl : ny (y - 1900).toNat ≤ day
  yu : day < ny (y - 1900).toNat + 365 + lpn y
  ml : bef y m ≤ day - ny (y - 1900).toNat
  mu : day - ny (y - 1900).toNat < bef y (m + 1)
  d : d = day - ny (y - 1900).toNat - bef y m + 1
/-- The day n months later. -/
def monR (y m d n : Int) : Int × Int :=
  if (y - 1900) * 12 + m - 1 + n < 0 ∨ 3600 ≤ (y - 1900) * 12 + m - 1 + n then (0, 2)
  else ofR (1900 + ((y - 1900) * 12 + m - 1 + n) / 12) (((y - 1900) * 12 + m - 1 + n) % 12 + 1) (min d (ml (1900 + ((y - 1900) * 12 + m - 1 + n) / 12) (((y - 1900) * 12 + m - 1 + n) % 12 + 1)))
end Go.Proofs.YtbhndfphegflhaaGreat

/- The index of the first element for which a test holds; bounds of an int. No program. -/
namespace Go.Proofs.YtbhndfphegflhaaGreat

/-- A number that fits an int. -/
def I64 (a : Int) : Prop := -9223372036854775808 ≤ a ∧ a ≤ 9223372036854775807

/-! ### the index of the first element for which p holds, or -1 -/
def idxP {α : Type} (p : α → Bool) : List α → Int → Int
  | [], _ => -1
  | x :: r, k => if p x = true then k else idxP p r (k + 1)

theorem idxP_step {α : Type} {p : α → Bool} {xs : List α} {k : Nat} {x : α} (h : xs[k]? = some x) :
    idxP p (xs.drop k) k = if p x = true then (k : Int) else idxP p (xs.drop (k + 1)) ((k + 1 : Nat) : Int) := by
  obtain ⟨hk, rfl⟩ := List.getElem?_eq_some_iff.1 h
  rw [List.drop_eq_getElem_cons hk, idxP]; rfl
theorem idxP_end {α : Type} {p : α → Bool} {xs : List α} {k : Nat} (h : xs.length ≤ k) (i : Int) : idxP p (xs.drop k) i = -1 := by
  rw [List.drop_eq_nil_of_le h]; rfl

theorem idxP_cases {α : Type} (p : α → Bool) : ∀ (xs : List α) (k : Int), 0 ≤ k → (idxP p xs k = -1 ∧ ∀ x ∈ xs, p x = false) ∨ ∃ (i : Nat) (x : α), idxP p xs k = k + i ∧ xs[i]? = some x ∧ p x = true ∧ ∀ y ∈ xs.take i, p y = false
  | [], k, _ => .inl ⟨rfl, by simp⟩
  | x :: r, k, hk => by
    by_cases h : p x = true
    · exact .inr ⟨0, x, by simp [idxP, h], rfl, h, by simp⟩
    · have h' : p x = false := by simpa using h
      rcases idxP_cases p r (k + 1) (by omega) with ⟨h1, h2⟩ | ⟨i, y, h1, h2, h3, h4⟩
      · refine .inl ⟨by rw [idxP, if_neg h, h1], ?_⟩
        intro y hy
        rcases List.mem_cons.1 hy with rfl | hy
        · exact h'
        · exact h2 y hy
      · refine .inr ⟨i + 1, y, by rw [idxP, if_neg h, h1]; omega, by simpa using h2, h3, ?_⟩
        intro z hz
        rw [List.take_succ_cons] at hz
        rcases List.mem_cons.1 hz with rfl | hz
        · exact h'
        · exact h4 z hz

/-- The index of the first element for which p holds, or -1. -/
def ix {α : Type} (p : α → Bool) (xs : List α) : Int := idxP p xs 0
theorem ix_cases {α : Type} (p : α → Bool) (xs : List α) : (ix p xs = -1 ∧ ∀ x ∈ xs, p x = false) ∨ ∃ (i : Nat) (x : α), ix p xs = i ∧ xs[i]? = some x ∧ p x = true ∧ ∀ y ∈ xs.take i, p y = false := by
  rcases idxP_cases p xs 0 (by omega) with h | ⟨i, x, h1, h2⟩
  · exact .inl h
  · exact .inr ⟨i, x, by unfold ix; omega, h2⟩
theorem take_step {α : Type} {xs : List α} {k : Nat} {x : α} (h : xs[k]? = some x) : xs.take (k + 1) = xs.take k ++ [x] := by
  obtain ⟨hk, rfl⟩ := List.getElem?_eq_some_iff.1 h
  rw [List.take_succ_eq_append_getElem hk]
end Go.Proofs.YtbhndfphegflhaaGreat

/- In this seat: nothing of access; I64 lies in Idx. -/
namespace Go.Proofs.YtbhndfphegflhaaGreat
end Go.Proofs.YtbhndfphegflhaaGreat

/- Funds as plain data, and what the fund package and its reference compute, as plain functions. No program. -/
namespace Go.Proofs.YtbhndfphegflhaaGreat

structure Fu where
  id : Int
  parent : Int
  budget : Int
  enc : Int
  spent : Int
  deriving DecidableEq

def fuE (x : Fu) : List Value := [.int .i64 x.id, .int .i64 x.parent, .int .i64 x.budget, .int .i64 x.enc, .int .i64 x.spent]
def fuV (x : Fu) : Value := .agg #[.int .i64 x.id, .int .i64 x.parent, .int .i64 x.budget, .int .i64 x.enc, .int .i64 x.spent]
def fu0 : Fu := ⟨0, 0, 0, 0, 0⟩
theorem fuE_len (x : Fu) : (fuE x).length = 5 := rfl
theorem fuE_one (x : Fu) : ∀ u ∈ fuE x, u.oneCell' = true := by
  intro u hu; simp only [fuE, List.mem_cons, List.not_mem_nil, or_false] at hu
  rcases hu with rfl | rfl | rfl | rfl | rfl <;> rfl

structure FuW (x : Fu) : Prop where
  id : I64 x.id
  parent : I64 x.parent
  budget : I64 x.budget
  enc : I64 x.enc
  spent : I64 x.spent

abbrev Fs (w : World) (B : Nat) (A : Option Addr) (n c : Nat) (xs : List Fu) : Prop := Sl fuE 5 w B A n c xs

theorem fu_cells {w : World} {b o : Nat} {x : Fu} (h : ∀ j u, (fuE x)[j]? = some u → w.cell? ⟨b, o + j, none⟩ = some u) :
    w.cell? ⟨b, o, none⟩ = some (.int .i64 x.id) ∧ w.cell? ⟨b, o + 1, none⟩ = some (.int .i64 x.parent) ∧ w.cell? ⟨b, o + 2, none⟩ = some (.int .i64 x.budget)
      ∧ w.cell? ⟨b, o + 3, none⟩ = some (.int .i64 x.enc) ∧ w.cell? ⟨b, o + 4, none⟩ = some (.int .i64 x.spent) :=
  ⟨h 0 _ rfl, h 1 _ rfl, h 2 _ rfl, h 3 _ rfl, h 4 _ rfl⟩

theorem Fs_at {w : World} {B : Nat} {A : Option Addr} {n c : Nat} {xs : List Fu} (h : Fs w B A n c xs) {k : Nat} (hk : k < n) :
    ∃ b off x, A = some ⟨b, off, none⟩ ∧ b < B ∧ xs[k]? = some x ∧
     w.cell? ⟨b, off + k * 5, none⟩ = some (.int .i64 x.id) ∧ w.cell? ⟨b, off + k * 5 + 1, none⟩ = some (.int .i64 x.parent)
     ∧ w.cell? ⟨b, off + k * 5 + 2, none⟩ = some (.int .i64 x.budget) ∧ w.cell? ⟨b, off + k * 5 + 3, none⟩ = some (.int .i64 x.enc)
     ∧ w.cell? ⟨b, off + k * 5 + 4, none⟩ = some (.int .i64 x.spent) := by
  obtain ⟨b, off, x, hA, hb, hx, hc⟩ := h.at_ hk
  exact ⟨b, off, x, hA, hb, hx, fu_cells hc⟩

theorem below_box5 {B : Nat} {a w : World} (h : Go.RowKit.Below B a w) {b : Nat} (hb : B ≤ b) (u0 u1 u2 u3 u4 : Value) :
    Go.RowKit.Below B a (((((w.setCell ⟨b, 0, none⟩ u0).setCell ⟨b, 1, none⟩ u1).setCell ⟨b, 2, none⟩ u2).setCell ⟨b, 3, none⟩ u3).setCell ⟨b, 4, none⟩ u4) :=
  ((((h.setCell hb u0).setCell hb u1).setCell hb u2).setCell hb u3).setCell hb u4

/-! ### amounts -/
def mny (n : Int) : Bool := decide (0 ≤ n) && decide (n ≤ 100000000)

/-! ### the index of the first element for which p holds, or -1 -/
def atF (xs : List Fu) (id : Int) : Int := ix (fun x => x.id == id) xs
end Go.Proofs.YtbhndfphegflhaaGreat
