/- Texts laid together by merge.py: FuO, FuQ, FuLaw, FuR, Open, Open2, Row, IuKit. -/
import Derived.Test.YtbhndfphegflhaaGreatMrg2
import Derived.Test.YtbhndfphegflhaaGreatMrg0
import Derived.ProofKit
import Derived.Deep.Slices
import Derived.Deep.Fields
import Derived.SizedLaws
import Derived.OpenShut
import Derived.Laws.IdiomCopy
import Derived.Laws.CopyOwn
import Derived.Deep.RegionLaw
import Derived.Lib.AppendZeros
import Derived.Lib.AppendZerosOnto
import Derived.Lib.Overlaps
import Derived.Laws.Externs
import Derived.Test.YtbhndfphegflhaaGreatProg
import Derived.Shelf.Abstract
set_option linter.unusedSimpArgs false
set_option linter.unusedVariables false
/- Walks: the reference's Total. -/
namespace Go.Proofs.YtbhndfphegflhaaGreat
open Go.RowKit Go.Maps

def addF (t x : Fu) : Fu := { t with budget := t.budget + x.budget, enc := t.enc + x.enc, spent := t.spent + x.spent }
end Go.Proofs.YtbhndfphegflhaaGreat

/- Walks: the program's Total. -/
namespace Go.Proofs.YtbhndfphegflhaaGreat
open Go.RowKit Go.Maps

theorem Box.grown {w w' : World} {g : Nat} {t : TypeId} {cs : Array Value} {row : Option Nat} (h : Box w g t cs) (hb : w.grownBy w' row) (hg : some g ≠ row) : Box w' g t cs := (hb.block g h.lt hg).trans h
/-- All amounts of the sums are between 0 and L; the sums have no ID and no parent. -/
def BS (S : Int → Fu) (L : Int) : Prop := ∀ y, ((S y).id = 0 ∧ (S y).parent = 0) ∧ (0 ≤ (S y).budget ∧ (S y).budget ≤ L) ∧ (0 ≤ (S y).enc ∧ (S y).enc ≤ L) ∧ (0 ≤ (S y).spent ∧ (S y).spent ≤ L)
theorem BS.start : BS (fun _ => fu0) 0 := fun _ => ⟨⟨rfl, rfl⟩, ⟨Int.le_refl 0, Int.le_refl 0⟩, ⟨Int.le_refl 0, Int.le_refl 0⟩, ⟨Int.le_refl 0, Int.le_refl 0⟩⟩
theorem BS.more {S : Int → Fu} {L M : Int} (h : BS S L) (hl : L ≤ M) : BS S M := fun y => by
  obtain ⟨h0, ⟨h1, h2⟩, ⟨h3, h4⟩, ⟨h5, h6⟩⟩ := h y
  exact ⟨h0, ⟨h1, by omega⟩, ⟨h3, by omega⟩, ⟨h5, by omega⟩⟩
theorem BS.step {S : Int → Fu} {L : Int} {x : Fu} (h : BS S L) (hx : FuM x) (a : Int) : BS (fun y => if y = a then addF (S a) x else S y) (L + 100000000) := fun y => by
  have hb := hx.b
  have he := hx.e
  have hs := hx.s
  by_cases e : y = a
  · simp only [e, if_true]
    obtain ⟨h0, ⟨h1, h2⟩, ⟨h3, h4⟩, ⟨h5, h6⟩⟩ := h a
    unfold addF
    exact ⟨h0, ⟨by simp only; omega, by simp only; omega⟩, ⟨by simp only; omega, by simp only; omega⟩, ⟨by simp only; omega, by simp only; omega⟩⟩
  · simp only [e, if_false]
    exact h.more (by omega) y

end Go.Proofs.YtbhndfphegflhaaGreat

/- Plain laws on funds: the program's way of finding loops and summing up agrees with the reference's. No walk. -/
namespace Go.Proofs.YtbhndfphegflhaaGreat

/-! ### a list without repetition inside another one -/
theorem nodup_sub {α : Type} [DecidableEq α] : ∀ (us L : List α), us.Nodup → (∀ a ∈ us, a ∈ L) → us.length ≤ L.length
  | [], _, _, _ => Nat.zero_le _
  | a :: us, L, h, hs => by
    obtain ⟨h1, h2⟩ := List.nodup_cons.1 h
    have ha : a ∈ L := hs a (by simp)
    have hr := nodup_sub us (L.erase a) h2 (fun b hb => (List.mem_erase_of_ne (fun e => h1 (by rw [← e]; exact hb))).2 (hs b (by simp [hb])))
    rw [List.length_erase_of_mem ha] at hr
    have := List.length_pos_of_mem ha
    simp only [List.length_cons]
    omega

theorem pigeon (f : Nat → Int) (L : List Int) (h : ∀ i, i ≤ L.length → f i ∈ L) : ∃ i j, i < j ∧ j ≤ L.length ∧ f i = f j := by
  apply Classical.byContradiction
  intro hno
  have hinj : ∀ i j, i < j → j ≤ L.length → f i ≠ f j := fun i j h1 h2 h3 => hno ⟨i, j, h1, h2, h3⟩
  have hnd : ((List.range (L.length + 1)).map f).Nodup := by
    rw [List.nodup_iff_pairwise_ne, List.pairwise_map]
    refine List.Pairwise.imp_of_mem ?_ List.pairwise_lt_range
    intro a b _ hb hab
    exact hinj a b hab (by have := List.mem_range.1 hb; omega)
  have := nodup_sub _ L hnd (by
    intro a ha
    obtain ⟨i, hi, rfl⟩ := List.mem_map.1 ha
    exact h i (by have := List.mem_range.1 hi; omega))
  simp at this
  omega

/-! ### IDs that ascend -/
theorem chkA_lt : ∀ (xs : List Fu) (p : Option Int), chkA p xs = 0 → (∀ q, p = some q → ∀ x ∈ xs, q < x.id) ∧ xs.Pairwise (fun a b => a.id < b.id)
  | [], _, _ => ⟨by simp, List.Pairwise.nil⟩
  | x :: r, p, h => by
    rw [chkA] at h
    split at h
    · simp at h
    · rename_i hp
      split at h
      · simp at h
      · obtain ⟨h1, h2⟩ := chkA_lt r (some x.id) h
        have h1' := h1 x.id rfl
        refine ⟨fun q hq y hy => ?_, List.pairwise_cons.2 ⟨h1', h2⟩⟩
        subst hq
        have hqx : q < x.id := by simpa using hp
        rcases List.mem_cons.1 hy with rfl | hy
        · exact hqx
        · exact Int.lt_trans hqx (h1' y hy)

/-- IDs differ. -/
def Dif (xs : List Fu) : Prop := xs.Pairwise (fun a b => a.id < b.id)
theorem dif_eq {xs : List Fu} (h : Dif xs) {x y : Fu} (hx : x ∈ xs) (hy : y ∈ xs) (he : x.id = y.id) : x = y := by
  unfold Dif at h
  induction xs with
  | nil => simp at hx
  | cons z r ih =>
    obtain ⟨h1, h2⟩ := List.pairwise_cons.1 h
    rcases List.mem_cons.1 hx with rfl | hx' <;> rcases List.mem_cons.1 hy with rfl | hy'
    · rfl
    · have := h1 y hy'; omega
    · have := h1 x hx'; omega
    · exact ih h2 hx' hy'

theorem getF_mem {xs : List Fu} (h : Dif xs) {x : Fu} (hx : x ∈ xs) : getF xs x.id = (x, true) := by
  rcases getF_at (xs := xs) (id := x.id) with ⟨h1, _⟩ | ⟨i, y, _, h2, h3, h4⟩
  · rcases ix_cases (fun y : Fu => y.id == x.id) xs with ⟨_, hall⟩ | ⟨i, y, h5, _⟩
    · have := hall x hx; simp at this
    · unfold atF at h1; omega
  · rw [h4, dif_eq h (List.mem_of_getElem? h2) hx h3]
theorem getF_not {xs : List Fu} {id : Int} (h : ∀ x ∈ xs, x.id ≠ id) : getF xs id = (fu0, false) := by
  rcases getF_at (xs := xs) (id := id) with ⟨_, h2⟩ | ⟨i, y, _, h2, h3, _⟩
  · exact h2
  · exact absurd h3 (h y (List.mem_of_getElem? h2))
theorem getF_true {xs : List Fu} {id : Int} (h : (getF xs id).2 = true) : (getF xs id).1 ∈ xs ∧ (getF xs id).1.id = id := by
  rcases getF_at (xs := xs) (id := id) with ⟨_, h2⟩ | ⟨i, y, _, h2, h3, h4⟩
  · rw [h2] at h; cases h
  · rw [h4]; exact ⟨List.mem_of_getElem? h2, h3⟩
theorem getF_false {xs : List Fu} {id : Int} (h : (getF xs id).2 = false) : getF xs id = (fu0, false) := by
  rcases getF_at (xs := xs) (id := id) with ⟨_, h2⟩ | ⟨i, y, _, h2, h3, h4⟩
  · exact h2
  · rw [h4] at h; cases h

/-- One step up. -/
def nx (xs : List Fu) (id : Int) : Int := (getF xs id).1.parent
/-- n steps up. -/
def nxs (xs : List Fu) : Nat → Int → Int
  | 0, id => id
  | n + 1, id => nxs xs n (nx xs id)
theorem nxs_add (xs : List Fu) : ∀ (m n : Nat) (id : Int), nxs xs (m + n) id = nxs xs n (nxs xs m id)
  | 0, n, id => by rw [Nat.zero_add]; rfl
  | m + 1, n, id => by rw [show m + 1 + n = (m + n) + 1 from by omega, nxs, nxs_add xs m n, nxs]

theorem foldl_up_not (xs : List Fu) (f : Int → Int) (y : Int) (h : ∀ x ∈ xs, x.id ≠ y) : xs.foldl (fun f x => fun y => if y = x.id then x.parent else f y) f y = f y := by
  induction xs generalizing f with
  | nil => rfl
  | cons x r ih =>
    rw [List.foldl_cons, ih _ (fun z hz => h z (by simp [hz]))]
    rw [if_neg (fun e => h x (by simp) e.symm)]
theorem foldl_up_hit (xs : List Fu) (hd : Dif xs) (f : Int → Int) (x : Fu) (hx : x ∈ xs) : xs.foldl (fun f x => fun y => if y = x.id then x.parent else f y) f x.id = x.parent := by
  unfold Dif at hd
  induction xs generalizing f with
  | nil => simp at hx
  | cons z r ih =>
    obtain ⟨h1, h2⟩ := List.pairwise_cons.1 hd
    rw [List.foldl_cons]
    rcases List.mem_cons.1 hx with rfl | hx'
    · rw [foldl_up_not r _ _ (fun y hy => by have := h1 y hy; omega)]
      simp
    · exact ih h2 _ hx'
theorem upF_nx {xs : List Fu} (hd : Dif xs) (y : Int) : upF xs y = nx xs y := by
  unfold upF nx
  cases hb : (getF xs y).2 with
  | true =>
    obtain ⟨h1, h2⟩ := getF_true hb
    have := foldl_up_hit xs hd (fun _ => 0) _ h1
    rw [h2] at this
    exact this
  | false =>
    rw [getF_false hb]
    have hn : ∀ x ∈ xs, x.id ≠ y := fun x hx e => by
      subst e
      rw [getF_mem hd hx] at hb
      cases hb
    rw [foldl_up_not xs _ y hn]; rfl

/-- The lists of which all this is asked: IDs ascend and are at least 1. -/
structure Tid (xs : List Fu) : Prop where
  dif : Dif xs
  pos : ∀ x ∈ xs, 1 ≤ x.id
theorem Tid.of {xs : List Fu} (h : chkA none xs = 0) : Tid xs := ⟨(chkA_lt xs none h).2, fun x hx => (badF_ok (chkA_ok xs none h x hx)).1.1⟩
theorem nx_zero {xs : List Fu} (h : Tid xs) : nx xs 0 = 0 := by
  unfold nx
  rw [getF_not (fun x hx e => by have := h.pos x hx; omega)]; rfl
theorem nxs_zero {xs : List Fu} (h : Tid xs) : ∀ n, nxs xs n 0 = 0
  | 0 => rfl
  | n + 1 => by rw [nxs, nx_zero h, nxs_zero h n]
theorem nxs_stay {xs : List Fu} (h : Tid xs) {m n : Nat} {id : Int} (hm : nxs xs m id = 0) (hn : m ≤ n) : nxs xs n id = 0 := by
  obtain ⟨k, rfl⟩ := Nat.exists_eq_add_of_le hn
  rw [nxs_add, hm, nxs_zero h]
theorem nx_found {xs : List Fu} {id : Int} (h : nx xs id ≠ 0) : (getF xs id).2 = true := by
  cases hb : (getF xs id).2 with
  | true => rfl
  | false => exfalso; apply h; unfold nx; rw [getF_false hb]; rfl

theorem lpR_nxs {xs : List Fu} (h : Tid xs) : ∀ (f : Nat) (id : Int), lpR (upF xs) f id = decide (nxs xs f id ≠ 0)
  | 0, id => rfl
  | f + 1, id => by
    rw [lpR]
    by_cases h0 : id = 0
    · rw [if_pos h0, h0, nxs_zero h]; rfl
    · rw [if_neg h0, upF_nx h.dif, lpR_nxs h f, nxs]

theorem wiR_nxs {xs : List Fu} (h : Tid xs) {top : Int} (ht : top ≠ 0) : ∀ (f : Nat) (id : Int), wiR xs f id top = true ↔ ∃ n, n < f ∧ nxs xs n id = top
  | 0, id => by simp [wiR]
  | f + 1, id => by
    rw [wiR]
    by_cases hit : id = top
    · rw [if_pos hit]
      simp only [true_iff]
      exact ⟨0, by omega, hit⟩
    · rw [if_neg hit]
      have hshift : (∃ n, n < f + 1 ∧ nxs xs n id = top) ↔ ∃ n, n < f ∧ nxs xs n (nx xs id) = top := by
        constructor
        · rintro ⟨n, h1, h2⟩
          cases n with
          | zero => exact absurd h2 hit
          | succ n => exact ⟨n, by omega, h2⟩
        · rintro ⟨n, h1, h2⟩
          exact ⟨n + 1, by omega, h2⟩
      rw [hshift]
      cases hb : (getF xs id).2 with
      | true => rw [if_pos rfl]; exact wiR_nxs h ht f _
      | false =>
        rw [if_neg (by decide)]
        have : nx xs id = 0 := by unfold nx; rw [getF_false hb]; rfl
        rw [this]
        constructor
        · intro h'; cases h'
        · rintro ⟨n, _, h2⟩; rw [nxs_zero h] at h2; exact absurd h2.symm ht

/-- The program finds a loop just where the reference finds one. -/
theorem loop_cyc {xs : List Fu} (h : Tid xs) : loopR xs = cycR xs := by
  rw [Bool.eq_iff_iff]
  unfold loopR cycR
  rw [List.any_eq_true, List.any_eq_true]
  constructor
  · rintro ⟨x, hx, hl⟩
    rw [lpR_nxs h] at hl
    have hne : nxs xs (xs.length + 1) x.parent ≠ 0 := by simpa using hl
    have hpx : nx xs x.id = x.parent := by unfold nx; rw [getF_mem h.dif hx]
    have hne2 : nxs xs (xs.length + 2) x.id ≠ 0 := by rw [nxs, hpx]; exact hne
    have hall : ∀ i, i ≤ xs.length + 2 → nxs xs i x.id ≠ 0 := fun i hi h0 => hne2 (nxs_stay h h0 hi)
    have hmem : ∀ i, i ≤ (xs.map (·.id)).length → nxs xs i x.id ∈ xs.map (·.id) := by
      intro i hi
      rw [List.length_map] at hi
      have h1 : nx xs (nxs xs i x.id) ≠ 0 := by
        have := hall (i + 1) (by omega)
        rw [nxs_add xs i 1] at this
        exact this
      obtain ⟨h2, h3⟩ := getF_true (nx_found h1)
      exact List.mem_map.2 ⟨_, h2, h3⟩
    obtain ⟨i, j, hij, hj, he⟩ := pigeon (fun i => nxs xs i x.id) _ hmem
    rw [List.length_map] at hj
    have h1 : nx xs (nxs xs i x.id) ≠ 0 := by
      have := hall (i + 1) (by omega)
      rw [nxs_add xs i 1] at this
      exact this
    obtain ⟨h2, h3⟩ := getF_true (nx_found h1)
    refine ⟨_, h2, ?_⟩
    rw [h3, Bool.and_eq_true]
    refine ⟨by simpa [nx] using h1, (wiR_nxs h (hall i (by omega)) _ _).2 ⟨j - i - 1, by omega, ?_⟩⟩
    have e1 : nxs xs (j - i - 1) (getF xs (nxs xs i x.id)).1.parent = nxs xs (j - i) (nxs xs i x.id) := by
      rw [show j - i = (j - i - 1) + 1 from by omega, nxs]; rfl
    rw [e1, ← nxs_add, show i + (j - i) = j from by omega]
    exact he.symm
  · rintro ⟨x, hx, hw⟩
    rw [Bool.and_eq_true] at hw
    obtain ⟨hp, hw⟩ := hw
    have hid : x.id ≠ 0 := by have := h.pos x hx; omega
    obtain ⟨n, _, hn⟩ := (wiR_nxs h hid _ _).1 hw
    have hpx : nx xs x.id = x.parent := by unfold nx; rw [getF_mem h.dif hx]
    have hcyc : nxs xs (n + 1) x.id = x.id := by rw [nxs, hpx]; exact hn
    have hk : ∀ k, nxs xs (k * (n + 1)) x.id = x.id := by
      intro k
      induction k with
      | zero => rw [Nat.zero_mul]; rfl
      | succ k ih => rw [Nat.add_mul, Nat.one_mul, nxs_add, ih, hcyc]
    refine ⟨x, hx, ?_⟩
    rw [lpR_nxs h]
    simp only [decide_eq_true_eq]
    intro h0
    have h1 : nxs xs (xs.length + 2) x.id = 0 := by rw [nxs, hpx]; exact h0
    have h2 := hk (xs.length + 2)
    rw [nxs_stay h h1 (by rw [Nat.mul_add]; omega)] at h2
    exact hid h2.symm

theorem right_eq (xs : List Fu) : rightP xs = rightR xs := by
  unfold rightP rightR
  by_cases h1 : 32 < xs.length
  · rw [if_pos h1, if_pos h1]
  · rw [if_neg h1, if_neg h1]
    by_cases h2 : chkA none xs ≠ 0
    · rw [if_pos h2, if_pos h2]
    · rw [if_neg h2, if_neg h2]
      have h2' : chkA none xs = 0 := by simpa using h2
      rw [loop_cyc (Tid.of h2')]
      have e : (0 ≤ ix (fun f => decide (freeF f < 0)) xs) ↔ overF xs = true := by
        unfold overF
        rw [List.any_eq_true]
        rcases ix_cases (fun f => decide (freeF f < 0)) xs with ⟨h3, h4⟩ | ⟨i, x, h3, h4, h5, _⟩
        · rw [h3]
          constructor
          · intro h; omega
          · rintro ⟨x, hx, ho⟩
            have := h4 x hx
            have h6 : ¬ freeF x < 0 := by simpa using this
            have h7 : x.budget < x.enc + x.spent := by simpa using ho
            unfold freeF at h6
            omega
        · rw [h3]
          constructor
          · intro _
            refine ⟨x, List.mem_of_getElem? h4, ?_⟩
            have h6 : freeF x < 0 := by simpa using h5
            unfold freeF at h6
            simp only [decide_eq_true_eq]
            omega
          · intro _; omega
      by_cases h5 : overF xs = true
      · rw [if_pos (e.2 h5), if_pos h5]
      · rw [if_neg (fun h => h5 (e.1 h)), if_neg h5]
end Go.Proofs.YtbhndfphegflhaaGreat

/- Walks: the chapter's examples. -/
namespace Go.Proofs.YtbhndfphegflhaaGreat
open Go.RowKit Go.Maps

end Go.Proofs.YtbhndfphegflhaaGreat

/- An argument that is a slice of structs of one-cell fields, opened to its cells. No program. -/
namespace Go.Proofs.YtbhndfphegflhaaGreat
open Go.RowKit Go.ChangeShapes Go.WideShapes Go.Deep

theorem add_of_add (a : Addr) (i j : Nat) : (a.add i).add j = a.add (i + j) := by
  unfold Addr.add
  by_cases hi : i = 0 <;> by_cases hj : j = 0 <;> simp [hi, hj, Nat.add_assoc]

section
variable {H : Type} {enc : TypeId × Value → H} {P : Program} {w : World} {base : Nat} {spare : Nat → Bool} {held : Bool}

end

def I64v (v : Value) : Prop := ∃ n : Int, v = .int .i64 n ∧ -9223372036854775808 ≤ n ∧ n ≤ 9223372036854775807
theorem I64v_of {H : Type} {enc : TypeId × Value → H} {P : Program} {w : World} {base : Nat} {spare : Nat → Bool} {held : Bool} {t : TypeId} (ht : P.underlying t = some (.int .i64)) {n : Nat} {v : Value} {y : DataW H × List MemPlace}
    (h : DataW.trod enc P w base spare held n t [v] = some y) : I64v v := by
  obtain ⟨a, hv, _, hw⟩ := DataW.trod_int ht h
  simp only [List.cons.injEq, and_true] at hv
  refine ⟨a, hv, ?_⟩
  have := bounds_i64 hw
  exact this
end Go.Proofs.YtbhndfphegflhaaGreat

/- A cell that is a bool, opened. No program. -/
namespace Go.Proofs.YtbhndfphegflhaaGreat
open Go.RowKit Go.ChangeShapes Go.WideShapes Go.Deep
end Go.Proofs.YtbhndfphegflhaaGreat

/- Rows of elements of k cells in a block that is known whole: stores, copies, clears. No program. -/
namespace Go.Proofs.YtbhndfphegflhaaGreat
open Go.RowKit

theorem splice_cons (l : List Value) (o : Nat) (v : Value) (r : List Value) (h : o + (r.length + 1) ≤ l.length) : splice (l.set o v) (o + 1) r = splice l o (v :: r) := by
  have := list_seg_step l o v r h
  unfold splice
  simp only [List.append_assoc, List.length_cons, List.cons_append] at this ⊢
  exact this

theorem Box.setCells {t : TypeId} {g : Nat} : ∀ (vs : List Value) (o : Nat) (w : World) (cs : Array Value), Box w g t cs → o + vs.length ≤ cs.size → Box (w.setCells g o vs) g t (splice cs.toList o vs).toArray
  | [], o, w, cs, h, _ => by
    have : splice cs.toList o [] = cs.toList := by simp [splice]
    rw [this]; exact h
  | v :: r, o, w, cs, h, hl => by
    have ih := Box.setCells r (o + 1) (w.setCell ⟨g, o, none⟩ v) (cs.setIfInBounds o v) (h.set_ o v) (by simp at hl ⊢; omega)
    rw [Array.toList_setIfInBounds, splice_cons _ _ _ _ (by simpa using hl)] at ih
    exact ih

theorem below_setCells {B b : Nat} {a : World} (hb : B ≤ b) : ∀ (vs : List Value) (o : Nat) (w : World), Below B a w → Below B a (w.setCells b o vs)
  | [], _, _, h => h
  | v :: r, o, _, h => below_setCells hb r (o + 1) _ (h.setCell hb v)

theorem Box.far_setCells {g b : Nat} {t : TypeId} {cs : Array Value} (hne : g ≠ b) : ∀ (vs : List Value) (o : Nat) (w : World), Box w g t cs → Box (w.setCells b o vs) g t cs
  | [], _, _, h => h
  | v :: r, o, _, h => Box.far_setCells hne r (o + 1) _ (h.far (p := ⟨b, o, none⟩) hne v)

theorem Box.own {w : World} {base g n cap k : Nat} {t : TypeId} {cur : Array Value} {ys : List Value} (h : Box w g t cur) (hb : base ≤ g) (hn : n ≤ cap) (hm : cap ≤ maxLen) (hs : cur.size = cap * k) (ht : cur.toList.take (n * k) = ys) :
    w.ownsRow base t k (.slice (some ⟨g, 0, none⟩) n cap) n ys := by
  refine ⟨?_, .inr ⟨g, cap, cur, rfl, hb, h, hn, hm, hs, ht⟩⟩
  rw [← ht, List.length_take]
  have : n * k ≤ cap * k := Nat.mul_le_mul_right k hn
  simp; omega

/-- What a row of the call's own is: nil and empty, or a block known whole. -/
theorem own_box {w : World} {base n k : Nat} {t : TypeId} {v : Value} {ys : List Value} (h : w.ownsRow base t k v n ys) :
    (v = .slice none 0 0 ∧ n = 0) ∨ ∃ g cap cur, v = .slice (some ⟨g, 0, none⟩) n cap ∧ base ≤ g ∧ Box w g t cur ∧ n ≤ cap ∧ cap ≤ maxLen ∧ cur.size = cap * k ∧ cur.toList.take (n * k) = ys := by
  rcases h.2 with h | ⟨g, cap, cur, h1, h2, h3, h4⟩
  · exact .inl h
  · exact .inr ⟨g, cap, cur, h1, h2, h3, h4⟩

theorem World.shape_box {w : World} {g : Nat} {t : TypeId} {cs : Array Value} (h : Box w g t cs) : w.shape? g = some (t, cs.size) := by
  unfold Box at h
  simp [World.shape?, h]

theorem splice_len (l : List Value) (o : Nat) (c : List Value) (h : o + c.length ≤ l.length) : (splice l o c).length = l.length := length_splice l o c h
theorem take_splice_lo (l : List Value) (o a : Nat) (c : List Value) (ha : a ≤ o) (ho : o ≤ l.length) : (splice l o c).take a = l.take a := by
  unfold splice
  rw [List.take_append_of_le_length (by simp; omega), List.take_take, Nat.min_eq_left ha]
theorem take_splice (l : List Value) (o : Nat) (c : List Value) (ho : o ≤ l.length) : (splice l o c).take (o + c.length) = l.take o ++ c := by
  unfold splice
  rw [← List.append_assoc, List.take_append_of_le_length (by simp; omega), List.take_of_length_le (by simp; omega)]
theorem drop_splice (l : List Value) (o : Nat) (c : List Value) (ho : o ≤ l.length) : (splice l o c).drop o = c ++ l.drop (o + c.length) := by
  have h1 : (l.take o).length = o := by simp; omega
  unfold splice
  rw [List.drop_append_of_le_length (by omega), List.drop_of_length_le (by omega), List.nil_append]
/-- First the element, then what stood behind. -/
theorem splice_two (l X M : List Value) (a : Nat) (h : a + X.length + M.length ≤ l.length) : (splice (splice l a X) (a + X.length) M).take (a + X.length + M.length) = l.take a ++ X ++ M := by
  rw [take_splice _ _ _ (by rw [splice_len _ _ _ (by omega)]; omega), take_splice _ _ _ (by omega)]
/-- First what stood behind, then the element. -/
theorem splice_two' (l X M : List Value) (a : Nat) (h : a + X.length + M.length ≤ l.length) : (splice (splice l (a + X.length) M) a X).take (a + X.length + M.length) = l.take a ++ X ++ M := by
  have hl := splice_len l (a + X.length) M (by omega)
  have e : splice (splice l (a + X.length) M) a X = l.take a ++ (X ++ (M ++ l.drop (a + X.length + M.length))) := by
    rw [splice, take_splice_lo _ _ _ _ (by omega) (by omega), drop_splice _ _ _ (by omega)]
  rw [e, ← List.append_assoc, ← List.append_assoc, List.take_append_of_le_length (by simp; omega), List.take_of_length_le (by simp; omega)]
theorem flat_take {α : Type} {enc : α → List Value} {k : Nat} (hk : ∀ x, (enc x).length = k) : ∀ (xs : List α) (i : Nat), (xs.flatMap enc).take (i * k) = (xs.take i).flatMap enc
  | [], i => by simp
  | x :: r, 0 => by simp
  | x :: r, i + 1 => by
    rw [List.flatMap_cons, List.take_succ_cons, List.flatMap_cons, List.take_append, hk, show (i + 1) * k - k = i * k from by rw [Nat.add_mul]; omega, flat_take hk r i, List.take_of_length_le (by rw [hk, Nat.add_mul]; omega)]
theorem flat_drop {α : Type} {enc : α → List Value} {k : Nat} (hk : ∀ x, (enc x).length = k) : ∀ (xs : List α) (i : Nat), (xs.flatMap enc).drop (i * k) = (xs.drop i).flatMap enc
  | [], i => by simp
  | x :: r, 0 => by simp
  | x :: r, i + 1 => by
    rw [List.flatMap_cons, List.drop_succ_cons, List.drop_append, hk, show (i + 1) * k - k = i * k from by rw [Nat.add_mul]; omega, flat_drop hk r i, List.drop_of_length_le (by rw [hk, Nat.add_mul]; omega), List.nil_append]

theorem take_splice_hi (l : List Value) (o m : Nat) (c : List Value) (h : o + c.length ≤ m) (hm : m ≤ l.length) : (splice l o c).take m = splice (l.take m) o c := by
  unfold splice
  have h1 : (l.take o).length = o := by simp; omega
  rw [List.take_append, h1, List.take_append, List.take_of_length_le (by omega), List.take_of_length_le (by omega : c.length ≤ m - o), List.take_take, Nat.min_eq_left (by omega), List.drop_take]
  rw [show m - o - c.length = m - (o + c.length) from by omega]
theorem splice_flat {α : Type} {enc : α → List Value} {k : Nat} (hk : ∀ x, (enc x).length = k) (xs : List α) (i : Nat) (y : α) (hi : i < xs.length) : splice (xs.flatMap enc) (i * k) (enc y) = (xs.set i y).flatMap enc := by
  unfold splice
  rw [hk, show i * k + k = (i + 1) * k from by rw [Nat.add_mul]; omega, flat_take hk, flat_drop hk, List.set_eq_take_append_cons_drop, if_pos hi, List.flatMap_append, List.flatMap_cons]
/-- A whole element stored into a row of the call's own. -/
theorem own_setk {α : Type} {enc : α → List Value} {k : Nat} {w : World} {base g n cap : Nat} {t : TypeId} {xs : List α} (hk : ∀ x, (enc x).length = k) (h : w.ownsRow base t k (.slice (some ⟨g, 0, none⟩) n cap) n (xs.flatMap enc)) (hl : xs.length = n) {i : Nat} (hi : i < n) (y : α) :
    (w.setCells g (i * k) (enc y)).ownsRow base t k (.slice (some ⟨g, 0, none⟩) n cap) n ((xs.set i y).flatMap enc) := by
  rcases own_box h with ⟨h0, _⟩ | ⟨g', cap', cur, h0, hbg, hB, hnc, hcm, hcs, htk⟩
  · cases h0
  · cases h0
    have hm : (i + 1) * k ≤ n * k := Nat.mul_le_mul_right k hi
    have hn : n * k ≤ cap * k := Nat.mul_le_mul_right k hnc
    rw [Nat.add_mul] at hm
    have b := hB.setCells (enc y) (i * k) _ _ (by rw [hk, hcs]; omega)
    refine b.own hbg hnc hcm ?_ ?_
    · rw [List.size_toArray, splice_len _ _ _ (by rw [hk, Array.length_toList, hcs]; omega), Array.length_toList, hcs]
    · show (splice cur.toList (i * k) (enc y)).take (n * k) = _
      rw [take_splice_hi _ _ _ _ (by rw [hk]; omega) (by rw [Array.length_toList, hcs]; omega), htk, splice_flat hk xs i y (by omega)]

/-- A block of the call's own that holds a list's cells, as a slice. -/
theorem Sl.of_box {α : Type} {enc : α → List Value} {k : Nat} {w : World} {g n c : Nat} {t : TypeId} {xs : List α} (hk : ∀ x, (enc x).length = k) (h : Box w g t (xs.flatMap enc).toArray) (hl : xs.length = n) (hn : n ≤ c) (hbig : n ≤ 140737488355328) :
    Sl enc k w (g + 1) (some ⟨g, 0, none⟩) n c xs := by
  refine ⟨hl, hn, hbig, (fun e => by cases e), fun _ => ⟨g, 0, rfl, by omega, fun i x hx j u hu => ?_⟩⟩
  have hjk : j < k := by have := (List.getElem?_eq_some_iff.1 hu).1; rw [hk] at this; exact this
  rw [Nat.zero_add, h.cell]
  have := flat_at hk xs i x hx j hjk
  rw [hu] at this
  simpa using this

section
variable {P : Program}
/-- 'copy(dst, src)', elements of whatever number of cells; all is read before anything is written. -/
theorem run_copyk (w : World) (dT sT ty elem : TypeId) (i : TypeInfo) (b o dLen dCap : Nat) (a : Addr) (sLen sCap : Nat) (cs : List Value)
    (hu : P.underlying dT = some (.slice elem)) (hi : P.info? elem = some i) (hn : cs.length = Nat.min sLen dLen * i.size)
    (hsrc : ∀ j v, cs[j]? = some v → w.cell? (a.add j) = some v) (hc : ∀ j, j < cs.length → (w.cell? ⟨b, o + j, none⟩).isSome = true) (hf : ∀ j, j < cs.length → w.frozen? ⟨b, o + j, none⟩ = false) (h1 : ∀ v ∈ cs, v.oneCell' = true) :
    (Builtin.copy_ #[dT, sT] ty #[.slice (some ⟨b, o, none⟩) dLen dCap, .slice (some a) sLen sCap]).run P w = .ok (goInt (Nat.min sLen dLen)) (w.setCells b o cs) := by
  have hl := run_firstCells_some (P := P) w i.size (Nat.min sLen dLen) a sLen sCap cs hn hsrc
  have hst := run_storeCells_cells (P := P) b o cs 0 w (by simpa using hc) (by simpa using hf) h1
  simp only [Nat.add_zero] at hst
  simp only [Builtin.copy_, Builtin.lenOf, sizeOf, typeInfo]
  simp [hl, hst, run_underlying hu, hi]

theorem box_isSome {w : World} {g : Nat} {t : TypeId} {cs : Array Value} (h : Box w g t cs) {j : Nat} (hj : j < cs.size) : (w.cell? ⟨g, j, none⟩).isSome = true := by
  rw [h.cell, Array.getElem?_eq_getElem hj]; rfl

/-- 'copy' into a block known whole, from cells that are known. -/
theorem run_copy_box {w : World} (dT sT ty elem : TypeId) (i : TypeInfo) (k : Nat) {g : Nat} (o : Nat) {t : TypeId} {cur : Array Value} (dLen dCap : Nat) (a : Addr) (sLen sCap : Nat) (cs : List Value)
    (hu : P.underlying dT = some (.slice elem)) (hi : P.info? elem = some i) (hk : i.size = k) (hB : Box w g t cur) (hn : cs.length = Nat.min sLen dLen * k) (hfit : o + cs.length ≤ cur.size)
    (hsrc : ∀ j v, cs[j]? = some v → w.cell? (a.add j) = some v) (h1 : ∀ v ∈ cs, v.oneCell' = true) :
    (Builtin.copy_ #[dT, sT] ty #[.slice (some ⟨g, o, none⟩) dLen dCap, .slice (some a) sLen sCap]).run P w = .ok (goInt (Nat.min sLen dLen)) (w.setCells g o cs) :=
  run_copyk w dT sT ty elem i g o dLen dCap a sLen sCap cs hu hi (by rw [hk]; exact hn) hsrc (fun j hj => box_isSome hB (by omega)) (fun j _ => hB.frz _) h1

/-- The operation 'copy' for the walk, where its run is known by an equation. -/
theorem wpList_copy_run1 (w : World) {ops : Array Oper} {rest : List Oper} {o : Oper} {a : Act} {Q : Exit → Act → World → Prop} (hgd : o.guard = none) (d s : Operand) (t t' : TypeId)
    (ho : o.op = .call { callee := .builtin .copy, args := #[d, s], argTypes := #[t, t'] }) (v u : Value) (hd : a.eval d = v) (hs : a.eval s = u) {v' : Value} {w' : World}
    (hr : (Builtin.copy_ #[t, t'] o.type #[v, u]).run P w = .ok v' w') (h : wpList P ops Q rest (a.put o.dst v') w') : wpList P ops Q (o :: rest) a w := by
  refine wpList_plain hgd fun K hK => ?_
  unfold Oper.wp execOp
  simp only [ho, resolve, invoke, builtin, Sem.run_bind, Sem.run_pure, Result.andThen_ok, List.map_toArray, List.map_cons, List.map_nil, hd, hs, hr]
  exact hK _ _ h
/-- .. and as one step of a region that draws. -/
theorem step_copy_run1 {ops : Array Oper} {o : Oper} {a : Act} {w : World} {K : Act → World → Prop} {Q : Exit → Act → World → Prop} {E : Prop}
    (hg : o.guard = none) (d x : Operand) (dT sT : TypeId) (hop : o.op = Op.call { callee := Callee.builtin Builtin.copy, args := #[d, x], argTypes := #[dT, sT] })
    (v u : Value) (hd : a.eval d = v) (hx : a.eval x = u) {v' : Value} {w' : World} (hr : (Builtin.copy_ #[dT, sT] o.type #[v, u]).run P w = .ok v' w') (hK : K (a.put o.dst v') w') :
    if Region.wanted o (yielded ops a.tmps) = true then Oper.wp P o a w K Q else E := by
  have hw : Region.wanted o (yielded ops a.tmps) = true := by simp [Region.wanted, hg]
  rw [if_pos hw]
  unfold Oper.wp
  simp [execOp, hop, resolve, invoke, builtin, hd, hx, hr, Result.andThen]
  exact hK
end
end Go.Proofs.YtbhndfphegflhaaGreat

/- library/api.Issue as plain data; a slice of them; '=='; IndexFunc; Clone. Printed by gen_kit.py. -/
namespace Go.Proofs.YtbhndfphegflhaaGreat
open Go.RowKit

structure Iu where
  vol : Int
  num : Int
  last : Int
  day : Int
  st : Int
  itm : Int
  deriving DecidableEq

def iuE (x : Iu) : List Value := [.int .i64 x.vol, .int .i64 x.num, .int .i64 x.last, .int .i64 x.day, .int .i64 x.st, .int .i64 x.itm]
def iuV (x : Iu) : Value := .agg #[.int .i64 x.vol, .int .i64 x.num, .int .i64 x.last, .int .i64 x.day, .int .i64 x.st, .int .i64 x.itm]
abbrev iuC (x : Iu) : Array Value := #[.int .i64 x.vol, .int .i64 x.num, .int .i64 x.last, .int .i64 x.day, .int .i64 x.st, .int .i64 x.itm]
theorem iuE_len (x : Iu) : (iuE x).length = 6 := rfl
theorem iuE_one (x : Iu) : ∀ u ∈ iuE x, u.oneCell' = true := by
  intro u hu; simp only [iuE, List.mem_cons, List.not_mem_nil, or_false] at hu
  rcases hu with rfl | rfl | rfl | rfl | rfl | rfl <;> rfl
abbrev Ius (w : World) (B : Nat) (A : Option Addr) (n c : Nat) (xs : List Iu) : Prop := Sl iuE 6 w B A n c xs
theorem iu_cells {w : World} {b o : Nat} {x : Iu} (h : ∀ j u, (iuE x)[j]? = some u → w.cell? ⟨b, o + j, none⟩ = some u) :
    w.cell? ⟨b, o, none⟩ = some (.int .i64 x.vol) ∧ w.cell? ⟨b, o + 1, none⟩ = some (.int .i64 x.num) ∧ w.cell? ⟨b, o + 2, none⟩ = some (.int .i64 x.last) ∧ w.cell? ⟨b, o + 3, none⟩ = some (.int .i64 x.day) ∧ w.cell? ⟨b, o + 4, none⟩ = some (.int .i64 x.st) ∧ w.cell? ⟨b, o + 5, none⟩ = some (.int .i64 x.itm) :=
  ⟨h 0 _ rfl, h 1 _ rfl, h 2 _ rfl, h 3 _ rfl, h 4 _ rfl, h 5 _ rfl⟩
theorem Ius_at {w : World} {B : Nat} {A : Option Addr} {n c : Nat} {xs : List Iu} (h : Ius w B A n c xs) {k : Nat} (hk : k < n) :
    ∃ b off x, A = some ⟨b, off, none⟩ ∧ b < B ∧ xs[k]? = some x ∧
     w.cell? ⟨b, off + k * 6, none⟩ = some (.int .i64 x.vol) ∧ w.cell? ⟨b, off + k * 6 + 1, none⟩ = some (.int .i64 x.num) ∧ w.cell? ⟨b, off + k * 6 + 2, none⟩ = some (.int .i64 x.last) ∧ w.cell? ⟨b, off + k * 6 + 3, none⟩ = some (.int .i64 x.day) ∧ w.cell? ⟨b, off + k * 6 + 4, none⟩ = some (.int .i64 x.st) ∧ w.cell? ⟨b, off + k * 6 + 5, none⟩ = some (.int .i64 x.itm) := by
  obtain ⟨b, off, x, hA, hb, hx, hc⟩ := h.at_ hk
  exact ⟨b, off, x, hA, hb, hx, iu_cells hc⟩
theorem iu_struct : Tryz.prog.underlying 122 = some (.struct (Tryz.prog.fieldsOf 122)) := by kernel_rfl
theorem iu_stood : Tryz.prog.stoodInHeld 122 = false := by kernel_rfl
theorem iu_eq (x y : Iu) (w : World) : (Op.equalIn 10000 122 (iuV x) (iuV y)).run Tryz.prog w = .ok (decide (x = y)) w := by
  obtain ⟨a0, a1, a2, a3, a4, a5⟩ := x
  obtain ⟨b0, b1, b2, b3, b4, b5⟩ := y
  have u3 := Tryz.underlying3
  have u4 := Tryz.underlying4
  simp only [iuV]
  rw [show (10000 : Nat) = 9999 + 1 from rfl, run_equalIn_agg w 9999 122 _ _ iu_struct iu_stood]
  simp only [Program.fieldsOf, Tryz.underlying122]
  go_simp
  by_cases h0 : a0 = b0
  case neg => simp [h0]
  by_cases h1 : a1 = b1
  case neg => simp [h0, h1]
  by_cases h2 : a2 = b2
  case neg => simp [h0, h1, h2]
  by_cases h3 : a3 = b3
  case neg => simp [h0, h1, h2, h3]
  by_cases h4 : a4 = b4
  case neg => simp [h0, h1, h2, h3, h4]
  by_cases h5 : a5 = b5
  case neg => simp [h0, h1, h2, h3, h4, h5]
  subst h0 h1 h2 h3 h4 h5
  simp
theorem iu_neq (x y : Iu) (w : World) : (binOp .neq 122 (iuV x) (iuV y)).run Tryz.prog w = .ok (.bool (!decide (x = y))) w := by
  have h := iu_eq x y w
  unfold iuV at h ⊢
  rw [run_neq_struct, h]; rfl
theorem iu_info : (Tryz.prog.info? 122).map (fun i => (i.zero, i.size, i.bytes)) = some (some (.agg #[.int .i64 0, .int .i64 0, .int .i64 0, .int .i64 0, .int .i64 0, .int .i64 0]), 6, 48) := by kernel_rfl
/-- A new row that reads as xs (nil where there is none). -/
abbrev Iuo (w : World) (B : Nat) (v : Value) (xs : List Iu) : Prop := w.ownsRow B 122 6 v xs.length (xs.flatMap iuE)
theorem Iuo_sl {w : World} {B : Nat} {v : Value} {xs : List Iu} (h : Iuo w B v xs) (hn : xs.length ≤ 140737488355328) : ∃ A c, v = .slice A xs.length c ∧ Ius w w.heap.size A xs.length c xs := by
  have h' := h
  rcases h.2 with ⟨rfl, h0⟩ | ⟨g, cap, _, rfl, _⟩
  · refine ⟨none, 0, by rw [h0], ?_⟩
    unfold Iuo at h'
    rw [h0] at h' ⊢
    exact Sl.of_own iuE_len h' h0 (by omega)
  · exact ⟨_, cap, rfl, Sl.of_own iuE_len h' rfl hn⟩
end Go.Proofs.YtbhndfphegflhaaGreat
