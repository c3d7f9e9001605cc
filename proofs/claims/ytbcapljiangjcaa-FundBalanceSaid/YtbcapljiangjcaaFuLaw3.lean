/- Plain laws on funds: lists that differ in amounts only are valid together. No walk. -/
import Derived.Test.YtbcapljiangjcaaFuLaw
import Derived.Test.YtbcapljiangjcaaFuS
namespace Go.Proofs.Ytbcapljiangjcaa

def keys (xs : List Fu) : List (Int × Int) := xs.map (fun x => (x.id, x.parent))
theorem getF_cons (x : Fu) (r : List Fu) (id : Int) : getF (x :: r) id = if x.id = id then (x, true) else getF r id := by
  unfold getF
  rw [List.find?_cons]
  by_cases h : x.id = id
  · rw [if_pos h]
    have : (x.id == id) = true := by simpa using h
    rw [this]
  · rw [if_neg h]
    have : (x.id == id) = false := by simpa using h
    rw [this]
theorem getF_keys : ∀ {xs ys : List Fu}, keys xs = keys ys → ∀ id, (getF xs id).2 = (getF ys id).2 ∧ (getF xs id).1.parent = (getF ys id).1.parent
  | [], [], _, _ => ⟨rfl, rfl⟩
  | [], _ :: _, h, _ => by simp [keys] at h
  | _ :: _, [], h, _ => by simp [keys] at h
  | x :: r, y :: s, h, id => by
    simp only [keys, List.map_cons, List.cons.injEq, Prod.mk.injEq] at h
    obtain ⟨⟨h1, h2⟩, h3⟩ := h
    rw [getF_cons, getF_cons, h1]
    by_cases e : y.id = id
    · rw [if_pos e, if_pos e]; exact ⟨rfl, h2⟩
    · rw [if_neg e, if_neg e]; exact getF_keys h3 id
theorem keys_len {xs ys : List Fu} (h : keys xs = keys ys) : xs.length = ys.length := by
  have := congrArg List.length h
  simpa [keys] using this
theorem wiR_keys {xs ys : List Fu} (h : keys xs = keys ys) (top : Int) : ∀ (f : Nat) (id : Int), wiR xs f id top = wiR ys f id top
  | 0, _ => rfl
  | f + 1, id => by
    obtain ⟨h1, h2⟩ := getF_keys h id
    rw [wiR, wiR, h1, h2, wiR_keys h top f]
theorem atF_neg {xs : List Fu} {id : Int} : (atF xs id < 0) ↔ (getF xs id).2 = false := by
  rcases getF_at (xs := xs) (id := id) with ⟨h1, h2⟩ | ⟨i, x, h1, _, _, h4⟩
  · rw [h1, h2]; simp
  · rw [h1, h4]; simp
theorem noneF_keys {xs ys : List Fu} (h : keys xs = keys ys) : noneF xs = noneF ys := by
  have e : ∀ zs : List Fu, (zs.any fun f => decide (f.parent ≠ 0) && decide (atF zs f.parent < 0)) = (keys zs).any (fun k => decide (k.2 ≠ 0) && decide (atF zs k.2 < 0)) := fun zs => by
    unfold keys; rw [List.any_map]; rfl
  unfold noneF
  rw [e, e, h]
  congr 1
  funext k
  congr 1
  rw [Bool.eq_iff_iff]
  simp only [decide_eq_true_eq]
  rw [atF_neg, atF_neg, (getF_keys h k.2).1]
theorem cycR_keys {xs ys : List Fu} (h : keys xs = keys ys) : cycR xs = cycR ys := by
  have e : ∀ zs : List Fu, (zs.any fun f => decide (f.parent ≠ 0) && wiR zs (zs.length + 1) f.parent f.id) = (keys zs).any (fun k => decide (k.2 ≠ 0) && wiR zs (zs.length + 1) k.2 k.1) := fun zs => by
    unfold keys; rw [List.any_map]; rfl
  unfold cycR
  rw [e, e, h, keys_len h]
  congr 1
  funext k
  rw [wiR_keys h]
theorem badF_of {x : Fu} (h1 : 1 ≤ x.id ∧ x.id ≤ 9999) (h2 : 0 ≤ x.parent ∧ x.parent ≤ 9999) (h3 : FuM x) : badF x = false := by
  have hb := h3.b
  have he := h3.e
  have hs := h3.s
  simp only [badF, mny, Bool.or_eq_false_iff, decide_eq_false_iff_not, Bool.not_eq_false', Bool.and_eq_true, decide_eq_true_eq]
  omega
theorem chkA_keys : ∀ {xs ys : List Fu} (p : Option Int), keys xs = keys ys → (∀ y ∈ ys, badF y = false) → chkA p xs = 0 → chkA p ys = 0
  | [], [], _, _, _, _ => rfl
  | [], _ :: _, _, h, _, _ => by simp [keys] at h
  | _ :: _, [], _, h, _, _ => by simp [keys] at h
  | x :: r, y :: s, p, h, hb, hc => by
    simp only [keys, List.map_cons, List.cons.injEq, Prod.mk.injEq] at h
    obtain ⟨⟨h1, h2⟩, h3⟩ := h
    rw [chkA] at hc ⊢
    split at hc
    · simp at hc
    · rename_i hp
      split at hc
      · simp at hc
      · rw [h1] at hp hc
        rw [if_neg hp, if_neg (by rw [hb y (by simp)]; decide)]
        exact chkA_keys (some y.id) h3 (fun z hz => hb z (by simp [hz])) hc
theorem bad_keys {xs ys : List Fu} (h : keys xs = keys ys) (hx : ∀ x ∈ xs, badF x = false) (hm : ∀ y ∈ ys, FuM y) : ∀ y ∈ ys, badF y = false := by
  intro y hy
  have : (y.id, y.parent) ∈ keys xs := by rw [h]; exact List.mem_map.2 ⟨y, hy, rfl⟩
  obtain ⟨x, hxm, he⟩ := List.mem_map.1 this
  obtain ⟨e1, e2⟩ := Prod.mk.inj he
  obtain ⟨b1, b2, _⟩ := badF_ok (hx x hxm)
  exact badF_of (by rw [← e1]; exact b1) (by rw [← e2]; exact b2) (hm y hy)
/-- Where only amounts differ, and these are amounts of which none exceeds its budget, the funds are valid too. -/
theorem right_keys {xs ys : List Fu} (hv : Vld xs) (h : keys xs = keys ys) (hm : ∀ y ∈ ys, FuM y) (ho : ∀ y ∈ ys, y.enc + y.spent ≤ y.budget) : rightR ys = 0 := by
  have hb := bad_keys h hv.ok hm
  unfold rightR
  rw [if_neg (by rw [← keys_len h]; have := hv.len; omega), if_neg (by rw [chkA_keys none h hb hv.chk]; simp), if_neg (by rw [← noneF_keys h, hv.par]; simp), if_neg (by rw [← cycR_keys h, hv.cyc]; simp), if_neg ?_]
  unfold overF
  intro hov
  obtain ⟨y, hy, he⟩ := List.any_eq_true.1 hov
  have := ho y hy
  have he' : y.budget < y.enc + y.spent := by simpa using he
  omega

theorem Vld.free {xs : List Fu} (h : Vld xs) : ∀ x ∈ xs, x.enc + x.spent ≤ x.budget := by
  intro x hx
  have ho := h.ovr
  unfold overF at ho
  rw [List.any_eq_false] at ho
  have := ho x hx
  simp at this
  omega

/-! ### Close -/
theorem keys_cls (keep : Bool) (xs : List Fu) : keys xs = keys (xs.map (clsF keep)) := by
  unfold keys
  rw [List.map_map]
  refine List.map_congr_left (fun x _ => ?_)
  simp only [Function.comp, clsF]
  split <;> rfl
theorem cls_M {keep : Bool} {x : Fu} (hm : FuM x) (ho : x.enc + x.spent ≤ x.budget) : FuM (clsF keep x) ∧ (clsF keep x).enc + (clsF keep x).spent ≤ (clsF keep x).budget ∧ freeF (clsF keep x) = if keep = true then freeF x else 0 := by
  have hb := hm.b
  have he := hm.e
  have hs := hm.s
  cases keep with
  | true => exact ⟨⟨by simp only [clsF]; simp; omega, by simp only [clsF]; simp; omega, by simp [clsF]⟩, by simp [clsF]; omega, by simp [clsF, freeF]; omega⟩
  | false => exact ⟨⟨by simp only [clsF]; simp; omega, by simp only [clsF]; simp; omega, by simp [clsF]⟩, by simp [clsF], by simp [clsF, freeF]⟩
theorem right_cls {xs : List Fu} (hv : Vld xs) (keep : Bool) : rightP (xs.map (clsF keep)) = 0 := by
  rw [right_eq]
  refine right_keys hv (keys_cls keep xs) ?_ ?_
  · intro y hy
    obtain ⟨x, hx, rfl⟩ := List.mem_map.1 hy
    exact (cls_M (hv.M x hx) (hv.free x hx)).1
  · intro y hy
    obtain ⟨x, hx, rfl⟩ := List.mem_map.1 hy
    exact (cls_M (hv.M x hx) (hv.free x hx)).2.1
theorem cls_id (keep : Bool) (x : Fu) : (clsF keep x).id = x.id := by unfold clsF; split <;> rfl
theorem getF_cls (keep : Bool) : ∀ (xs : List Fu) (id : Int), (getF xs id).2 = true → (getF (xs.map (clsF keep)) id).1 = clsF keep (getF xs id).1
  | [], _, h => by simp [getF] at h
  | x :: r, id, h => by
    rw [List.map_cons, getF_cons, getF_cons, cls_id]
    rw [getF_cons] at h
    by_cases e : x.id = id
    · rw [if_pos e, if_pos e]
    · rw [if_neg e] at h ⊢
      rw [if_neg e]
      exact getF_cls keep r id h
theorem free_cls {xs : List Fu} (hv : Vld xs) (keep : Bool) {x : Fu} (hx : x ∈ xs) : freeF (getF (xs.map (clsF keep)) x.id).1 = if keep = true then freeF (getF xs x.id).1 else 0 := by
  have hg := getF_mem (Tid.of hv.chk).dif hx
  rw [getF_cls keep xs x.id (by rw [hg]), hg]
  exact (cls_M (hv.M x hx) (hv.free x hx)).2.2
end Go.Proofs.Ytbcapljiangjcaa
