/- Plain laws on orders. No walk. -/
import Derived.Test.YtdbanekjjibpbaaOdH
namespace Go.Proofs.Ytdbanekjjibpbaa

theorem chkOs_ok : ∀ (xs : List Od) (p : Option Int), chkOs p xs = 0 → ∀ x ∈ xs, chkO x = 0
  | [], _, _, x, hx => by simp at hx
  | y :: r, p, h, x, hx => by
    rw [chkOs] at h
    split at h
    · simp at h
    · split at h
      · rename_i hb; rw [h] at hb; simp at hb
      · rename_i hb
        rcases List.mem_cons.1 hx with rfl | hx
        · simpa using hb
        · exact chkOs_ok r _ h x hx
theorem chkOs_gt : ∀ (xs : List Od) (q : Int), chkOs (some q) xs = 0 → ∀ x ∈ xs, q < x.id
  | [], _, _, x, hx => by simp at hx
  | y :: r, q, h, x, hx => by
    rw [chkOs] at h
    split at h
    · simp at h
    · rename_i h1
      have hy : q < y.id := by simpa using h1
      split at h
      · rename_i hb; rw [h] at hb; simp at hb
      · rcases List.mem_cons.1 hx with rfl | hx
        · exact hy
        · have := chkOs_gt r _ h x hx; omega
theorem chkOs_tail {x : Od} {r : List Od} {p : Option Int} (h : chkOs p (x :: r) = 0) : chkOs (some x.id) r = 0 := by
  rw [chkOs] at h
  split at h
  · simp at h
  · split at h
    · rename_i hb; rw [h] at hb; simp at hb
    · exact h
theorem with_set : ∀ {xs : List Od} {p : Option Int}, chkOs p xs = 0 → ∀ {i : Nat} {x y : Od}, xs[i]? = some x → y.id = x.id → withO xs y = xs.set i y
  | [], _, _, i, x, y, h, _ => by simp at h
  | z :: r, p, hc, 0, x, y, h, he => by
    simp at h; subst h
    have ht := chkOs_gt r _ (chkOs_tail hc)
    unfold withO
    rw [List.map_cons, List.set_cons_zero, if_pos (by simp [he])]
    congr 1
    conv => rhs; rw [← List.map_id r]
    refine List.map_congr_left (fun u hu => ?_)
    have := ht u hu
    rw [if_neg (by simp; omega)]; rfl
  | z :: r, p, hc, i + 1, x, y, h, he => by
    have ih := with_set (chkOs_tail hc) (i := i) (x := x) (y := y) (by simpa using h) he
    have ht := chkOs_gt r _ (chkOs_tail hc) x (List.mem_of_getElem? (i := i) (by simpa using h))
    unfold withO at ih ⊢
    rw [List.map_cons, List.set_cons_succ, ih, if_neg (by simp; omega)]

structure VldO (xs : List Od) : Prop where
  len : xs.length ≤ 64
  chk : chkOs none xs = 0
theorem VldO.of {xs : List Od} (h : rightO xs = 0) : VldO xs := by
  unfold rightO at h
  split at h
  · simp at h
  · exact ⟨by omega, h⟩
theorem VldO.right {xs : List Od} (h : VldO xs) : rightO xs = 0 := by
  unfold rightO; rw [if_neg (by have := h.len; omega)]; exact h.chk
theorem VldO.M {xs : List Od} (h : VldO xs) : ∀ x ∈ xs, OdM x := fun x hx => (chkO_M (chkOs_ok xs none h.chk x hx)).1
theorem VldO.sh {xs : List Od} (h : VldO xs) : ∀ x ∈ xs, sharesV x.sh = true := fun x hx => (chkO_M (chkOs_ok xs none h.chk x hx)).2.2.2.1
theorem VldO.wi {xs : List Od} (h : VldO xs) : ∀ (i : Nat) (x y : Od), xs[i]? = some x → y.id = x.id → withO xs y = xs.set i y := fun _ _ _ hx he => with_set h.chk hx he

/-- The same shares, where they lie. -/
def SmSh (x y : Od) : Prop := x.shA = y.shA ∧ x.shn = y.shn ∧ x.shc = y.shc ∧ x.sh = y.sh
theorem SmSh.rfl {x : Od} : SmSh x x := ⟨Eq.refl _, Eq.refl _, Eq.refl _, Eq.refl _⟩
theorem SmSh.od {x y : Od} (h : SmSh x y) {w : World} {B : Nat} (hy : OdS w B y) : OdS w B x := by
  obtain ⟨h1, h2, h3, h4⟩ := h
  unfold OdS
  rw [h1, h2, h3, h4]; exact hy
theorem set_mem {α : Type} {xs : List α} {i : Nat} {y z : α} (h : z ∈ xs.set i y) : z = y ∨ z ∈ xs := by
  rcases List.mem_or_eq_of_mem_set h with h | h
  · exact .inr h
  · exact .inl h
theorem getO_mem {xs : List Od} {id : Int} (h : atO xs id ≠ -1) : (getO xs id).1 ∈ xs := by
  rcases getO_cases xs id with ⟨h1, _⟩ | ⟨i, x, _, h2, _, h4, _⟩
  · exact absurd h1 h
  · rw [h4]; exact List.mem_of_getElem? h2
theorem opO_mem {xs : List Od} {id : Int} {er : Od → Int} {g : Od → Od} (hg : ∀ x, SmSh (g x) x) : ∀ z ∈ (opO xs id er g).2, ∃ x ∈ xs, SmSh z x := by
  unfold opO
  split
  · intro z hz; simp at hz
  · rename_i h1
    split
    · intro z hz
      rcases set_mem hz with rfl | hz
      · exact ⟨_, getO_mem h1, hg _⟩
      · exact ⟨z, hz, SmSh.rfl⟩
    · intro z hz; simp at hz
theorem receiveO_mem {xs : List Od} {id m : Int} : ∀ z ∈ (receiveO xs id m).2, ∃ x ∈ xs, SmSh z x := opO_mem (fun _ => ⟨Eq.refl _, Eq.refl _, Eq.refl _, Eq.refl _⟩)
theorem stopO_mem {xs : List Od} {id : Int} : ∀ z ∈ (stopO xs id).2, ∃ x ∈ xs, SmSh z x := opO_mem (fun _ => ⟨Eq.refl _, Eq.refl _, Eq.refl _, Eq.refl _⟩)
theorem billO_mem {xs : List Od} {b : Bl} : ∀ z ∈ (billO xs b).2, ∃ x ∈ xs, SmSh z x := opO_mem (fun _ => ⟨Eq.refl _, Eq.refl _, Eq.refl _, Eq.refl _⟩)
theorem placeO_mem {xs : List Od} {x : Od} : ∀ z ∈ (placeO xs x).2, z ∈ xs ∨ z = x := by
  unfold placeO
  split
  · split
    · intro z hz
      rcases List.mem_append.1 hz with h | h
      · exact .inl h
      · exact .inr (List.mem_singleton.1 h)
    · intro z hz; simp at hz
  · intro z hz; simp at hz

/-! ### what the changes keep -/
theorem chkO_of {x : Od} (h1 : bad1 x = false) (h2 : OdM x) (h3 : 1 ≤ x.st ∧ x.st ≤ 3) (h4 : sharesV x.sh = true) (h5 : bad4 x = false) : chkO x = 0 := by
  have b2 : bad2 x = false := by
    unfold bad2
    rw [winB_iff.2 h2.rcv, winB_iff.2 h2.bil, winB_iff.2 h2.paid]; rfl
  have b3 : bad3 x = false := by unfold bad3; rw [winB_iff.2 h3, h4]; rfl
  unfold chkO
  rw [h1, b2, b3, h5]; rfl
theorem bad4_iff {x : Od} : bad4 x = false ↔ (x.st = 2 ↔ x.bil = x.cop) := by
  unfold bad4
  have e1 : (x.st == 2) = decide (x.st = 2) := rfl
  have e2 : (x.bil == x.cop) = decide (x.bil = x.cop) := rfl
  rw [e1, e2]
  by_cases h1 : x.st = 2 <;> by_cases h2 : x.bil = x.cop <;> simp [h1, h2]
theorem rcv_ok {x : Od} {n : Int} (h : chkO x = 0) (he : rcvE n x = 0) : chkO (rcvF n x) = 0 ∧ resvO (rcvF n x) = resvO x := by
  obtain ⟨hM, b1, b3, b4, b5⟩ := chkO_M h
  have hn : 1 ≤ n ∧ x.st = 1 ∧ n ≤ x.cop - x.rcv := by
    unfold rcvE at he
    split at he
    · cases he
    · split at he
      · rename_i h1 h2; omega
      · cases he
  have hr := hM.rcv
  have hb := hM.bil
  refine ⟨chkO_of b1 ⟨hM.id, hM.cop, hM.pri, ⟨by simp only [rcvF]; omega, by simp only [rcvF]; omega⟩, ⟨hb.1, by simp only [rcvF]; omega⟩, hM.paid⟩ b3 b4 ?_, ?_⟩
  · rw [bad4_iff] at b5 ⊢; exact b5
  · unfold resvO rcvF
    rw [if_pos hn.2.1, if_pos hn.2.1]
theorem stop_ok {x : Od} (h : chkO x = 0) (he : stopE x = 0) : chkO (stopF x) = 0 ∧ resvO (stopF x) = resvO x - (x.cop - x.rcv) * x.pri := by
  obtain ⟨hM, b1, b3, b4, b5⟩ := chkO_M h
  have hn : x.st = 1 := by
    unfold stopE at he
    split at he
    · assumption
    · cases he
  refine ⟨chkO_of b1 ⟨hM.id, hM.cop, hM.pri, hM.rcv, hM.bil, hM.paid⟩ ⟨by simp only [stopF]; omega, by simp only [stopF]; omega⟩ b4 ?_, ?_⟩
  · rw [bad4_iff] at b5 ⊢
    simp only [stopF]
    constructor
    · intro h; omega
    · intro h; have := b5.2 h; omega
  · unfold resvO stopF
    rw [if_pos hn]
    simp only
    rw [if_neg (by omega), if_pos trivial, ← Int.sub_mul]
    congr 1; omega
theorem billE_ok {b : Bl} {x : Od} (he : billE b x = 0) : x.ven = b.ven ∧ (1 ≤ b.cop ∧ b.cop ≤ x.rcv - x.bil) ∧ (1 ≤ b.amt ∧ x.paid + b.amt ≤ 100000000) := by
  unfold billE at he
  split at he
  · split at he
    · split at he
      · split at he
        · rename_i h1 h2 h3 h4; exact ⟨h1, ⟨h2.2.1, h3⟩, h2.2.2.1, h4⟩
        · cases he
      · cases he
    · cases he
  · cases he
theorem bill_ok {b : Bl} {x : Od} (h : chkO x = 0) (he : billE b x = 0) : chkO (billF b x) = 0 ∧ resvO (billF b x) = resvO x - b.cop * x.pri := by
  obtain ⟨hM, b1, b3, b4, b5⟩ := chkO_M h
  obtain ⟨_, ⟨c1, c2⟩, a1, a2⟩ := billE_ok he
  have hr := hM.rcv
  have hb := hM.bil
  have hp := hM.paid
  rw [bad4_iff] at b5
  have hne : ¬ x.bil = x.cop := by omega
  have hs2 : ¬ x.st = 2 := fun h => hne (b5.1 h)
  by_cases hc : x.bil + b.cop = x.cop
  · have e : billF b x = { x with bil := x.bil + b.cop, paid := x.paid + b.amt, st := 2 } := by unfold billF; rw [if_pos hc]
    rw [e]
    refine ⟨chkO_of b1 ⟨hM.id, hM.cop, hM.pri, hM.rcv, ⟨by simp only; omega, by simp only; omega⟩, ⟨by simp only; omega, by simp only; omega⟩⟩ ⟨by simp only; omega, by simp only; omega⟩ b4 (by rw [bad4_iff]; simp [hc]), ?_⟩
    unfold resvO
    simp only
    rw [if_neg (by omega), if_neg (by omega)]
    by_cases h1 : x.st = 1
    · rw [if_pos h1, ← Int.sub_mul, show x.cop - x.bil - b.cop = 0 by omega]; simp
    · rw [if_neg h1, if_pos (by omega), ← Int.sub_mul, show x.rcv - x.bil - b.cop = 0 by omega]; simp
  · have e : billF b x = { x with bil := x.bil + b.cop, paid := x.paid + b.amt } := by unfold billF; rw [if_neg hc]
    rw [e]
    refine ⟨chkO_of b1 ⟨hM.id, hM.cop, hM.pri, hM.rcv, ⟨by simp only; omega, by simp only; omega⟩, ⟨by simp only; omega, by simp only; omega⟩⟩ b3 b4 (by rw [bad4_iff]; simp only; exact ⟨fun h => absurd h hs2, fun h => absurd h hc⟩), ?_⟩
    unfold resvO
    simp only
    by_cases h1 : x.st = 1
    · rw [if_pos h1, if_pos h1, ← Int.sub_mul]; congr 1; omega
    · rw [if_neg h1, if_neg h1, if_pos (by omega), if_pos (by omega), ← Int.sub_mul]; congr 1; omega
theorem chkOs_set : ∀ {xs : List Od} {p : Option Int} {i : Nat} {x y : Od}, xs[i]? = some x → y.id = x.id → chkO y = 0 → chkOs p xs = 0 → chkOs p (xs.set i y) = 0
  | [], _, _, _, _, h, _, _, _ => by simp at h
  | z :: r, p, 0, x, y, h, he, hb, hc => by
    simp at h; subst h
    have ht := chkOs_tail hc
    rw [chkOs] at hc
    rw [List.set_cons_zero, chkOs, he]
    split at hc
    · simp at hc
    · rename_i h1
      rw [if_neg h1, if_neg (by rw [hb]; decide)]
      exact ht
  | z :: r, p, i + 1, x, y, h, he, hb, hc => by
    have ht := chkOs_tail hc
    rw [chkOs] at hc
    rw [List.set_cons_succ, chkOs]
    split at hc
    · simp at hc
    · rename_i h1
      rw [if_neg h1]
      split at hc
      · rename_i h2; rw [hc] at h2; simp at h2
      · rename_i h2
        rw [if_neg h2]
        exact chkOs_set (by simpa using h) he hb ht
theorem take_set_selfO {α : Type} : ∀ (xs : List α) (i : Nat) (y : α), (xs.set i y).take i = xs.take i
  | [], _, _ => rfl
  | _ :: _, 0, _ => rfl
  | x :: r, i + 1, y => by rw [List.set_cons_succ, List.take_succ_cons, List.take_succ_cons, take_set_selfO r i y]
theorem getO_at {xs : List Od} {id : Int} {i : Nat} {x : Od} (h : xs[i]? = some x) (hp : x.id = id) (ha : ∀ y ∈ xs.take i, (y.id == id) = false) : getO xs id = (x, true) := by
  have : xs.find? (fun x : Od => x.id == id) = some x := by
    obtain ⟨hi, rfl⟩ := List.getElem?_eq_some_iff.1 h
    rw [List.find?_eq_some_iff_append]
    exact ⟨by simpa using hp, xs.take i, xs.drop (i + 1), by rw [← List.drop_eq_getElem_cons hi, List.take_append_drop], fun y hy => by rw [ha y hy]; rfl⟩
  unfold getO; rw [this]
/-- What an operation does to valid orders. -/
theorem opO_cases {xs : List Od} (hv : VldO xs) (id : Int) {er : Od → Int} {g : Od → Od} (hid : ∀ x, (g x).id = x.id) (hk : ∀ x, chkO x = 0 → er x = 0 → chkO (g x) = 0) :
    ((opO xs id er g).1 ≠ 0 ∧ (opO xs id er g).2 = []) ∨
    ∃ x : Od, er x = 0 ∧ chkO x = 0 ∧ (opO xs id er g).1 = 0 ∧ getO xs id = (x, true) ∧ getO (opO xs id er g).2 id = (g x, true) ∧ rightO (opO xs id er g).2 = 0 ∧ (opO xs id er g).2.length = xs.length ∧ g x ∈ (opO xs id er g).2 := by
  rcases getO_cases xs id with ⟨h1, _⟩ | ⟨i, x, h1, h2, h3, h4, h5⟩
  · left; rw [opO_none h1]; simp
  · rw [opO_some h1 h4]
    by_cases he : er x = 0
    · right
      have hx := chkOs_ok xs none hv.chk x (List.mem_of_getElem? h2)
      have hi : i < xs.length := (List.getElem?_eq_some_iff.1 h2).1
      have hg : (xs.set i (g x))[i]? = some (g x) := by rw [List.getElem?_set, if_pos rfl, if_pos hi]
      rw [if_pos he]
      refine ⟨x, he, hx, rfl, h4, ?_, ?_, List.length_set, List.mem_of_getElem? hg⟩
      · exact getO_at hg (by rw [hid, h3]) (by rw [take_set_selfO]; exact h5)
      · exact VldO.right ⟨by rw [List.length_set]; exact hv.len, chkOs_set h2 (hid x) (hk x hx he) hv.chk⟩
    · left; rw [if_neg he]; exact ⟨he, rfl⟩
end Go.Proofs.Ytdbanekjjibpbaa
