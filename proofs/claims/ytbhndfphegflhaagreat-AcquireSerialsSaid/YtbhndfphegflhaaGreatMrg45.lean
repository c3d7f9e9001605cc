/- Texts laid together by merge.py: FuLaw2, FuLaw3, FuLaw4, AqY, AqYK, AqKp. -/
import Derived.Test.YtbhndfphegflhaaGreatMrg3
import Derived.Test.YtbhndfphegflhaaGreatMrg13
import Derived.Test.YtbhndfphegflhaaGreatMrg2
import Derived.Test.YtbhndfphegflhaaGreatMrg41
import Derived.Test.YtbhndfphegflhaaGreatMrg18
set_option linter.unusedSimpArgs false
set_option linter.unusedVariables false
/- Plain laws on funds: totals. No walk. -/
namespace Go.Proofs.YtbhndfphegflhaaGreat

/-! ### the total of a fund and those of the funds directly below it -/
def sm (f : Fu → Int) (xs : List Fu) : Int := (xs.map f).sum
end Go.Proofs.YtbhndfphegflhaaGreat

/- Plain laws on funds: lists that differ in amounts only are valid together. No walk. -/
namespace Go.Proofs.YtbhndfphegflhaaGreat

def keys (xs : List Fu) : List (Int × Int) := xs.map (fun x => (x.id, x.parent))
theorem getF_cons (x : Fu) (r : List Fu) (id : Int) : getF (x :: r) id = if x.id = id then (x, true) else getF r id := by
  unfold getF
  rw [List.find?_cons]
  by_cases h : x.id = id
  · rw [if_pos h]
    have : (x.id == id) = true := by simpa using h
    rw [this]
  · rw [if_neg h]
    have : (x.id == id) = false := by simpa using h
    rw [this]
theorem getF_keys : ∀ {xs ys : List Fu}, keys xs = keys ys → ∀ id, (getF xs id).2 = (getF ys id).2 ∧ (getF xs id).1.parent = (getF ys id).1.parent
  | [], [], _, _ => ⟨rfl, rfl⟩
  | [], _ :: _, h, _ => by simp [keys] at h
  | _ :: _, [], h, _ => by simp [keys] at h
  | x :: r, y :: s, h, id => by
    simp only [keys, List.map_cons, List.cons.injEq, Prod.mk.injEq] at h
    obtain ⟨⟨h1, h2⟩, h3⟩ := h
    rw [getF_cons, getF_cons, h1]
    by_cases e : y.id = id
    · rw [if_pos e, if_pos e]; exact ⟨rfl, h2⟩
    · rw [if_neg e, if_neg e]; exact getF_keys h3 id
theorem keys_len {xs ys : List Fu} (h : keys xs = keys ys) : xs.length = ys.length := by
  have := congrArg List.length h
  simpa [keys] using this
theorem wiR_keys {xs ys : List Fu} (h : keys xs = keys ys) (top : Int) : ∀ (f : Nat) (id : Int), wiR xs f id top = wiR ys f id top
  | 0, _ => rfl
  | f + 1, id => by
    obtain ⟨h1, h2⟩ := getF_keys h id
    rw [wiR, wiR, h1, h2, wiR_keys h top f]
theorem atF_neg {xs : List Fu} {id : Int} : (atF xs id < 0) ↔ (getF xs id).2 = false := by
  rcases getF_at (xs := xs) (id := id) with ⟨h1, h2⟩ | ⟨i, x, h1, _, _, h4⟩
  · rw [h1, h2]; simp
  · rw [h1, h4]; simp
theorem noneF_keys {xs ys : List Fu} (h : keys xs = keys ys) : noneF xs = noneF ys := by
  have e : ∀ zs : List Fu, (zs.any fun f => decide (f.parent ≠ 0) && decide (atF zs f.parent < 0)) = (keys zs).any (fun k => decide (k.2 ≠ 0) && decide (atF zs k.2 < 0)) := fun zs => by
    unfold keys; rw [List.any_map]; rfl
  unfold noneF
  rw [e, e, h]
  congr 1
  funext k
  congr 1
  rw [Bool.eq_iff_iff]
  simp only [decide_eq_true_eq]
  rw [atF_neg, atF_neg, (getF_keys h k.2).1]
theorem cycR_keys {xs ys : List Fu} (h : keys xs = keys ys) : cycR xs = cycR ys := by
  have e : ∀ zs : List Fu, (zs.any fun f => decide (f.parent ≠ 0) && wiR zs (zs.length + 1) f.parent f.id) = (keys zs).any (fun k => decide (k.2 ≠ 0) && wiR zs (zs.length + 1) k.2 k.1) := fun zs => by
    unfold keys; rw [List.any_map]; rfl
  unfold cycR
  rw [e, e, h, keys_len h]
  congr 1
  funext k
  rw [wiR_keys h]
theorem badF_of {x : Fu} (h1 : 1 ≤ x.id ∧ x.id ≤ 9999) (h2 : 0 ≤ x.parent ∧ x.parent ≤ 9999) (h3 : FuM x) : badF x = false := by
  have hb := h3.b
  have he := h3.e
  have hs := h3.s
  simp only [badF, mny, Bool.or_eq_false_iff, decide_eq_false_iff_not, Bool.not_eq_false', Bool.and_eq_true, decide_eq_true_eq]
  omega
theorem chkA_keys : ∀ {xs ys : List Fu} (p : Option Int), keys xs = keys ys → (∀ y ∈ ys, badF y = false) → chkA p xs = 0 → chkA p ys = 0
  | [], [], _, _, _, _ => rfl
  | [], _ :: _, _, h, _, _ => by simp [keys] at h
  | _ :: _, [], _, h, _, _ => by simp [keys] at h
  | x :: r, y :: s, p, h, hb, hc => by
    simp only [keys, List.map_cons, List.cons.injEq, Prod.mk.injEq] at h
    obtain ⟨⟨h1, h2⟩, h3⟩ := h
    rw [chkA] at hc ⊢
    split at hc
    · simp at hc
    · rename_i hp
      split at hc
      · simp at hc
      · rw [h1] at hp hc
        rw [if_neg hp, if_neg (by rw [hb y (by simp)]; decide)]
        exact chkA_keys (some y.id) h3 (fun z hz => hb z (by simp [hz])) hc
theorem bad_keys {xs ys : List Fu} (h : keys xs = keys ys) (hx : ∀ x ∈ xs, badF x = false) (hm : ∀ y ∈ ys, FuM y) : ∀ y ∈ ys, badF y = false := by
  intro y hy
  have : (y.id, y.parent) ∈ keys xs := by rw [h]; exact List.mem_map.2 ⟨y, hy, rfl⟩
  obtain ⟨x, hxm, he⟩ := List.mem_map.1 this
  obtain ⟨e1, e2⟩ := Prod.mk.inj he
  obtain ⟨b1, b2, _⟩ := badF_ok (hx x hxm)
  exact badF_of (by rw [← e1]; exact b1) (by rw [← e2]; exact b2) (hm y hy)
/-- Where only amounts differ, and these are amounts of which none exceeds its budget, the funds are valid too. -/
theorem right_keys {xs ys : List Fu} (hv : Vld xs) (h : keys xs = keys ys) (hm : ∀ y ∈ ys, FuM y) (ho : ∀ y ∈ ys, y.enc + y.spent ≤ y.budget) : rightR ys = 0 := by
  have hb := bad_keys h hv.ok hm
  unfold rightR
  rw [if_neg (by rw [← keys_len h]; have := hv.len; omega), if_neg (by rw [chkA_keys none h hb hv.chk]; simp), if_neg (by rw [← noneF_keys h, hv.par]; simp), if_neg (by rw [← cycR_keys h, hv.cyc]; simp), if_neg ?_]
  unfold overF
  intro hov
  obtain ⟨y, hy, he⟩ := List.any_eq_true.1 hov
  have := ho y hy
  have he' : y.budget < y.enc + y.spent := by simpa using he
  omega

theorem Vld.free {xs : List Fu} (h : Vld xs) : ∀ x ∈ xs, x.enc + x.spent ≤ x.budget := by
  intro x hx
  have ho := h.ovr
  unfold overF at ho
  rw [List.any_eq_false] at ho
  have := ho x hx
  simp at this
  omega

/-! ### Close -/
end Go.Proofs.YtbhndfphegflhaaGreat

/- Plain laws on funds: what transfers, reserving, giving free and spending leave. No walk. -/
namespace Go.Proofs.YtbhndfphegflhaaGreat

theorem Vld.right {xs : List Fu} (h : Vld xs) : rightP xs = 0 := by
  rw [right_eq]
  exact right_keys h rfl h.M h.free

end Go.Proofs.YtbhndfphegflhaaGreat

/- Plain laws on states: what an order and a bill change in the totals. No walk. -/
namespace Go.Proofs.YtbhndfphegflhaaGreat

/-! ### shares -/
/-! ### one fund changed -/
/-! ### an order -/
/-! ### a change of one order that the funds follow -/
end Go.Proofs.YtbhndfphegflhaaGreat

/- Plain laws on states: a valid state stays valid. No walk. -/
namespace Go.Proofs.YtbhndfphegflhaaGreat

/-! ### what the orders reserve -/
/-! ### orders by their IDs -/
/-! ### bills -/
/-! ### the parts of a valid state -/
structure OkP (a : Pa) : Prop where
  yr : 1900 ≤ a.yr ∧ a.yr ≤ 2199
  nx : 1 ≤ a.nx ∧ a.nx ≤ 10000
  f : Vld a.f
  o : VldO a.o
  oo : ∀ o ∈ a.o, o.id < a.nx ∧ ∀ s ∈ o.sh, (getF a.f s.fund).2 = true
  ff : ∀ f ∈ a.f, f.enc = rsvA a.o f.id
  sl : a.s.length ≤ 16
  ss : okSes none a.s = true
  bl : a.b.length ≤ 128
  bb : okBls a.o [] a.b = true
  ob : ∀ o ∈ a.o, sumB (·.cop) a.b o.id = o.bil ∧ sumB (·.amt) a.b o.id = o.paid
theorem rightR_of {xs : List Fu} (h : Vld xs) : rightR xs = 0 := right_keys h rfl h.M h.free
theorem okP_iff {a : Pa} : okA a = true ↔ OkP a := by
  constructor
  · intro h
    unfold okA ok1 ok2 okBills at h
    simp only [Bool.and_eq_true, beq_iff_eq, decide_eq_true_eq, List.all_eq_true] at h
    obtain ⟨⟨⟨⟨⟨⟨⟨h1, h2⟩, h3⟩, h4⟩, h5, h6⟩, h7⟩, h8⟩, ⟨h9, h10⟩, h11⟩ := h
    refine ⟨winB_iff.1 h1, winB_iff.1 h2, vld_of h3, VldO.of h4, fun o ho => ?_, fun f hf => ?_, h7, h8, h9, h10, fun o ho => ?_⟩
    · have h := h5 o ho
      unfold okO at h
      rw [Bool.and_eq_true, decide_eq_true_eq, List.all_eq_true] at h
      exact ⟨h.1, fun s hs => h.2 s hs⟩
    · have h := h6 f hf
      unfold okF at h
      simpa using h
    · have h := h11 o ho
      unfold okOB at h
      simpa using h
  · intro h
    unfold okA ok1 ok2 okBills
    simp only [Bool.and_eq_true, beq_iff_eq, decide_eq_true_eq, List.all_eq_true]
    refine ⟨⟨⟨⟨⟨⟨⟨winB_iff.2 h.yr, winB_iff.2 h.nx⟩, rightR_of h.f⟩, h.o.right⟩, fun o ho => ?_, fun f hf => ?_⟩, h.sl⟩, h.ss⟩, ⟨h.bl, h.bb⟩, fun o ho => ?_⟩
    · unfold okO
      rw [Bool.and_eq_true, decide_eq_true_eq, List.all_eq_true]
      exact ⟨(h.oo o ho).1, fun s hs => (h.oo o ho).2 s hs⟩
    · unfold okF
      simpa using h.ff f hf
    · unfold okOB
      simpa using h.ob o ho

/-! ### an order -/
/-! ### a change of one order that the funds follow -/
/-! ### a bill -/
/-! ### budgets, the next year -/
end Go.Proofs.YtbhndfphegflhaaGreat

/- Plain part of AcquireKeeps: an operation on a state. -/
namespace Go.Proofs.YtbhndfphegflhaaGreat
open Go.RowKit

end Go.Proofs.YtbhndfphegflhaaGreat
