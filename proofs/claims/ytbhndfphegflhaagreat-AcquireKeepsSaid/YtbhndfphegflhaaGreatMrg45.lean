/- Texts laid together by merge.py: FuLaw2, FuLaw3, FuLaw4, AqY, AqYK, AqKp. -/
import Derived.Test.YtbhndfphegflhaaGreatMrg3
import Derived.Test.YtbhndfphegflhaaGreatMrg13
import Derived.Test.YtbhndfphegflhaaGreatMrg2
import Derived.Test.YtbhndfphegflhaaGreatMrg41
import Derived.Test.YtbhndfphegflhaaGreatMrg18
set_option linter.unusedSimpArgs false
set_option linter.unusedVariables false
/- Plain laws on funds: totals. No walk. -/
namespace Go.Proofs.YtbhndfphegflhaaGreat

/-! ### the total of a fund and those of the funds directly below it -/
def sm (f : Fu → Int) (xs : List Fu) : Int := (xs.map f).sum
theorem sm_cons (f : Fu → Int) (x : Fu) (r : List Fu) : sm f (x :: r) = f x + sm f r := by simp [sm]
end Go.Proofs.YtbhndfphegflhaaGreat

/- Plain laws on funds: lists that differ in amounts only are valid together. No walk. -/
namespace Go.Proofs.YtbhndfphegflhaaGreat

def keys (xs : List Fu) : List (Int × Int) := xs.map (fun x => (x.id, x.parent))
theorem getF_cons (x : Fu) (r : List Fu) (id : Int) : getF (x :: r) id = if x.id = id then (x, true) else getF r id := by
  unfold getF
  rw [List.find?_cons]
  by_cases h : x.id = id
  · rw [if_pos h]
    have : (x.id == id) = true := by simpa using h
    rw [this]
  · rw [if_neg h]
    have : (x.id == id) = false := by simpa using h
    rw [this]
theorem getF_keys : ∀ {xs ys : List Fu}, keys xs = keys ys → ∀ id, (getF xs id).2 = (getF ys id).2 ∧ (getF xs id).1.parent = (getF ys id).1.parent
  | [], [], _, _ => ⟨rfl, rfl⟩
  | [], _ :: _, h, _ => by simp [keys] at h
  | _ :: _, [], h, _ => by simp [keys] at h
  | x :: r, y :: s, h, id => by
    simp only [keys, List.map_cons, List.cons.injEq, Prod.mk.injEq] at h
    obtain ⟨⟨h1, h2⟩, h3⟩ := h
    rw [getF_cons, getF_cons, h1]
    by_cases e : y.id = id
    · rw [if_pos e, if_pos e]; exact ⟨rfl, h2⟩
    · rw [if_neg e, if_neg e]; exact getF_keys h3 id
theorem keys_len {xs ys : List Fu} (h : keys xs = keys ys) : xs.length = ys.length := by
  have := congrArg List.length h
  simpa [keys] using this
theorem wiR_keys {xs ys : List Fu} (h : keys xs = keys ys) (top : Int) : ∀ (f : Nat) (id : Int), wiR xs f id top = wiR ys f id top
  | 0, _ => rfl
  | f + 1, id => by
    obtain ⟨h1, h2⟩ := getF_keys h id
    rw [wiR, wiR, h1, h2, wiR_keys h top f]
theorem atF_neg {xs : List Fu} {id : Int} : (atF xs id < 0) ↔ (getF xs id).2 = false := by
  rcases getF_at (xs := xs) (id := id) with ⟨h1, h2⟩ | ⟨i, x, h1, _, _, h4⟩
  · rw [h1, h2]; simp
  · rw [h1, h4]; simp
theorem noneF_keys {xs ys : List Fu} (h : keys xs = keys ys) : noneF xs = noneF ys := by
  have e : ∀ zs : List Fu, (zs.any fun f => decide (f.parent ≠ 0) && decide (atF zs f.parent < 0)) = (keys zs).any (fun k => decide (k.2 ≠ 0) && decide (atF zs k.2 < 0)) := fun zs => by
    unfold keys; rw [List.any_map]; rfl
  unfold noneF
  rw [e, e, h]
  congr 1
  funext k
  congr 1
  rw [Bool.eq_iff_iff]
  simp only [decide_eq_true_eq]
  rw [atF_neg, atF_neg, (getF_keys h k.2).1]
theorem cycR_keys {xs ys : List Fu} (h : keys xs = keys ys) : cycR xs = cycR ys := by
  have e : ∀ zs : List Fu, (zs.any fun f => decide (f.parent ≠ 0) && wiR zs (zs.length + 1) f.parent f.id) = (keys zs).any (fun k => decide (k.2 ≠ 0) && wiR zs (zs.length + 1) k.2 k.1) := fun zs => by
    unfold keys; rw [List.any_map]; rfl
  unfold cycR
  rw [e, e, h, keys_len h]
  congr 1
  funext k
  rw [wiR_keys h]
theorem badF_of {x : Fu} (h1 : 1 ≤ x.id ∧ x.id ≤ 9999) (h2 : 0 ≤ x.parent ∧ x.parent ≤ 9999) (h3 : FuM x) : badF x = false := by
  have hb := h3.b
  have he := h3.e
  have hs := h3.s
  simp only [badF, mny, Bool.or_eq_false_iff, decide_eq_false_iff_not, Bool.not_eq_false', Bool.and_eq_true, decide_eq_true_eq]
  omega
theorem chkA_keys : ∀ {xs ys : List Fu} (p : Option Int), keys xs = keys ys → (∀ y ∈ ys, badF y = false) → chkA p xs = 0 → chkA p ys = 0
  | [], [], _, _, _, _ => rfl
  | [], _ :: _, _, h, _, _ => by simp [keys] at h
  | _ :: _, [], _, h, _, _ => by simp [keys] at h
  | x :: r, y :: s, p, h, hb, hc => by
    simp only [keys, List.map_cons, List.cons.injEq, Prod.mk.injEq] at h
    obtain ⟨⟨h1, h2⟩, h3⟩ := h
    rw [chkA] at hc ⊢
    split at hc
    · simp at hc
    · rename_i hp
      split at hc
      · simp at hc
      · rw [h1] at hp hc
        rw [if_neg hp, if_neg (by rw [hb y (by simp)]; decide)]
        exact chkA_keys (some y.id) h3 (fun z hz => hb z (by simp [hz])) hc
theorem bad_keys {xs ys : List Fu} (h : keys xs = keys ys) (hx : ∀ x ∈ xs, badF x = false) (hm : ∀ y ∈ ys, FuM y) : ∀ y ∈ ys, badF y = false := by
  intro y hy
  have : (y.id, y.parent) ∈ keys xs := by rw [h]; exact List.mem_map.2 ⟨y, hy, rfl⟩
  obtain ⟨x, hxm, he⟩ := List.mem_map.1 this
  obtain ⟨e1, e2⟩ := Prod.mk.inj he
  obtain ⟨b1, b2, _⟩ := badF_ok (hx x hxm)
  exact badF_of (by rw [← e1]; exact b1) (by rw [← e2]; exact b2) (hm y hy)
/-- Where only amounts differ, and these are amounts of which none exceeds its budget, the funds are valid too. -/
theorem right_keys {xs ys : List Fu} (hv : Vld xs) (h : keys xs = keys ys) (hm : ∀ y ∈ ys, FuM y) (ho : ∀ y ∈ ys, y.enc + y.spent ≤ y.budget) : rightR ys = 0 := by
  have hb := bad_keys h hv.ok hm
  unfold rightR
  rw [if_neg (by rw [← keys_len h]; have := hv.len; omega), if_neg (by rw [chkA_keys none h hb hv.chk]; simp), if_neg (by rw [← noneF_keys h, hv.par]; simp), if_neg (by rw [← cycR_keys h, hv.cyc]; simp), if_neg ?_]
  unfold overF
  intro hov
  obtain ⟨y, hy, he⟩ := List.any_eq_true.1 hov
  have := ho y hy
  have he' : y.budget < y.enc + y.spent := by simpa using he
  omega

theorem Vld.free {xs : List Fu} (h : Vld xs) : ∀ x ∈ xs, x.enc + x.spent ≤ x.budget := by
  intro x hx
  have ho := h.ovr
  unfold overF at ho
  rw [List.any_eq_false] at ho
  have := ho x hx
  simp at this
  omega

/-! ### Close -/
theorem keys_cls (keep : Bool) (xs : List Fu) : keys xs = keys (xs.map (clsF keep)) := by
  unfold keys
  rw [List.map_map]
  refine List.map_congr_left (fun x _ => ?_)
  simp only [Function.comp, clsF]
  split <;> rfl
theorem cls_M {keep : Bool} {x : Fu} (hm : FuM x) (ho : x.enc + x.spent ≤ x.budget) : FuM (clsF keep x) ∧ (clsF keep x).enc + (clsF keep x).spent ≤ (clsF keep x).budget ∧ freeF (clsF keep x) = if keep = true then freeF x else 0 := by
  have hb := hm.b
  have he := hm.e
  have hs := hm.s
  cases keep with
  | true => exact ⟨⟨by simp only [clsF]; simp; omega, by simp only [clsF]; simp; omega, by simp [clsF]⟩, by simp [clsF]; omega, by simp [clsF, freeF]; omega⟩
  | false => exact ⟨⟨by simp only [clsF]; simp; omega, by simp only [clsF]; simp; omega, by simp [clsF]⟩, by simp [clsF], by simp [clsF, freeF]⟩
theorem right_cls {xs : List Fu} (hv : Vld xs) (keep : Bool) : rightP (xs.map (clsF keep)) = 0 := by
  rw [right_eq]
  refine right_keys hv (keys_cls keep xs) ?_ ?_
  · intro y hy
    obtain ⟨x, hx, rfl⟩ := List.mem_map.1 hy
    exact (cls_M (hv.M x hx) (hv.free x hx)).1
  · intro y hy
    obtain ⟨x, hx, rfl⟩ := List.mem_map.1 hy
    exact (cls_M (hv.M x hx) (hv.free x hx)).2.1
end Go.Proofs.YtbhndfphegflhaaGreat

/- Plain laws on funds: what transfers, reserving, giving free and spending leave. No walk. -/
namespace Go.Proofs.YtbhndfphegflhaaGreat

theorem keys_set : ∀ {xs : List Fu} {i : Nat} {x y : Fu}, xs[i]? = some x → y.id = x.id → y.parent = x.parent → keys xs = keys (xs.set i y)
  | [], _, _, _, h, _, _ => by simp at h
  | z :: r, 0, x, y, h, h1, h2 => by simp at h; subst h; simp [keys, h1, h2]
  | z :: r, i + 1, x, y, h, h1, h2 => by
    have ih := keys_set (xs := r) (i := i) (y := y) (x := x) (by simpa using h) h1 h2
    unfold keys at ih ⊢
    rw [List.set_cons_succ, List.map_cons, List.map_cons, ih]
theorem getF_set : ∀ {xs : List Fu} {i : Nat} {x y : Fu} {id : Int}, xs[i]? = some x → x.id = id → (∀ w ∈ xs.take i, w.id ≠ id) → y.id = id → ∀ id', getF (xs.set i y) id' = if id' = id then (y, true) else getF xs id'
  | [], _, _, _, _, h, _, _, _, _ => by simp at h
  | z :: r, 0, x, y, id, h, h1, _, h2, id' => by
    simp at h; subst h
    rw [List.set_cons_zero, getF_cons, getF_cons, h1, h2]
    by_cases e : id = id'
    · rw [if_pos e, if_pos e.symm]
    · rw [if_neg e, if_neg (fun h => e h.symm), if_neg e]
  | z :: r, i + 1, x, y, id, h, h1, ht, h2, id' => by
    have hz : z.id ≠ id := ht z (by simp)
    have ih := getF_set (xs := r) (i := i) (y := y) (x := x) (id := id) (by simpa using h) h1 (fun w hw => ht w (by simp [hw])) h2 id'
    rw [List.set_cons_succ, getF_cons, getF_cons, ih]
    by_cases e : z.id = id'
    · rw [if_pos e, if_pos e, if_neg (fun h => hz (e.trans h))]
    · rw [if_neg e, if_neg e]

/-- A fund with an ID, its place, and none before it. -/
theorem at_cases (xs : List Fu) (id : Int) : (atF xs id = -1 ∧ getF xs id = (fu0, false)) ∨ ∃ (i : Nat) (x : Fu), atF xs id = i ∧ xs[i]? = some x ∧ x.id = id ∧ getF xs id = (x, true) ∧ ∀ w ∈ xs.take i, w.id ≠ id := by
  rcases getF_at (xs := xs) (id := id) with h | ⟨i, x, h1, h2, h3, h4⟩
  · exact .inl h
  · right
    rcases ix_cases (fun x : Fu => x.id == id) xs with ⟨g1, _⟩ | ⟨j, y, g1, g2, g3, g4⟩
    · unfold atF at h1; rw [g1] at h1; omega
    · have hji : j = i := by unfold atF at h1; rw [g1] at h1; omega
      subst hji
      exact ⟨j, x, h1, h2, h3, h4, fun w hw => by have := g4 w hw; simpa using this⟩

/-- One fund changed in its amounts alone, by amounts that fit. -/
theorem right_set {xs : List Fu} (hv : Vld xs) {i : Nat} {x y : Fu} (h : xs[i]? = some x) (h1 : y.id = x.id) (h2 : y.parent = x.parent) (hm : FuM y) (ho : y.enc + y.spent ≤ y.budget) : Vld (xs.set i y) := by
  refine vld_of (right_keys hv (keys_set h h1 h2) (fun z hz => ?_) (fun z hz => ?_))
  · rcases List.mem_or_eq_of_mem_set hz with hz | rfl
    · exact hv.M z hz
    · exact hm
  · rcases List.mem_or_eq_of_mem_set hz with hz | rfl
    · exact hv.free z hz
    · exact ho

theorem Vld.right {xs : List Fu} (h : Vld xs) : rightP xs = 0 := by
  rw [right_eq]
  exact right_keys h rfl h.M h.free

theorem set_back {xs : List Fu} {i : Nat} {x y : Fu} (h : xs[i]? = some x) : (xs.set i y).set i x = xs := by
  rw [List.set_set]; exact set_same h

/-- Reserving, and giving free again. -/
theorem enc_cases {xs : List Fu} (hv : Vld xs) (id am : Int) : (chR (encF am) xs id).1 ≠ 0 ∨
    ((chR (encF am) xs id).1 = 0 ∧ Vld (chR (encF am) xs id).2 ∧ chR (relF am) (chR (encF am) xs id).2 id = (0, xs)) := by
  rcases at_cases xs id with ⟨h1, h2⟩ | ⟨i, x, h1, h2, h3, h4, h5⟩
  · left; rw [chR_none h1]; simp
  · by_cases h0 : (encF am x).1 = 0
    · right
      rw [chR_ok h1 h4 h0]
      have hmn : mny am = true := by unfold encF at h0; cases h : mny am with | true => rfl | false => rw [if_pos h] at h0; simp at h0
      have hfr : ¬ freeF x < am := fun h => by unfold encF at h0; rw [if_neg (by rw [hmn]; decide), if_pos h] at h0; simp at h0
      have e2 : (encF am x).2 = { x with enc := x.enc + am } := by unfold encF; rw [if_neg (by rw [hmn]; decide), if_neg hfr]
      rw [e2]
      have ham := mny_iff.1 hmn
      have hx := hv.M x (List.mem_of_getElem? h2)
      have hxb := hx.b
      have hxe := hx.e
      have hxs := hx.s
      have hf' : am ≤ x.budget - x.enc - x.spent := by unfold freeF at hfr; omega
      have v1 : Vld (xs.set i { x with enc := x.enc + am }) := right_set hv h2 rfl rfl ⟨by show 0 ≤ x.budget ∧ _; omega, by show 0 ≤ x.enc + am ∧ x.enc + am ≤ _; omega, by show 0 ≤ x.spent ∧ _; omega⟩ (by show x.enc + am + x.spent ≤ x.budget; omega)
      have a1 : atF (xs.set i { x with enc := x.enc + am }) id = i := by rw [atF_set (y := { x with enc := x.enc + am }) h2 rfl, h1]
      have g1 : getF (xs.set i { x with enc := x.enc + am }) id = ({ x with enc := x.enc + am }, true) := by rw [getF_set (y := { x with enc := x.enc + am }) h2 h3 h5 h3, if_pos rfl]
      have r1 : relF am { x with enc := x.enc + am } = (0, x) := by
        unfold relF
        rw [if_neg (by rw [hmn]; decide), if_neg (by show ¬ x.enc + am < am; omega)]
        congr 1
        show ({ x with enc := x.enc + am - am } : Fu) = x
        rw [show x.enc + am - am = x.enc from by omega]
      refine ⟨rfl, v1, ?_⟩
      rw [chR_ok a1 g1 (by rw [r1]), r1, set_back h2]
    · left; rw [chR_err h1 h4 h0]; exact h0

end Go.Proofs.YtbhndfphegflhaaGreat

/- Plain laws on states: what an order and a bill change in the totals. No walk. -/
namespace Go.Proofs.YtbhndfphegflhaaGreat

/-! ### shares -/
theorem shs_pw {l : List Sh} (h : sharesV l = true) : l.Pairwise (fun a b => a.fund ≠ b.fund) := by
  rw [List.pairwise_iff_getElem]
  intro i j hi hj hij e
  refine shsOk_new l [] (sharesV_ok h) j l[j] (List.getElem?_eq_getElem hj) l[i] ?_ e
  rw [List.nil_append]
  exact List.mem_of_getElem? (i := i) (by rw [List.getElem?_take_of_lt hij]; exact List.getElem?_eq_getElem hi)
/-- What the shares add to a fund. -/
def cntL (am : Int → Int) : List Sh → Int → Int
  | [], _ => 0
  | s :: r, id => (if s.fund = id then am id else 0) + cntL am r id
theorem cntL_out {am : Int → Int} : ∀ {l : List Sh} {id : Int}, (∀ s ∈ l, s.fund ≠ id) → cntL am l id = 0
  | [], _, _ => rfl
  | s :: r, id, h => by
    rw [cntL, if_neg (h s (by simp)), cntL_out (fun u hu => h u (by simp [hu]))]; rfl
theorem cntL_hit {am : Int → Int} : ∀ {l : List Sh} {id : Int} {s : Sh}, l.Pairwise (fun a b => a.fund ≠ b.fund) → s ∈ l → s.fund = id → cntL am l id = am id
  | [], _, _, _, h, _ => by cases h
  | a :: r, id, s, hp, h, he => by
    obtain ⟨h1, h2⟩ := List.pairwise_cons.1 hp
    rw [cntL]
    by_cases e : a.fund = id
    · rw [if_pos e, cntL_out (fun u hu => by have := h1 u hu; rw [e] at this; exact this.symm)]; omega
    · rw [if_neg e]
      rcases List.mem_cons.1 h with rfl | h
      · exact absurd he e
      · rw [cntL_hit h2 h he]; omega
theorem cntL_one {am : Int → Int} {l : List Sh} {id : Int} (hp : l.Pairwise (fun a b => a.fund ≠ b.fund)) (h0 : (∀ s ∈ l, s.fund ≠ id) → am id = 0) : cntL am l id = am id := by
  by_cases h : ∃ s ∈ l, s.fund = id
  · obtain ⟨s, hs, he⟩ := h
    exact cntL_hit hp hs he
  · have h' : ∀ s ∈ l, s.fund ≠ id := fun s hs he => h ⟨s, hs, he⟩
    rw [cntL_out h', h0 h']
theorem partO_out {o : Od} {am id : Int} (h : ∀ s ∈ o.sh, s.fund ≠ id) : partO o am id = 0 := by
  unfold partO
  split
  · exact prtL_out _ _ (fun p hp => h p.1 (List.of_mem_zip hp).1)
  · rfl
theorem sum_prt : ∀ (l : List Sh) (vs : List Int), l.Pairwise (fun a b => a.fund ≠ b.fund) → vs.length = l.length → (l.map (fun s => prtL (l.zip vs) s.fund)).sum = vs.sum
  | [], [], _, _ => rfl
  | [], _ :: _, _, h => by simp at h
  | _ :: _, [], _, h => by simp at h
  | x :: r, v :: u, hp, h => by
    obtain ⟨h1, h2⟩ := List.pairwise_cons.1 hp
    have ih := sum_prt r u h2 (by simpa using h)
    have e1 : r.map (fun s => prtL ((x :: r).zip (v :: u)) s.fund) = r.map (fun s => prtL (r.zip u) s.fund) := by
      refine List.map_congr_left (fun s hs => ?_)
      rw [List.zip_cons_cons, prtL, if_neg (h1 s hs)]; omega
    have e2 : prtL ((x :: r).zip (v :: u)) x.fund = v := by
      rw [List.zip_cons_cons, prtL, if_pos rfl, prtL_out _ _ (fun p hp => by have := h1 p.1 (List.of_mem_zip hp).1; exact this.symm)]; omega
    rw [List.map_cons, List.sum_cons, List.sum_cons, e1, e2, ih]
/-- The parts of an order's funds are the whole. -/
theorem parts_sum {o : Od} {am : Int} (hv : sharesV o.sh = true) (ht : mnyS am = true) : (o.sh.map (fun s => partO o am s.fund)).sum = am := by
  have e : o.sh.map (fun s => partO o am s.fund) = o.sh.map (fun s => prtL (o.sh.zip (shareF am (wsO o))) s.fund) :=
    List.map_congr_left (fun s _ => partO_zip s.fund ht)
  rw [e, sum_prt _ _ (shs_pw hv) (by rw [shareF_len, wsO, List.length_map])]
  exact share_sum (wsO_V hv ht)

/-! ### one fund changed -/
theorem chR_inv {F : Fu → Int × Fu} {fs : List Fu} {id : Int} (h : (chR F fs id).1 = 0) : ∃ i x, fs[i]? = some x ∧ x.id = id ∧ (F x).1 = 0 ∧ (chR F fs id).2 = fs.set i (F x).2 := by
  rcases at_cases fs id with ⟨h1, _⟩ | ⟨i, x, h1, h2, h3, h4, h5⟩
  · rw [chR_none h1] at h; exact absurd h (by decide)
  · by_cases h0 : (F x).1 = 0
    · exact ⟨i, x, h2, h3, h0, by rw [chR_ok h1 h4 h0]⟩
    · rw [chR_err h1 h4 h0] at h; exact absurd h h0
theorem set_mapF (g : Fu → Fu) : ∀ {xs : List Fu} {i : Nat} {x : Fu}, Dif xs → xs[i]? = some x → xs.set i (g x) = xs.map (fun f => if f.id = x.id then g f else f)
  | [], _, _, _, h => by simp at h
  | y :: r, 0, x, hd, h => by
    simp at h; subst h
    have h1 := (List.pairwise_cons.1 hd).1
    rw [List.set_cons_zero, List.map_cons, if_pos rfl]
    congr 1
    conv => lhs; rw [← List.map_id r]
    refine List.map_congr_left (fun u hu => ?_)
    have := h1 u hu
    rw [if_neg (by omega)]; rfl
  | y :: r, i + 1, x, hd, h => by
    obtain ⟨h1, h2⟩ := List.pairwise_cons.1 hd
    have hx : r[i]? = some x := by simpa using h
    have := h1 x (List.mem_of_getElem? hx)
    rw [List.set_cons_succ, List.map_cons, if_neg (by omega), set_mapF g h2 hx]
theorem sm_set {g : Fu → Int} : ∀ {xs : List Fu} {i : Nat} {x y : Fu}, xs[i]? = some x → sm g (xs.set i y) = sm g xs - g x + g y
  | [], _, _, _, h => by simp at h
  | z :: r, 0, x, y, h => by
    simp at h; subst h
    rw [List.set_cons_zero, sm_cons, sm_cons]; omega
  | z :: r, i + 1, x, y, h => by
    have ih := sm_set (g := g) (xs := r) (i := i) (y := y) (x := x) (by simpa using h)
    rw [List.set_cons_succ, sm_cons, sm_cons, ih]; omega
theorem encF_ok {am : Int} {x : Fu} (h : (encF am x).1 = 0) : (encF am x).2 = { x with enc := x.enc + am } := by
  unfold encF at h ⊢
  split
  · rename_i h1; rw [if_pos h1] at h; simp at h
  · rename_i h1
    rw [if_neg h1] at h
    split
    · rename_i h2; rw [if_pos h2] at h; simp at h
    · rfl
theorem dif_keys {xs ys : List Fu} (h : keys xs = keys ys) (hd : Dif xs) : Dif ys := by
  unfold Dif at hd ⊢
  have e : ∀ zs : List Fu, zs.Pairwise (fun a b => a.id < b.id) ↔ (keys zs).Pairwise (fun a b => a.1 < b.1) := fun zs => by
    unfold keys; rw [List.pairwise_map]
  rw [e] at hd ⊢
  rw [← h]; exact hd
def upE (am : Int → Int) (l : List Sh) (f : Fu) : Fu := { f with enc := f.enc + cntL am l f.id }
/-- Reserving for each share. -/
theorem encL_ok {am : Int → Int} : ∀ (l : List Sh) (fs : List Fu), Vld fs → (encL am l fs).1 = 0 →
    Vld (encL am l fs).2 ∧ (encL am l fs).2 = fs.map (upE am l) ∧ sm (·.enc) (encL am l fs).2 = sm (·.enc) fs + (l.map (fun s => am s.fund)).sum ∧ sm (·.spent) (encL am l fs).2 = sm (·.spent) fs
  | [], fs, hv, _ => by
    refine ⟨hv, ?_, by simp [encL], rfl⟩
    show fs = _
    conv => lhs; rw [← List.map_id fs]
    refine List.map_congr_left (fun f _ => ?_)
    simp [upE, cntL]
  | s :: r, fs, hv, h => by
    rw [encL] at h ⊢
    split at h
    · rename_i hc
      rw [if_pos hc]
      rcases enc_cases hv s.fund (am s.fund) with h1 | ⟨_, hv1, _⟩
      · exact absurd hc h1
      obtain ⟨i, x, g1, g2, g3, g4⟩ := chR_inv hc
      rw [encF_ok g3] at g4
      obtain ⟨k1, k2, k3, k4⟩ := encL_ok r _ hv1 h
      have e1 := set_mapF (fun f => { f with enc := f.enc + am s.fund }) (Tid.of hv.chk).dif g1
      refine ⟨k1, ?_, ?_, ?_⟩
      · rw [k2, g4, e1, List.map_map]
        refine List.map_congr_left (fun f _ => ?_)
        simp only [Function.comp, upE, cntL]
        rw [g2]
        by_cases e : f.id = s.fund
        · rw [if_pos e, if_pos e.symm]
          simp only [e]
          congr 1; omega
        · rw [if_neg e, if_neg (fun h => e h.symm)]; congr 1; omega
      · rw [k3, g4, sm_set g1, List.map_cons, List.sum_cons]; simp only; omega
      · rw [k4, g4, sm_set g1]; simp only; omega
    · rename_i hc; exact absurd h hc
theorem stlF_ok {de ds : Int} {x : Fu} (h : (stlF de ds x).1 = 0) : (stlF de ds x).2 = { x with enc := x.enc + de, spent := x.spent + ds } ∧ x.spent + ds ≤ 100000000 ∧ x.enc + de + (x.spent + ds) ≤ x.budget := by
  unfold stlF at h ⊢
  split
  · rename_i h1; rw [if_pos h1] at h; simp at h
  · rename_i h1
    rw [if_neg h1] at h
    split
    · rename_i h2; rw [if_pos h2] at h; simp at h
    · rename_i h2; exact ⟨rfl, by omega, by omega⟩
def upS (de ds : Int → Int) (l : List Sh) (f : Fu) : Fu := { f with enc := f.enc + cntL de l f.id, spent := f.spent + cntL ds l f.id }
theorem keys_upS (de ds : Int → Int) (l : List Sh) (fs : List Fu) : keys fs = keys (fs.map (upS de ds l)) := by
  unfold keys; rw [List.map_map]; rfl
def FitF (f : Fu) : Prop := f.spent ≤ 100000000 ∧ f.enc + f.spent ≤ f.budget
/-- The funds that follow an order. -/
theorem stlL_ok {de ds : Int → Int} : ∀ (l : List Sh) (fs : List Fu), Dif fs → (stlL de ds l fs).1 = 0 →
    (stlL de ds l fs).2 = fs.map (upS de ds l) ∧ sm (·.enc) (stlL de ds l fs).2 = sm (·.enc) fs + (l.map (fun s => de s.fund)).sum ∧ sm (·.spent) (stlL de ds l fs).2 = sm (·.spent) fs + (l.map (fun s => ds s.fund)).sum
      ∧ ((∀ f ∈ fs, FitF f) → ∀ f ∈ (stlL de ds l fs).2, FitF f)
  | [], fs, hd, _ => by
    refine ⟨?_, by simp [stlL], by simp [stlL], fun h => h⟩
    show fs = _
    conv => lhs; rw [← List.map_id fs]
    refine List.map_congr_left (fun f _ => ?_)
    simp [upS, cntL]
  | s :: r, fs, hd, h => by
    rw [stlL] at h ⊢
    split at h
    · rename_i hc
      rw [if_pos hc]
      obtain ⟨i, x, g1, g2, g3, g4⟩ := chR_inv hc
      obtain ⟨f1, f2, f3⟩ := stlF_ok g3
      rw [f1] at g4
      have hk : keys fs = keys (chR (stlF (de s.fund) (ds s.fund)) fs s.fund).2 := by rw [g4]; exact keys_set g1 rfl rfl
      obtain ⟨k2, k3, k4, k5⟩ := stlL_ok r _ (dif_keys hk hd) h
      have e1 := set_mapF (fun f => { f with enc := f.enc + de s.fund, spent := f.spent + ds s.fund }) hd g1
      refine ⟨?_, ?_, ?_, fun hF => k5 ?_⟩
      · rw [k2, g4, e1, List.map_map]
        refine List.map_congr_left (fun f _ => ?_)
        simp only [Function.comp, upS, cntL]
        rw [g2]
        by_cases e : f.id = s.fund
        · rw [if_pos e, if_pos e.symm, if_pos e.symm]
          simp only [e]
          congr 1 <;> omega
        · rw [if_neg e, if_neg (fun h => e h.symm), if_neg (fun h => e h.symm)]; congr 1 <;> omega
      · rw [k3, g4, sm_set g1, List.map_cons, List.sum_cons]; simp only; omega
      · rw [k4, g4, sm_set g1, List.map_cons, List.sum_cons]; simp only; omega
      · intro f hf
        rw [g4] at hf
        rcases List.mem_or_eq_of_mem_set hf with hf | rfl
        · exact hF f hf
        · exact ⟨f2, f3⟩
    · rename_i hc; exact absurd h hc

/-! ### an order -/
theorem resv_bd40 {x : Od} (h : OdM x) : 0 ≤ resvO x ∧ resvO x ≤ 99000000 := by
  have ⟨a1, a2⟩ := h.cop
  have ⟨p1, p2⟩ := h.pri
  have ⟨r1, r2⟩ := h.rcv
  have ⟨b1, b2⟩ := h.bil
  have g1 : 0 ≤ (x.cop - x.bil) * x.pri := Int.mul_nonneg (by omega) (by omega)
  have g2 : (x.cop - x.bil) * x.pri ≤ 99 * 1000000 := Int.mul_le_mul (by omega) p2 (by omega) (by omega)
  have g3 : 0 ≤ (x.rcv - x.bil) * x.pri := Int.mul_nonneg (by omega) (by omega)
  have g4 : (x.rcv - x.bil) * x.pri ≤ 99 * 1000000 := Int.mul_le_mul (by omega) p2 (by omega) (by omega)
  unfold resvO
  split
  · omega
  · split <;> omega
theorem place_keeps40 (xs : List Od) (x : Od) : (placeO xs x).1 ≠ 0 ∨ ((placeO xs x).1 = 0 ∧ (placeO xs x).2 = xs ++ [x] ∧ rightO (xs ++ [x]) = 0 ∧ OdM x ∧ resvO x = x.cop * x.pri) := by
  unfold placeO
  split
  · rename_i h
    split
    · rename_i h2
      right
      have hx := chkOs_ok _ _ (VldO.of h2).chk x (by simp)
      refine ⟨rfl, rfl, h2, (chkO_M hx).1, ?_⟩
      unfold resvO; rw [if_pos h.1, h.2.2.1, Int.sub_zero]
    · rename_i h2; left; exact h2
  · left; simp
theorem resv_mny {x : Od} (h : OdM x) : mnyS (resvO x) = true := by
  have := resv_bd40 h
  unfold mnyS
  rw [decide_eq_true (by omega), decide_eq_true (by omega)]; rfl
/-- What stands behind an order that has gone well. -/
structure OrdOk (a : Pa) (x : Od) (z : Pa) : Prop where
  nx : ¬ 9999 < a.nx
  o : z.o = a.o ++ [newO a x]
  ro : rightO z.o = 0
  m : OdM (newO a x)
  sv : sharesV x.sh = true
  rs : resvO (newO a x) = x.cop * x.pri
  has : x.sh.all (shHas a.f) = true
  f : z.f = a.f.map (upE (fun id => partO (newO a x) (resvO (newO a x)) id) x.sh)
  fv : Vld z.f
  se : sm (·.enc) z.f = sm (·.enc) a.f + resvO (newO a x)
  ss : sm (·.spent) z.f = sm (·.spent) a.f
  z : z = { a with f := z.f, o := z.o, nx := a.nx + 1 }
theorem ord_ok {a : Pa} {x : Od} (hv : Vld a.f) (h : (ordA a x).1 = 0) : OrdOk a x (ordA a x).2 := by
  unfold ordA at h ⊢
  split
  · rename_i h1; rw [if_pos h1] at h; exact absurd h (by decide)
  · rename_i h1
    rw [if_neg h1] at h
    split
    · rename_i h2
      rw [if_pos h2] at h
      split
      · rename_i h3
        rw [if_pos h3] at h
        split
        · rename_i h4
          rcases place_keeps40 a.o (newO a x) with hp | ⟨_, p2, p3, p4, p5⟩
          · exact absurd h2 hp
          have hc := chkOs_ok _ _ (VldO.of p3).chk (newO a x) (by simp)
          obtain ⟨_, _, _, v1, _⟩ := chkO_M hc
          obtain ⟨k1, k2, k3, k4⟩ := encL_ok x.sh a.f hv h4
          have v2 : sharesV x.sh = true := v1
          have hs : (x.sh.map (fun s => partO (newO a x) (resvO (newO a x)) s.fund)).sum = resvO (newO a x) := parts_sum v1 (resv_mny p4)
          exact ⟨h1, p2, by rw [p2]; exact p3, p4, v2, p5, h3, k2, k1, by rw [k3, hs], k4, rfl⟩
        · rename_i h4; rw [if_neg h4] at h; exact absurd h h4
      · rename_i h3; rw [if_neg h3] at h; exact absurd h (by decide)
    · rename_i h2; rw [if_neg h2] at h; exact absurd h h2

/-! ### a change of one order that the funds follow -/
structure FolOk (a : Pa) (id am : Int) (er : Od → Int) (g : Od → Od) (z : Pa) : Prop where
  ex : ∃ (i : Nat) (x : Od), a.o[i]? = some x ∧ x.id = id ∧ er x = 0 ∧ chkO x = 0 ∧ chkO (g x) = 0 ∧ getO a.o id = (x, true) ∧ getO z.o id = (g x, true) ∧ z.o = a.o.set i (g x) ∧ rightO z.o = 0
    ∧ z.f = a.f.map (upS (fun q => partO (g x) (resvO (g x)) q - partO x (resvO x) q) (fun q => partO (g x) am q) (g x).sh)
    ∧ sm (·.enc) z.f = sm (·.enc) a.f - resvO x + resvO (g x) ∧ (mnyS am = true → sm (·.spent) z.f = sm (·.spent) a.f + am)
  fit : ∀ f ∈ z.f, FitF f
  z : z = { a with f := z.f, o := z.o }
theorem sum_sub {l : List Sh} (p q : Sh → Int) : (l.map (fun s => p s - q s)).sum = (l.map p).sum - (l.map q).sum := by
  induction l with
  | nil => rfl
  | cons s r ih => rw [List.map_cons, List.map_cons, List.map_cons, List.sum_cons, List.sum_cons, List.sum_cons, ih]; omega
theorem folK_ok {a : Pa} (hv : Vld a.f) (ho : VldO a.o) (id am : Int) {er : Od → Int} {g : Od → Od} (hid : ∀ x, (g x).id = x.id) (hsh : ∀ x, (g x).sh = x.sh) (hk : ∀ x, chkO x = 0 → er x = 0 → chkO (g x) = 0)
    (h : (folA a (opO a.o id er g) id am).1 = 0) : FolOk a id am er g (folA a (opO a.o id er g) id am).2 := by
  unfold folA at h ⊢
  split
  · rename_i h1
    rw [if_pos h1] at h
    split
    · rename_i h2
      rw [if_pos h2] at h
      rcases getO_cases a.o id with ⟨g1, _⟩ | ⟨i, x, g1, g2, g3, g4, g5⟩
      · rw [opO_none g1] at h1; exact absurd h1 (by decide)
      have hx := chkOs_ok _ _ ho.chk x (List.mem_of_getElem? g2)
      have hi : i < a.o.length := (List.getElem?_eq_some_iff.1 g2).1
      rw [opO_some g1 g4] at h1 h2 ⊢
      by_cases he : er x = 0
      · rw [if_pos he] at h1 h2 ⊢
        have hgi : (a.o.set i (g x))[i]? = some (g x) := by rw [List.getElem?_set, if_pos rfl, if_pos hi]
        have hg2 : getO (a.o.set i (g x)) id = (g x, true) := getO_at hgi (by rw [hid, g3]) (by rw [take_set_selfO]; exact g5)
        simp only at h2 ⊢
        rw [g4, hg2] at h2 ⊢
        simp only at h2 ⊢
        unfold stlA at h2 ⊢
        have hgx := hk x hx he
        obtain ⟨m1, _, _, v1, _⟩ := chkO_M hx
        obtain ⟨m2, _, _, v2, _⟩ := chkO_M hgx
        obtain ⟨k1, k2, k3, k4⟩ := stlL_ok (g x).sh a.f (Tid.of hv.chk).dif h2
        have s1 : ((g x).sh.map (fun s => partO (g x) (resvO (g x)) s.fund)).sum = resvO (g x) := parts_sum v2 (resv_mny m2)
        have s2 : ((g x).sh.map (fun s => partO x (resvO x) s.fund)).sum = resvO x := by rw [hsh]; exact parts_sum v1 (resv_mny m1)
        refine ⟨⟨i, x, g2, g3, he, hx, hgx, g4, hg2, rfl, ?_, k1, ?_, ?_⟩, k4 (fun f hf => ⟨(hv.M f hf).s.2, hv.free f hf⟩), rfl⟩
        · exact VldO.right ⟨by rw [List.length_set]; exact ho.len, chkOs_set g2 (hid x) hgx ho.chk⟩
        · rw [k2, sum_sub (fun s => partO (g x) (resvO (g x)) s.fund) (fun s => partO x (resvO x) s.fund), s1, s2]; omega
        · intro hm
          rw [k3, parts_sum v2 hm]
      · rw [if_neg he] at h1; exact absurd h1 he
    · rename_i h2; rw [if_neg h2] at h; exact absurd h h2
  · rename_i h1; rw [if_neg h1] at h; exact absurd h h1
end Go.Proofs.YtbhndfphegflhaaGreat

/- Plain laws on states: a valid state stays valid. No walk. -/
namespace Go.Proofs.YtbhndfphegflhaaGreat

/-! ### what the orders reserve -/
theorem rsv_cons (o : Od) (r : List Od) (id : Int) : rsvA (o :: r) id = partO o (resvO o) id + rsvA r id := by simp [rsvA]
theorem rsv_set : ∀ {os : List Od} {i : Nat} {x y : Od} {id : Int}, os[i]? = some x → rsvA (os.set i y) id = rsvA os id - partO x (resvO x) id + partO y (resvO y) id
  | [], _, _, _, _, h => by simp at h
  | z :: r, 0, x, y, id, h => by
    simp at h; subst h
    rw [List.set_cons_zero, rsv_cons, rsv_cons]; omega
  | z :: r, i + 1, x, y, id, h => by
    have ih := rsv_set (os := r) (i := i) (y := y) (x := x) (id := id) (by simpa using h)
    rw [List.set_cons_succ, rsv_cons, rsv_cons, ih]; omega
theorem partO_sh {x y : Od} (h : y.sh = x.sh) (am id : Int) : partO y am id = partO x am id := by
  unfold partO splitO wsO; rw [h]

/-! ### orders by their IDs -/
theorem getO_cons (x : Od) (r : List Od) (id : Int) : getO (x :: r) id = if x.id = id then (x, true) else getO r id := by
  unfold getO
  rw [List.find?_cons]
  by_cases h : x.id = id
  · rw [if_pos h]
    have : (x.id == id) = true := by simpa using h
    rw [this]
  · rw [if_neg h]
    have : (x.id == id) = false := by simpa using h
    rw [this]
/-- The other orders show the same vendors. -/
def VenLe (os os' : List Od) : Prop := ∀ id, (getO os id).2 = true → (getO os' id).2 = true ∧ (getO os' id).1.ven = (getO os id).1.ven
theorem ven_set : ∀ {os : List Od} {i : Nat} {x y : Od}, os[i]? = some x → y.id = x.id → y.ven = x.ven → VenLe os (os.set i y)
  | [], _, _, _, h, _, _ => by simp at h
  | z :: r, 0, x, y, h, h1, h2 => by
    simp at h; subst h
    intro id hg
    rw [List.set_cons_zero, getO_cons, getO_cons, h1]
    rw [getO_cons] at hg
    by_cases e : z.id = id
    · rw [if_pos e, if_pos e]; exact ⟨rfl, h2⟩
    · rw [if_neg e] at hg
      rw [if_neg e, if_neg e]; exact ⟨hg, rfl⟩
  | z :: r, i + 1, x, y, h, h1, h2 => by
    have ih := ven_set (os := r) (i := i) (x := x) (y := y) (by simpa using h) h1 h2
    intro id hg
    rw [List.set_cons_succ, getO_cons, getO_cons]
    rw [getO_cons] at hg
    by_cases e : z.id = id
    · rw [if_pos e, if_pos e]; exact ⟨rfl, rfl⟩
    · rw [if_neg e] at hg
      rw [if_neg e, if_neg e]; exact ih id hg
theorem getO_app : ∀ {os : List Od} {id : Int} (ys : List Od), (getO os id).2 = true → getO (os ++ ys) id = getO os id
  | [], id, _, h => by simp [getO] at h
  | z :: r, id, ys, h => by
    rw [List.cons_append, getO_cons, getO_cons]
    rw [getO_cons] at h
    by_cases e : z.id = id
    · rw [if_pos e, if_pos e]
    · rw [if_neg e] at h
      rw [if_neg e, if_neg e, getO_app ys h]
theorem getO_found {os : List Od} {id : Int} (h : (getO os id).2 = true) : ∃ o ∈ os, o.id = id := by
  rcases getO_cases os id with ⟨_, h2, _⟩ | ⟨i, y, _, h2, h3, _⟩
  · rw [h2] at h; cases h
  · exact ⟨y, List.mem_of_getElem? h2, h3⟩
theorem chkOs_pw : ∀ {os : List Od} {p : Option Int}, chkOs p os = 0 → os.Pairwise (fun a b => a.id < b.id)
  | [], _, _ => List.Pairwise.nil
  | x :: r, _, h => List.pairwise_cons.2 ⟨chkOs_gt r _ (chkOs_tail h), chkOs_pw (chkOs_tail h)⟩
theorem mem_set_id : ∀ {os : List Od} {i : Nat} {x y o : Od}, os.Pairwise (fun a b => a.id < b.id) → os[i]? = some x → o ∈ os.set i y → o = y ∨ (o ∈ os ∧ o.id ≠ x.id)
  | [], _, _, _, _, _, h, _ => by simp at h
  | z :: r, 0, x, y, o, hp, h, ho => by
    simp at h; subst h
    obtain ⟨h1, _⟩ := List.pairwise_cons.1 hp
    rw [List.set_cons_zero] at ho
    rcases List.mem_cons.1 ho with rfl | ho
    · exact .inl rfl
    · exact .inr ⟨by simp [ho], by have := h1 o ho; omega⟩
  | z :: r, i + 1, x, y, o, hp, h, ho => by
    obtain ⟨h1, h2⟩ := List.pairwise_cons.1 hp
    have hx : r[i]? = some x := by simpa using h
    rw [List.set_cons_succ] at ho
    rcases List.mem_cons.1 ho with rfl | ho
    · exact .inr ⟨by simp, by have := h1 x (List.mem_of_getElem? hx); omega⟩
    · rcases mem_set_id h2 hx ho with h | ⟨h, h3⟩
      · exact .inl h
      · exact .inr ⟨by simp [h], h3⟩

/-! ### bills -/
theorem okBls_le {os os' : List Od} (hv : VenLe os os') : ∀ (bs P : List Bl), okBls os P bs = true → okBls os' P bs = true
  | [], _, _ => rfl
  | b :: r, P, h => by
    rw [okBls, Bool.and_eq_true] at h ⊢
    refine ⟨?_, okBls_le hv r _ h.2⟩
    have h1 := h.1
    unfold okBl at h1 ⊢
    simp only [Bool.and_eq_true] at h1 ⊢
    obtain ⟨⟨⟨⟨⟨g1, g2⟩, g3⟩, g4⟩, g5⟩, g6⟩ := h1
    obtain ⟨e1, e2⟩ := hv b.ord g1
    exact ⟨⟨⟨⟨⟨e1, by rw [e2]; exact g2⟩, g3⟩, g4⟩, g5⟩, g6⟩
theorem okBls_found {os : List Od} : ∀ (bs P : List Bl), okBls os P bs = true → ∀ b ∈ bs, (getO os b.ord).2 = true
  | [], _, _, _, h => by cases h
  | c :: r, P, h, b, hb => by
    rw [okBls, Bool.and_eq_true] at h
    rcases List.mem_cons.1 hb with rfl | hb
    · have h1 := h.1
      unfold okBl at h1
      simp only [Bool.and_eq_true] at h1
      exact h1.1.1.1.1.1
    · exact okBls_found r _ h.2 b hb
theorem okBls_snoc {os : List Od} : ∀ (bs P : List Bl) (b : Bl), okBls os P (bs ++ [b]) = (okBls os P bs && okBl os (P ++ bs) b)
  | [], P, b => by rw [List.nil_append, okBls, okBls, okBls, List.append_nil]; simp
  | c :: r, P, b => by rw [List.cons_append, okBls, okBls, okBls_snoc r (P ++ [c]) b, List.append_assoc, List.singleton_append, Bool.and_assoc]
theorem sumB_none {g : Bl → Int} : ∀ {bs : List Bl} {id : Int}, (∀ b ∈ bs, b.ord ≠ id) → sumB g bs id = 0
  | [], _, _ => rfl
  | b :: r, id, h => by rw [sumB, if_neg (h b (by simp)), sumB_none (fun c hc => h c (by simp [hc]))]; rfl

/-! ### the parts of a valid state -/
structure OkP (a : Pa) : Prop where
  yr : 1900 ≤ a.yr ∧ a.yr ≤ 2199
  nx : 1 ≤ a.nx ∧ a.nx ≤ 10000
  f : Vld a.f
  o : VldO a.o
  oo : ∀ o ∈ a.o, o.id < a.nx ∧ ∀ s ∈ o.sh, (getF a.f s.fund).2 = true
  ff : ∀ f ∈ a.f, f.enc = rsvA a.o f.id
  sl : a.s.length ≤ 16
  ss : okSes none a.s = true
  bl : a.b.length ≤ 128
  bb : okBls a.o [] a.b = true
  ob : ∀ o ∈ a.o, sumB (·.cop) a.b o.id = o.bil ∧ sumB (·.amt) a.b o.id = o.paid
theorem rightR_of {xs : List Fu} (h : Vld xs) : rightR xs = 0 := right_keys h rfl h.M h.free
theorem okP_iff {a : Pa} : okA a = true ↔ OkP a := by
  constructor
  · intro h
    unfold okA ok1 ok2 okBills at h
    simp only [Bool.and_eq_true, beq_iff_eq, decide_eq_true_eq, List.all_eq_true] at h
    obtain ⟨⟨⟨⟨⟨⟨⟨h1, h2⟩, h3⟩, h4⟩, h5, h6⟩, h7⟩, h8⟩, ⟨h9, h10⟩, h11⟩ := h
    refine ⟨winB_iff.1 h1, winB_iff.1 h2, vld_of h3, VldO.of h4, fun o ho => ?_, fun f hf => ?_, h7, h8, h9, h10, fun o ho => ?_⟩
    · have h := h5 o ho
      unfold okO at h
      rw [Bool.and_eq_true, decide_eq_true_eq, List.all_eq_true] at h
      exact ⟨h.1, fun s hs => h.2 s hs⟩
    · have h := h6 f hf
      unfold okF at h
      simpa using h
    · have h := h11 o ho
      unfold okOB at h
      simpa using h
  · intro h
    unfold okA ok1 ok2 okBills
    simp only [Bool.and_eq_true, beq_iff_eq, decide_eq_true_eq, List.all_eq_true]
    refine ⟨⟨⟨⟨⟨⟨⟨winB_iff.2 h.yr, winB_iff.2 h.nx⟩, rightR_of h.f⟩, h.o.right⟩, fun o ho => ?_, fun f hf => ?_⟩, h.sl⟩, h.ss⟩, ⟨h.bl, h.bb⟩, fun o ho => ?_⟩
    · unfold okO
      rw [Bool.and_eq_true, decide_eq_true_eq, List.all_eq_true]
      exact ⟨(h.oo o ho).1, fun s hs => (h.oo o ho).2 s hs⟩
    · unfold okF
      simpa using h.ff f hf
    · unfold okOB
      simpa using h.ob o ho

/-! ### an order -/
theorem keys_upE (am : Int → Int) (l : List Sh) (fs : List Fu) : keys fs = keys (fs.map (upE am l)) := by
  unfold keys; rw [List.map_map]; rfl
theorem ord_keeps {a : Pa} {x : Od} (ha : OkP a) (h : (ordA a x).1 = 0) : OkP (ordA a x).2 := by
  have hk := ord_ok ha.f h
  obtain ⟨z, hz⟩ : ∃ z, (ordA a x).2 = z := ⟨_, rfl⟩
  rw [hz] at hk ⊢
  have hkey : keys a.f = keys z.f := by rw [hk.f]; exact keys_upE _ _ _
  have eb : z.b = a.b := by rw [hk.z]
  have es : z.s = a.s := by rw [hk.z]
  have ey : z.yr = a.yr := by rw [hk.z]
  have en : z.nx = a.nx + 1 := by rw [hk.z]
  have hnew : ∀ o ∈ a.o, o.id ≠ (newO a x).id := fun o ho => by have := (ha.oo o ho).1; show o.id ≠ a.nx; omega
  have hbo : ∀ b ∈ a.b, b.ord ≠ (newO a x).id := fun b hb e => by
    obtain ⟨o, ho, hi⟩ := getO_found (okBls_found a.b [] ha.bb b hb)
    exact hnew o ho (hi.trans e)
  have hnx := hk.nx
  refine ⟨by rw [ey]; exact ha.yr, by rw [en]; have := ha.nx; omega, hk.fv, VldO.of hk.ro, ?_, ?_, by rw [es]; exact ha.sl, by rw [es]; exact ha.ss, by rw [eb]; exact ha.bl, ?_, ?_⟩
  · intro o ho
    rw [hk.o] at ho
    rcases List.mem_append.1 ho with ho | ho
    · obtain ⟨h1, h2⟩ := ha.oo o ho
      exact ⟨by rw [en]; omega, fun s hs => by rw [← (getF_keys hkey s.fund).1]; exact h2 s hs⟩
    · rw [List.mem_singleton.1 ho]
      refine ⟨by rw [en]; show a.nx < _; omega, fun s hs => ?_⟩
      rw [← (getF_keys hkey s.fund).1]
      exact List.all_eq_true.1 hk.has s hs
  · intro f hf
    rw [hk.f] at hf
    obtain ⟨f0, h0, rfl⟩ := List.mem_map.1 hf
    show f0.enc + cntL _ x.sh f0.id = rsvA z.o f0.id
    rw [hk.o, rsv_snoc, ← ha.ff f0 h0, cntL_one (shs_pw hk.sv) (fun hno => partO_out (o := newO a x) hno)]
  · rw [eb, hk.o]
    refine okBls_le (fun id hg => ?_) a.b [] ha.bb
    rw [getO_app _ hg]
    exact ⟨hg, rfl⟩
  · intro o ho
    rw [hk.o] at ho
    rw [eb]
    rcases List.mem_append.1 ho with ho | ho
    · exact ha.ob o ho
    · rw [List.mem_singleton.1 ho, sumB_none hbo, sumB_none hbo]
      exact ⟨rfl, rfl⟩
/-! ### a change of one order that the funds follow -/
theorem fol_funds {a : Pa} (ha : OkP a) {id am : Int} {er : Od → Int} {g : Od → Od} {z : Pa} (hsh : ∀ x, (g x).sh = x.sh) (hf : FolOk a id am er g z) : Vld z.f ∧ keys a.f = keys z.f ∧ ∀ f ∈ z.f, f.enc = rsvA z.o f.id := by
  obtain ⟨i, x, h1, h2, h3, h4, h5, h6, h7, h8, h9, h10, h11, h12⟩ := hf.ex
  have hkey : keys a.f = keys z.f := by rw [h10]; exact keys_upS _ _ _ _
  have hv1 := (chkO_M h4).2.2.2.1
  have hv2 := (chkO_M h5).2.2.2.1
  have hff : ∀ f ∈ z.f, f.enc = rsvA z.o f.id := fun f hf => by
    rw [h10] at hf
    obtain ⟨f0, h0, rfl⟩ := List.mem_map.1 hf
    show f0.enc + cntL _ (g x).sh f0.id = rsvA z.o f0.id
    rw [h8, rsv_set h1, ← ha.ff f0 h0, cntL_one (shs_pw hv2) (fun hno => by rw [partO_out hno, partO_out (o := x) (by rw [← hsh x]; exact hno)]; rfl)]
    omega
  have hsv : ∀ o ∈ z.o, sharesV o.sh = true := (VldO.of h9).sh
  refine ⟨vld_of (right_keys ha.f hkey (fun f hmem => ?_) (fun f hf' => (hf.fit f hf').2)), hkey, hff⟩
  have hfit := hf.fit f hmem
  have he := hff f hmem
  have hrb := (rsvA_bd hsv f.id).1
  rw [h10] at hmem
  obtain ⟨f0, h0, rfl⟩ := List.mem_map.1 hmem
  have hM := ha.f.M f0 h0
  have hc : 0 ≤ cntL (fun q => partO (g x) am q) (g x).sh f0.id := by
    rw [cntL_one (shs_pw hv2) (fun hno => partO_out hno)]
    exact (partO_bd hv2 am f0.id).1
  have hb := hM.b
  have hs := hM.s
  have e1 : (upS (fun q => partO (g x) (resvO (g x)) q - partO x (resvO x) q) (fun q => partO (g x) am q) (g x).sh f0).spent = f0.spent + cntL (fun q => partO (g x) am q) (g x).sh f0.id := rfl
  have e2 : (upS (fun q => partO (g x) (resvO (g x)) q - partO x (resvO x) q) (fun q => partO (g x) am q) (g x).sh f0).budget = f0.budget := rfl
  have e3 : (upS (fun q => partO (g x) (resvO (g x)) q - partO x (resvO x) q) (fun q => partO (g x) am q) (g x).sh f0).id = f0.id := rfl
  unfold FitF at hfit
  rw [e3] at he hrb
  rw [e1, e2] at hfit
  refine ⟨by rw [e2]; exact hb, ⟨by rw [he]; exact hrb, ?_⟩, ⟨by rw [e1]; omega, by rw [e1]; exact hfit.1⟩⟩
  omega
/-- A state in which one order has changed, the funds have followed, and the bills say so. -/
theorem set_keeps {a z : Pa} (ha : OkP a) {i : Nat} {x y : Od} (hx : a.o[i]? = some x) (hid : y.id = x.id) (hven : y.ven = x.ven) (hsh : y.sh = x.sh)
    (ho : z.o = a.o.set i y) (hro : rightO z.o = 0) (hfv : Vld z.f) (hkey : keys a.f = keys z.f) (hff : ∀ f ∈ z.f, f.enc = rsvA z.o f.id)
    (ey : z.yr = a.yr) (en : z.nx = a.nx) (es : z.s = a.s) (hbl : z.b.length ≤ 128) (hbb : okBls z.o [] z.b = true)
    (hob : sumB (·.cop) z.b y.id = y.bil ∧ sumB (·.amt) z.b y.id = y.paid) (hoth : ∀ o : Od, o.id ≠ x.id → sumB (·.cop) z.b o.id = sumB (·.cop) a.b o.id ∧ sumB (·.amt) z.b o.id = sumB (·.amt) a.b o.id) : OkP z := by
  refine ⟨by rw [ey]; exact ha.yr, by rw [en]; exact ha.nx, hfv, VldO.of hro, fun o hm => ?_, hff, by rw [es]; exact ha.sl, by rw [es]; exact ha.ss, hbl, hbb, fun o hm => ?_⟩
  · rw [ho] at hm
    rcases List.mem_or_eq_of_mem_set hm with hm | rfl
    · obtain ⟨h1, h2⟩ := ha.oo o hm
      exact ⟨by rw [en]; exact h1, fun s hs => by rw [← (getF_keys hkey s.fund).1]; exact h2 s hs⟩
    · obtain ⟨h1, h2⟩ := ha.oo x (List.mem_of_getElem? hx)
      exact ⟨by rw [en, hid]; exact h1, fun s hs => by rw [← (getF_keys hkey s.fund).1]; exact h2 s (by rw [← hsh]; exact hs)⟩
  · rw [ho] at hm
    rcases mem_set_id (chkOs_pw ha.o.chk) hx hm with rfl | ⟨hm, hne⟩
    · exact hob
    · obtain ⟨h1, h2⟩ := hoth o hne
      rw [h1, h2]; exact ha.ob o hm

theorem rcv_keepsP {a : Pa} (ha : OkP a) {id m : Int} (h : (rcvA a id m).1 = 0) : OkP (rcvA a id m).2 := by
  unfold rcvA withOr at h ⊢
  split
  · rename_i h1
    rcases getO_cases a.o id with ⟨g1, _⟩ | ⟨i, x, g1, g2, g3, g4, g5⟩
    · unfold receiveO at h1; rw [opO_none g1] at h1; exact absurd h1 (by decide)
    have hx := chkOs_ok _ _ ha.o.chk x (List.mem_of_getElem? g2)
    have hop : receiveO a.o id m = if rcvE m x = 0 then (0, a.o.set i (rcvF m x)) else (rcvE m x, []) := opO_some g1 g4
    by_cases he : rcvE m x = 0
    · rw [if_pos he] at hop
      obtain ⟨k1, k2⟩ := rcv_ok hx he
      have hro : rightO (a.o.set i (rcvF m x)) = 0 := VldO.right ⟨by rw [List.length_set]; exact ha.o.len, chkOs_set g2 rfl k1 ha.o.chk⟩
      rw [hop]
      refine set_keeps (z := { a with o := a.o.set i (rcvF m x) }) ha g2 (y := rcvF m x) rfl rfl rfl rfl hro ha.f rfl (fun f hf => ?_) rfl rfl rfl ha.bl (okBls_le (ven_set (y := rcvF m x) g2 rfl rfl) a.b [] ha.bb) (ha.ob x (List.mem_of_getElem? g2)) (fun o _ => ⟨rfl, rfl⟩)
      show f.enc = rsvA (a.o.set i (rcvF m x)) f.id
      rw [rsv_set g2, k2, partO_sh (x := x) (y := rcvF m x) rfl, ha.ff f hf]
      omega
    · rw [if_neg he] at hop; rw [hop] at h1; exact absurd h1 he
  · rename_i h1; rw [if_neg h1] at h; exact absurd h h1
theorem stp_keepsP {a : Pa} (ha : OkP a) {id : Int} (h : (stpA a id).1 = 0) : OkP (stpA a id).2 := by
  have hf : FolOk a id 0 stopE stopF (stpA a id).2 := folK_ok ha.f ha.o id 0 (fun _ => rfl) (fun _ => rfl) (fun x h1 h2 => (stop_ok h1 h2).1) h
  obtain ⟨f1, f2, f3⟩ := fol_funds (g := stopF) ha (fun _ => rfl) hf
  obtain ⟨i, x, h1, h2, h3, h4, h5, h6, h7, h8, h9, h10, h11, h12⟩ := hf.ex
  have hz := hf.z
  have eb : (stpA a id).2.b = a.b := by rw [hz]
  refine set_keeps ha h1 (y := stopF x) rfl rfl rfl h8 h9 f1 f2 f3 (by rw [hz]) (by rw [hz]) (by rw [hz]) (by rw [eb]; exact ha.bl) (by rw [eb, h8]; exact okBls_le (ven_set (y := stopF x) h1 rfl rfl) a.b [] ha.bb) (by rw [eb]; exact ha.ob x (List.mem_of_getElem? h1)) (fun o _ => by rw [eb]; exact ⟨rfl, rfl⟩)

/-! ### a bill -/
theorem billE_num {b : Bl} {x : Od} (he : billE b x = 0) : 1 ≤ b.num ∧ b.num ≤ 99999 := by
  unfold billE at he
  split at he
  · split at he
    · rename_i h2; exact h2.1
    · cases he
  · cases he
structure BilOk (a : Pa) (b : Bl) (z : Pa) : Prop where
  any : a.b.any (samB b) = false
  len : ¬ 128 ≤ a.b.length
  fol : FolOk a b.ord b.amt (billE b) (billF b) (folA a (billO a.o b) b.ord b.amt).2
  z : z = { (folA a (billO a.o b) b.ord b.amt).2 with b := a.b ++ [b] }
theorem bil_ok {a : Pa} (ha : OkP a) {b : Bl} (h : (bilA a b).1 = 0) : BilOk a b (bilA a b).2 := by
  unfold bilA at h ⊢
  split
  · rename_i h1; rw [if_pos h1] at h; exact absurd h (by decide)
  · rename_i h1
    rw [if_neg h1] at h
    split
    · rename_i h2; rw [if_pos h2] at h; exact absurd h (by decide)
    · rename_i h2
      rw [if_neg h2] at h
      split
      · rename_i h3
        exact ⟨by simpa using h1, h2, folK_ok ha.f ha.o b.ord b.amt (fun _ => rfl) (fun _ => rfl) (fun x g1 g2 => (bill_ok g1 g2).1) h3, rfl⟩
      · rename_i h3; rw [if_neg h3] at h; exact absurd h h3
theorem bil_keepsP {a : Pa} (ha : OkP a) {b : Bl} (h : (bilA a b).1 = 0) : OkP (bilA a b).2 := by
  have hb := bil_ok ha h
  obtain ⟨z, hz⟩ : ∃ z, (folA a (billO a.o b) b.ord b.amt).2 = z := ⟨_, rfl⟩
  have hf := hb.fol
  have hzz := hb.z
  rw [hz] at hf hzz
  obtain ⟨f1, f2, f3⟩ := fol_funds (g := billF b) ha (fun _ => rfl) hf
  obtain ⟨i, x, h1, h2, h3, h4, h5, h6, h7, h8, h9, h10, h11, h12⟩ := hf.ex
  have hz1 := hf.z
  rw [hzz]
  have hbe := billE_ok h3
  have hM := (chkO_M h4).1
  have hr := hM.rcv
  have hbi := hM.bil
  have hc := hM.cop
  have hnum := billE_num h3
  have hob := ha.ob x (List.mem_of_getElem? h1)
  have hlen := hb.len
  have hpd := hM.paid
  refine set_keeps (z := { z with b := a.b ++ [b] }) ha h1 (y := billF b x) rfl rfl rfl h8 h9 f1 f2 f3 (by rw [hz1]) (by rw [hz1]) (by rw [hz1]) (by show (a.b ++ [b]).length ≤ 128; rw [List.length_append]; simp; omega) ?_ ?_ ?_
  · show okBls z.o [] (a.b ++ [b]) = true
    rw [okBls_snoc, Bool.and_eq_true, List.nil_append]
    refine ⟨by rw [h8]; exact okBls_le (ven_set (y := billF b x) h1 rfl rfl) a.b [] ha.bb, ?_⟩
    unfold okBl
    rw [h7, hb.any]
    have e1 : ((billF b x).ven == b.ven) = true := by
      show (x.ven == b.ven) = true
      simpa using hbe.1
    rw [e1, winB_iff.2 ⟨hbe.2.1.1, by omega⟩, winB_iff.2 ⟨hbe.2.2.1, by omega⟩, winB_iff.2 hnum]
    rfl
  · show sumB (·.cop) (a.b ++ [b]) x.id = x.bil + b.cop ∧ sumB (·.amt) (a.b ++ [b]) x.id = x.paid + b.amt
    rw [sumB_snoc, sumB_snoc, if_pos h2.symm, if_pos h2.symm, hob.1, hob.2]
    exact ⟨rfl, rfl⟩
  · intro o hne
    show sumB (·.cop) (a.b ++ [b]) o.id = _ ∧ sumB (·.amt) (a.b ++ [b]) o.id = _
    rw [sumB_snoc, sumB_snoc, if_neg (fun e => hne (by rw [h2]; exact e.symm)), if_neg (fun e => hne (by rw [h2]; exact e.symm))]
    exact ⟨by omega, by omega⟩

/-! ### budgets, the next year -/
theorem budF_ok {am : Int} {x : Fu} (h : (budF am x).1 = 0) : (budF am x).2 = { x with budget := x.budget + am } ∧ mny am = true ∧ mny (x.budget + am) = true := by
  unfold budF at h ⊢
  split
  · rename_i h1; rw [Bool.and_eq_true] at h1; exact ⟨rfl, h1.1, h1.2⟩
  · rename_i h1; rw [if_neg h1] at h; simp at h
theorem bud_keepsP {a : Pa} (ha : OkP a) {id am : Int} (h : (budA a id am).1 = 0) : OkP (budA a id am).2 := by
  unfold budA withF at h ⊢
  split
  · rename_i h1
    obtain ⟨i, x, g1, g2, g3, g4⟩ := chR_inv h1
    obtain ⟨e1, e2, e3⟩ := budF_ok g3
    rw [e1] at g4
    have hM := ha.f.M x (List.mem_of_getElem? g1)
    have hfr := ha.f.free x (List.mem_of_getElem? g1)
    have m1 := mny_iff.1 e2
    have m2 := mny_iff.1 e3
    have hk : keys a.f = keys (a.f.set i { x with budget := x.budget + am }) := keys_set g1 rfl rfl
    have hv : Vld (a.f.set i { x with budget := x.budget + am }) := right_set ha.f g1 rfl rfl ⟨m2, hM.e, hM.s⟩ (by show x.enc + x.spent ≤ x.budget + am; omega)
    rw [g4]
    refine ⟨ha.yr, ha.nx, hv, ha.o, fun o ho => ⟨(ha.oo o ho).1, fun s hs => by rw [← (getF_keys hk s.fund).1]; exact (ha.oo o ho).2 s hs⟩, fun f hf => ?_, ha.sl, ha.ss, ha.bl, ha.bb, ha.ob⟩
    rcases List.mem_or_eq_of_mem_set hf with hf | rfl
    · exact ha.ff f hf
    · exact ha.ff x (List.mem_of_getElem? g1)
  · rename_i h1; rw [if_neg h1] at h; exact absurd h h1
theorem cls_keepsP {a : Pa} (ha : OkP a) (h : (clsA a).1 = 0) : OkP (clsA a).2 := by
  unfold clsA at h ⊢
  split
  · rename_i h1; rw [if_pos h1] at h; exact absurd h (by decide)
  · rename_i h1
    have hk := keys_cls false a.f
    have hv : Vld (a.f.map (clsF false)) := vld_of (by rw [← right_eq]; exact right_cls ha.f false)
    have hy := ha.yr
    refine ⟨⟨by show 1900 ≤ a.yr + 1; omega, by show a.yr + 1 ≤ 2199; omega⟩, ha.nx, hv, ha.o, fun o ho => ⟨(ha.oo o ho).1, fun s hs => by rw [← (getF_keys hk s.fund).1]; exact (ha.oo o ho).2 s hs⟩, fun f hf => ?_, ha.sl, ha.ss, ha.bl, ha.bb, ha.ob⟩
    obtain ⟨f0, h0, rfl⟩ := List.mem_map.1 hf
    exact ha.ff f0 h0
end Go.Proofs.YtbhndfphegflhaaGreat

/- Plain part of AcquireKeeps: an operation on a state. -/
namespace Go.Proofs.YtbhndfphegflhaaGreat
open Go.RowKit

/-- An operation. -/
structure Dd where
  kd : Int
  a : Int
  b : Int
  od : Od
  bl : Bl
def dooA (p : Pa) (d : Dd) : Int × Pa :=
  if d.kd = 0 then ordA p d.od else if d.kd = 1 then rcvA p d.a d.b else if d.kd = 2 then bilA p d.bl else if d.kd = 3 then stpA p d.a else if d.kd = 4 then budA p d.a d.b else if d.kd = 5 then clsA p else (21, p)
theorem doo_keeps {p : Pa} {d : Dd} (hp : OkP p) (h : (dooA p d).1 = 0) : OkP (dooA p d).2 := by
  unfold dooA at h ⊢
  by_cases h0 : d.kd = 0
  · rw [if_pos h0] at h ⊢; exact ord_keeps hp h
  rw [if_neg h0] at h ⊢
  by_cases h1 : d.kd = 1
  · rw [if_pos h1] at h ⊢; exact rcv_keepsP hp h
  rw [if_neg h1] at h ⊢
  by_cases h2 : d.kd = 2
  · rw [if_pos h2] at h ⊢; exact bil_keepsP hp h
  rw [if_neg h2] at h ⊢
  by_cases h3 : d.kd = 3
  · rw [if_pos h3] at h ⊢; exact stp_keepsP hp h
  rw [if_neg h3] at h ⊢
  by_cases h4 : d.kd = 4
  · rw [if_pos h4] at h ⊢; exact bud_keepsP hp h
  rw [if_neg h4] at h ⊢
  by_cases h5 : d.kd = 5
  · rw [if_pos h5] at h ⊢; exact cls_keepsP hp h
  rw [if_neg h5] at h
  exact absurd (show (21 : Int) = 0 from h) (by decide)
theorem rcv_len {p : Pa} {id m : Int} (h : (rcvA p id m).1 = 0) : (rcvA p id m).2.o.length = p.o.length := by
  unfold rcvA withOr at h ⊢
  split
  · rename_i h1
    rcases getO_cases p.o id with ⟨g1, _⟩ | ⟨i, x, g1, g2, g3, g4, g5⟩
    · unfold receiveO at h1; rw [opO_none g1] at h1; exact absurd h1 (by decide)
    have hop : receiveO p.o id m = if rcvE m x = 0 then (0, p.o.set i (rcvF m x)) else (rcvE m x, []) := opO_some g1 g4
    by_cases he : rcvE m x = 0
    · rw [if_pos he] at hop
      rw [hop]
      exact List.length_set
    · rw [if_neg he] at hop; rw [hop] at h1; exact absurd h1 he
  · rename_i h1; rw [if_neg h1] at h; exact absurd h h1
theorem fol_len {a : Pa} {id am : Int} {er : Od → Int} {g : Od → Od} {z : Pa} (h : FolOk a id am er g z) : z.o.length = a.o.length := by
  obtain ⟨i, x, h1, h2, h3, h4, h5, h6, h7, h8, h9⟩ := h.ex
  rw [h8, List.length_set]
theorem bud_len {p : Pa} {id am : Int} (h : (budA p id am).1 = 0) : (budA p id am).2.o = p.o := by
  unfold budA withF at h ⊢
  split
  · rfl
  · rename_i h1; rw [if_neg h1] at h; exact absurd h h1
theorem cls_len {p : Pa} (h : (clsA p).1 = 0) : (clsA p).2.o = p.o := by
  unfold clsA at h ⊢
  split
  · rename_i h1; rw [if_pos h1] at h; exact absurd h (by decide)
  · rfl
theorem doo_len {p : Pa} {d : Dd} (hp : OkP p) (h : (dooA p d).1 = 0) : (dooA p d).2.o.length ≤ p.o.length + 1 := by
  unfold dooA at h ⊢
  by_cases h0 : d.kd = 0
  · rw [if_pos h0] at h ⊢
    rw [(ord_ok hp.f h).o, List.length_append]; simp
  rw [if_neg h0] at h ⊢
  by_cases h1 : d.kd = 1
  · rw [if_pos h1] at h ⊢; rw [rcv_len h]; omega
  rw [if_neg h1] at h ⊢
  by_cases h2 : d.kd = 2
  · rw [if_pos h2] at h ⊢
    have hb := bil_ok hp h
    have hl := fol_len hb.fol
    rw [hb.z]
    show (folA p (billO p.o d.bl) d.bl.ord d.bl.amt).2.o.length ≤ _
    omega
  rw [if_neg h2] at h ⊢
  by_cases h3 : d.kd = 3
  · rw [if_pos h3] at h ⊢
    have hf : FolOk p d.a 0 stopE stopF (stpA p d.a).2 := folK_ok hp.f hp.o d.a 0 (fun _ => rfl) (fun _ => rfl) (fun x h1 h2 => (stop_ok h1 h2).1) h
    rw [fol_len hf]; omega
  rw [if_neg h3] at h ⊢
  by_cases h4 : d.kd = 4
  · rw [if_pos h4] at h ⊢; rw [bud_len h]; omega
  rw [if_neg h4] at h ⊢
  by_cases h5 : d.kd = 5
  · rw [if_pos h5] at h ⊢; rw [cls_len h]; omega
  rw [if_neg h5] at h
  exact absurd (show (21 : Int) = 0 from h) (by decide)
/-- What the law asks of each fund of a valid state. -/
theorem ok_fund {p : Pa} (hp : OkP p) {f : Fu} (hf : f ∈ p.f) : f.enc = rsvA p.o f.id ∧ 0 ≤ f.enc ∧ 0 ≤ freeF (getF p.f f.id).1 := by
  refine ⟨hp.ff f hf, (hp.f.M f hf).e.1, ?_⟩
  rcases getF_at (xs := p.f) (id := f.id) with ⟨_, h2⟩ | ⟨i, x, _, h2, _, h4⟩
  · rw [h2]; show (0 : Int) ≤ 0 - 0 - 0; omega
  · rw [h4]
    have := hp.f.free x (List.mem_of_getElem? h2)
    show 0 ≤ x.budget - x.enc - x.spent
    omega
end Go.Proofs.YtbhndfphegflhaaGreat
