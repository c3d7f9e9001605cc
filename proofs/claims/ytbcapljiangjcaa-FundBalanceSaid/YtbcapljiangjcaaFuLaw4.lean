/- Plain laws on funds: what transfers, reserving, giving free and spending leave. No walk. -/
import Derived.Test.YtbcapljiangjcaaFuLaw3
import Derived.Test.YtbcapljiangjcaaFuH
namespace Go.Proofs.Ytbcapljiangjcaa

def budS (xs : List Fu) : Int := (xs.map (·.budget)).sum
theorem budS_step {xs : List Fu} {k : Nat} {x : Fu} (h : xs[k]? = some x) : budS (xs.take (k + 1)) = budS (xs.take k) + x.budget := by
  obtain ⟨hk, rfl⟩ := List.getElem?_eq_some_iff.1 h
  unfold budS
  rw [List.take_succ_eq_append_getElem hk, List.map_append, List.sum_append]; simp
theorem budS_bd : ∀ {xs : List Fu}, (∀ x ∈ xs, FuM x) → 0 ≤ budS xs ∧ budS xs ≤ 100000000 * xs.length
  | [], _ => by simp [budS]
  | x :: r, h => by
    have h1 := (h x (by simp)).b
    have h2 := budS_bd (xs := r) (fun y hy => h y (by simp [hy]))
    have e : budS (x :: r) = x.budget + budS r := by simp [budS]
    rw [e, List.length_cons]
    omega
theorem budS_set : ∀ {xs : List Fu} {i : Nat} {x y : Fu}, xs[i]? = some x → budS (xs.set i y) = budS xs - x.budget + y.budget
  | [], _, _, _, h => by simp at h
  | z :: r, 0, x, y, h => by
    simp at h; subst h
    have e1 : budS (y :: r) = y.budget + budS r := by simp [budS]
    have e2 : budS (z :: r) = z.budget + budS r := by simp [budS]
    rw [List.set_cons_zero, e1, e2]; omega
  | z :: r, i + 1, x, y, h => by
    have ih := budS_set (xs := r) (i := i) (y := y) (x := x) (by simpa using h)
    have e1 : budS (z :: r.set i y) = z.budget + budS (r.set i y) := by simp [budS]
    have e2 : budS (z :: r) = z.budget + budS r := by simp [budS]
    rw [List.set_cons_succ, e1, e2, ih]; omega
theorem keys_set : ∀ {xs : List Fu} {i : Nat} {x y : Fu}, xs[i]? = some x → y.id = x.id → y.parent = x.parent → keys xs = keys (xs.set i y)
  | [], _, _, _, h, _, _ => by simp at h
  | z :: r, 0, x, y, h, h1, h2 => by simp at h; subst h; simp [keys, h1, h2]
  | z :: r, i + 1, x, y, h, h1, h2 => by
    have ih := keys_set (xs := r) (i := i) (y := y) (x := x) (by simpa using h) h1 h2
    unfold keys at ih ⊢
    rw [List.set_cons_succ, List.map_cons, List.map_cons, ih]
theorem getF_set : ∀ {xs : List Fu} {i : Nat} {x y : Fu} {id : Int}, xs[i]? = some x → x.id = id → (∀ w ∈ xs.take i, w.id ≠ id) → y.id = id → ∀ id', getF (xs.set i y) id' = if id' = id then (y, true) else getF xs id'
  | [], _, _, _, _, h, _, _, _, _ => by simp at h
  | z :: r, 0, x, y, id, h, h1, _, h2, id' => by
    simp at h; subst h
    rw [List.set_cons_zero, getF_cons, getF_cons, h1, h2]
    by_cases e : id = id'
    · rw [if_pos e, if_pos e.symm]
    · rw [if_neg e, if_neg (fun h => e h.symm), if_neg e]
  | z :: r, i + 1, x, y, id, h, h1, ht, h2, id' => by
    have hz : z.id ≠ id := ht z (by simp)
    have ih := getF_set (xs := r) (i := i) (y := y) (x := x) (id := id) (by simpa using h) h1 (fun w hw => ht w (by simp [hw])) h2 id'
    rw [List.set_cons_succ, getF_cons, getF_cons, ih]
    by_cases e : z.id = id'
    · rw [if_pos e, if_pos e, if_neg (fun h => hz (e.trans h))]
    · rw [if_neg e, if_neg e]

/-- A fund with an ID, its place, and none before it. -/
theorem at_cases (xs : List Fu) (id : Int) : (atF xs id = -1 ∧ getF xs id = (fu0, false)) ∨ ∃ (i : Nat) (x : Fu), atF xs id = i ∧ xs[i]? = some x ∧ x.id = id ∧ getF xs id = (x, true) ∧ ∀ w ∈ xs.take i, w.id ≠ id := by
  rcases getF_at (xs := xs) (id := id) with h | ⟨i, x, h1, h2, h3, h4⟩
  · exact .inl h
  · right
    rcases ix_cases (fun x : Fu => x.id == id) xs with ⟨g1, _⟩ | ⟨j, y, g1, g2, g3, g4⟩
    · unfold atF at h1; rw [g1] at h1; omega
    · have hji : j = i := by unfold atF at h1; rw [g1] at h1; omega
      subst hji
      exact ⟨j, x, h1, h2, h3, h4, fun w hw => by have := g4 w hw; simpa using this⟩

/-- One fund changed in its amounts alone, by amounts that fit. -/
theorem right_set {xs : List Fu} (hv : Vld xs) {i : Nat} {x y : Fu} (h : xs[i]? = some x) (h1 : y.id = x.id) (h2 : y.parent = x.parent) (hm : FuM y) (ho : y.enc + y.spent ≤ y.budget) : Vld (xs.set i y) := by
  refine vld_of (right_keys hv (keys_set h h1 h2) (fun z hz => ?_) (fun z hz => ?_))
  · rcases List.mem_or_eq_of_mem_set hz with hz | rfl
    · exact hv.M z hz
    · exact hm
  · rcases List.mem_or_eq_of_mem_set hz with hz | rfl
    · exact hv.free z hz
    · exact ho

theorem Vld.right {xs : List Fu} (h : Vld xs) : rightP xs = 0 := by
  rw [right_eq]
  exact right_keys h rfl h.M h.free

theorem set_back {xs : List Fu} {i : Nat} {x y : Fu} (h : xs[i]? = some x) : (xs.set i y).set i x = xs := by
  rw [List.set_set]; exact set_same h

/-- Transfers. -/
theorem tr_cases {xs : List Fu} (hv : Vld xs) (fr to am : Int) : (trR xs fr to am).1 ≠ 0 ∨
    ((trR xs fr to am).1 = 0 ∧ Vld (trR xs fr to am).2 ∧ budS (trR xs fr to am).2 = budS xs ∧ (0 ≤ am ∧ am ≤ 100000000) ∧
      freeF (getF (trR xs fr to am).2 fr).1 = freeF (getF xs fr).1 - am ∧ freeF (getF (trR xs fr to am).2 to).1 = freeF (getF xs to).1 + am) := by
  rcases at_cases xs fr with ⟨h1, h2⟩ | ⟨i, x, h1, h2, h3, h4, h5⟩
  · left; unfold trR; rw [if_pos (by omega)]; simp
  · rcases at_cases xs to with ⟨g1, g2⟩ | ⟨k, z, g1, g2, g3, g4, g5⟩
    · left; unfold trR; rw [if_pos (by omega)]; simp
    · by_cases hft : fr = to
      · left; unfold trR; rw [if_neg (by omega), if_pos hft]; simp
      · by_cases hmn : mny am = false
        · left; unfold trR; rw [if_neg (by omega), if_neg hft, if_pos hmn]; simp
        · by_cases hfa : freeF x < am
          · left; unfold trR; rw [if_neg (by omega), if_neg hft, if_neg hmn, h4, if_pos hfa]; simp
          · by_cases hmb : mny (z.budget + am) = false
            · left; unfold trR; rw [if_neg (by omega), if_neg hft, if_neg hmn, h4, if_neg hfa, g4, if_pos hmb]; simp
            · right
              have e1 : trR xs fr to am = (0, (xs.set i (chg (-am) 0 0 x)).set k (chg am 0 0 z)) := by
                unfold trR; rw [if_neg (by omega), if_neg hft, if_neg hmn, h4, if_neg hfa, g4, if_neg hmb, h1, g1]; rfl
              rw [e1]
              have hik : i ≠ k := fun e => hft ((id_idx h1 h2 h3 g1 g2 g3).1 e)
              have ham := mny_iff.1 (by simpa using hmn : mny am = true)
              have hbm := mny_iff.1 (by simpa using hmb : mny (z.budget + am) = true)
              have hx := hv.M x (List.mem_of_getElem? h2)
              have hz := hv.M z (List.mem_of_getElem? g2)
              have hxo := hv.free x (List.mem_of_getElem? h2)
              have hzo := hv.free z (List.mem_of_getElem? g2)
              have hxb := hx.b
              have hxe := hx.e
              have hxs := hx.s
              have hzb := hz.b
              have hze := hz.e
              have hzs := hz.s
              have hfa' : am ≤ x.budget - x.enc - x.spent := by unfold freeF at hfa; omega
              have v1 : Vld (xs.set i (chg (-am) 0 0 x)) := right_set hv h2 rfl rfl ⟨by simp only [chg]; omega, by simp only [chg]; omega, by simp only [chg]; omega⟩ (by simp only [chg]; omega)
              have k2 : (xs.set i (chg (-am) 0 0 x))[k]? = some z := by rw [List.getElem?_set, if_neg hik]; exact g2
              have v2 : Vld ((xs.set i (chg (-am) 0 0 x)).set k (chg am 0 0 z)) := right_set v1 k2 rfl rfl ⟨by simp only [chg]; omega, by simp only [chg]; omega, by simp only [chg]; omega⟩ (by simp only [chg]; omega)
              have t1 : ∀ w ∈ (xs.set i (chg (-am) 0 0 x)).take k, w.id ≠ to := by
                intro w hw
                rw [List.take_set] at hw
                rcases List.mem_or_eq_of_mem_set hw with hw | rfl
                · exact g5 w hw
                · show x.id ≠ to
                  rw [h3]; exact hft
              refine ⟨rfl, v2, ?_, ham, ?_, ?_⟩
              · rw [budS_set k2, budS_set h2]; simp only [chg]; omega
              · dsimp only; rw [getF_set (y := chg am 0 0 z) k2 g3 t1 g3, if_neg hft, getF_set (y := chg (-am) 0 0 x) h2 h3 h5 h3, if_pos rfl, h4]; simp only [freeF, chg]; omega
              · dsimp only; rw [getF_set (y := chg am 0 0 z) k2 g3 t1 g3, if_pos rfl, g4]; simp only [freeF, chg]; omega

/-- Reserving, and giving free again. -/
theorem enc_cases {xs : List Fu} (hv : Vld xs) (id am : Int) : (chR (encF am) xs id).1 ≠ 0 ∨
    ((chR (encF am) xs id).1 = 0 ∧ Vld (chR (encF am) xs id).2 ∧ chR (relF am) (chR (encF am) xs id).2 id = (0, xs)) := by
  rcases at_cases xs id with ⟨h1, h2⟩ | ⟨i, x, h1, h2, h3, h4, h5⟩
  · left; rw [chR_none h1]; simp
  · by_cases h0 : (encF am x).1 = 0
    · right
      rw [chR_ok h1 h4 h0]
      have hmn : mny am = true := by unfold encF at h0; cases h : mny am with | true => rfl | false => rw [if_pos h] at h0; simp at h0
      have hfr : ¬ freeF x < am := fun h => by unfold encF at h0; rw [if_neg (by rw [hmn]; decide), if_pos h] at h0; simp at h0
      have e2 : (encF am x).2 = { x with enc := x.enc + am } := by unfold encF; rw [if_neg (by rw [hmn]; decide), if_neg hfr]
      rw [e2]
      have ham := mny_iff.1 hmn
      have hx := hv.M x (List.mem_of_getElem? h2)
      have hxb := hx.b
      have hxe := hx.e
      have hxs := hx.s
      have hf' : am ≤ x.budget - x.enc - x.spent := by unfold freeF at hfr; omega
      have v1 : Vld (xs.set i { x with enc := x.enc + am }) := right_set hv h2 rfl rfl ⟨by show 0 ≤ x.budget ∧ _; omega, by show 0 ≤ x.enc + am ∧ x.enc + am ≤ _; omega, by show 0 ≤ x.spent ∧ _; omega⟩ (by show x.enc + am + x.spent ≤ x.budget; omega)
      have a1 : atF (xs.set i { x with enc := x.enc + am }) id = i := by rw [atF_set (y := { x with enc := x.enc + am }) h2 rfl, h1]
      have g1 : getF (xs.set i { x with enc := x.enc + am }) id = ({ x with enc := x.enc + am }, true) := by rw [getF_set (y := { x with enc := x.enc + am }) h2 h3 h5 h3, if_pos rfl]
      have r1 : relF am { x with enc := x.enc + am } = (0, x) := by
        unfold relF
        rw [if_neg (by rw [hmn]; decide), if_neg (by show ¬ x.enc + am < am; omega)]
        congr 1
        show ({ x with enc := x.enc + am - am } : Fu) = x
        rw [show x.enc + am - am = x.enc from by omega]
      refine ⟨rfl, v1, ?_⟩
      rw [chR_ok a1 g1 (by rw [r1]), r1, set_back h2]
    · left; rw [chR_err h1 h4 h0]; exact h0

/-- Spending. -/
theorem spd_cases {xs : List Fu} (hv : Vld xs) (id re am : Int) : ((chR (spdF re am) xs id).1 ≠ 0 ∧ (chR (spdF re am) xs id).2 = []) ∨
    ((chR (spdF re am) xs id).1 = 0 ∧ Vld (chR (spdF re am) xs id).2 ∧ (0 ≤ re ∧ re ≤ 100000000) ∧ (0 ≤ am ∧ am ≤ 100000000) ∧
      freeF (getF (chR (spdF re am) xs id).2 id).1 = freeF (getF xs id).1 + re - am) := by
  rcases at_cases xs id with ⟨h1, h2⟩ | ⟨i, x, h1, h2, h3, h4, h5⟩
  · left; rw [chR_none h1]; simp
  · by_cases h0 : (spdF re am x).1 = 0
    · right
      rw [chR_ok h1 h4 h0]
      have hmn : ¬ (mny re = false ∨ mny am = false) := fun h => by
        unfold spdF at h0
        rw [if_pos (by rcases h with h | h <;> simp [h])] at h0
        simp at h0
      have hmr : mny re = true := by cases h : mny re with | true => rfl | false => exact absurd (.inl h) hmn
      have hma : mny am = true := by cases h : mny am with | true => rfl | false => exact absurd (.inr h) hmn
      have hg : ¬ (mny re = false || mny am = false) = true := by simp [hmr, hma]
      have hfr : ¬ (x.enc < re ∨ freeF x + re < am) := fun h => by unfold spdF at h0; rw [if_neg hg, if_pos h] at h0; simp at h0
      have e2 : (spdF re am x).2 = { x with enc := x.enc - re, spent := x.spent + am } := by unfold spdF; rw [if_neg hg, if_neg hfr]
      rw [e2]
      have har := mny_iff.1 hmr
      have ham := mny_iff.1 hma
      have hx := hv.M x (List.mem_of_getElem? h2)
      have hxb := hx.b
      have hxe := hx.e
      have hxs := hx.s
      have hf' : re ≤ x.enc ∧ am ≤ x.budget - x.enc - x.spent + re := by unfold freeF at hfr; omega
      refine ⟨rfl, right_set hv h2 rfl rfl ⟨by show 0 ≤ x.budget ∧ _; omega, by show 0 ≤ x.enc - re ∧ x.enc - re ≤ _; omega, by show 0 ≤ x.spent + am ∧ x.spent + am ≤ _; omega⟩ (by show x.enc - re + (x.spent + am) ≤ x.budget; omega), har, ham, ?_⟩
      dsimp only
      rw [getF_set (y := { x with enc := x.enc - re, spent := x.spent + am }) h2 h3 h5 h3, if_pos rfl, h4]
      simp only [freeF]; omega
    · left; rw [chR_err h1 h4 h0]; exact ⟨h0, rfl⟩
theorem free_bd {xs : List Fu} (hv : Vld xs) (id : Int) : 0 ≤ freeF (getF xs id).1 ∧ freeF (getF xs id).1 ≤ 100000000 := by
  rcases at_cases xs id with ⟨h1, h2⟩ | ⟨i, x, h1, h2, h3, h4, h5⟩
  · rw [h2]; simp [freeF, fu0]
  · rw [h4]
    have hx := hv.M x (List.mem_of_getElem? h2)
    have hxb := hx.b
    have hxe := hx.e
    have hxs := hx.s
    have := hv.free x (List.mem_of_getElem? h2)
    simp only [freeF]; omega
end Go.Proofs.Ytbcapljiangjcaa
