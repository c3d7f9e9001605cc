/- Dividing an amount: the parts that the sort picks are those that repeated picking of the greatest remainder takes. Plain. -/
import Derived.Test.YtdbanekjjibpbaaShPlain
namespace Go.Proofs.Ytdbanekjjibpbaa

/-! ### the order of the sort -/
/-- a stands before b: a greater remainder, or the same and a smaller index. -/
def Rk (f : Int → Int) (a b : Int) : Prop := f b < f a ∨ (f a = f b ∧ a < b)
theorem insK_spec (f : Int → Int) (x : Int) (P : List Int) : ∀ j, j ≤ P.length → (∀ i, insK (fun a b => f b - f a) x P j ≤ i → i < j → f (P.getD i 0) < f x) ∧ (∀ i, i + 1 = insK (fun a b => f b - f a) x P j → f x ≤ f (P.getD i 0))
  | 0, _ => ⟨fun i _ h => by omega, fun i h => by simp [insK] at h⟩
  | j + 1, hj => by
    rw [insK]
    split
    · rename_i h
      obtain ⟨h1, h2⟩ := insK_spec f x P j (by omega)
      refine ⟨fun i h3 h4 => ?_, h2⟩
      by_cases hij : i = j
      · subst hij; omega
      · exact h1 i h3 (by omega)
    · rename_i h
      refine ⟨fun i h3 h4 => by omega, fun i h3 => ?_⟩
      obtain rfl : i = j := by omega
      omega
theorem insF_pw {f : Int → Int} {x : Int} {P : List Int} (hP : P.Pairwise (Rk f)) (hx : ∀ y ∈ P, y < x) : (insF (fun a b => f b - f a) x P).Pairwise (Rk f) := by
  obtain ⟨h1, h2⟩ := insK_spec f x P P.length (Nat.le_refl _)
  have hle := insK_le (fun a b => f b - f a) x P P.length
  unfold insF
  generalize insK (fun a b => f b - f a) x P P.length = k at h1 h2 hle
  rw [List.pairwise_append]
  have hsp := hP
  rw [← List.take_append_drop k P, List.pairwise_append] at hsp
  obtain ⟨p1, p2, p3⟩ := hsp
  have hd : ∀ y ∈ P.drop k, f y < f x := by
    intro y hy
    obtain ⟨i, hi⟩ := List.mem_iff_getElem?.1 hy
    rw [List.getElem?_drop] at hi
    have := h1 (k + i) (by omega) (List.getElem?_eq_some_iff.1 hi).1
    rwa [List.getD_eq_getElem?_getD, hi] at this
  have ht : ∀ y ∈ P.take k, f x ≤ f y := by
    intro y hy
    obtain ⟨i, hi⟩ := List.mem_iff_getElem?.1 hy
    have hik : i < k := by have := (List.getElem?_eq_some_iff.1 hi).1; simp at this; omega
    rw [List.getElem?_take, if_pos hik] at hi
    have hl := h2 (k - 1) (by omega)
    have hkl : P[k - 1]? = some (P[k - 1]'(by omega)) := List.getElem?_eq_getElem _
    rw [List.getD_eq_getElem?_getD, hkl] at hl
    by_cases he : i = k - 1
    · subst he
      rw [hi] at hkl
      cases hkl
      simpa using hl
    · have := List.pairwise_iff_getElem.1 hP i (k - 1) (by omega) (by omega) (by omega)
      obtain ⟨hi1, rfl⟩ := List.getElem?_eq_some_iff.1 hi
      simp at hl
      rcases this with h | ⟨h, _⟩ <;> omega
  refine ⟨p1, ?_, ?_⟩
  · rw [List.pairwise_cons]
    exact ⟨fun y hy => .inl (hd y hy), p2⟩
  · intro a ha b hb
    rcases List.mem_cons.1 hb with rfl | hb
    · have := ht a ha
      have h5 := hx a (List.mem_of_mem_take ha)
      unfold Rk; omega
    · exact p3 a ha b hb
theorem isort_pw (f : Int → Int) : ∀ n : Nat, (isort (fun a b => f b - f a) (rangeI n)).Pairwise (Rk f)
  | 0 => by simp [rangeI, isort]
  | n + 1 => by
    have e : rangeI (n + 1) = rangeI n ++ [(n : Int)] := by simp [rangeI, List.range_succ]
    rw [e, isort_snoc]
    refine insF_pw (isort_pw f n) (fun y hy => ?_)
    rw [isort_mem] at hy
    simp only [rangeI, List.mem_map, List.mem_range] at hy
    obtain ⟨i, hi, rfl⟩ := hy
    simp; omega
theorem ordF_pw (t S : Int) (ws : List Int) : (ordF t S ws).Pairwise (Rk (remF t S ws)) := isort_pw (remF t S ws) ws.length
theorem ordF_len (t S : Int) (ws : List Int) : (ordF t S ws).length = ws.length := by unfold ordF; rw [isort_len]; simp [rangeI]
theorem ordF_mem {t S : Int} {ws : List Int} {x : Int} : x ∈ ordF t S ws ↔ 0 ≤ x ∧ x < ws.length := by
  unfold ordF
  rw [isort_mem]
  simp only [rangeI, List.mem_map, List.mem_range]
  constructor
  · rintro ⟨i, hi, rfl⟩; simp; omega
  · rintro ⟨h1, h2⟩; exact ⟨x.toNat, by omega, by simp; omega⟩

/-! ### what is left of the remainders -/
def remsF (t S : Int) (ws : List Int) : List Int := ws.map (fun w => t * w % S)
def rsF (r : List Int) (js : List Int) : List Int := js.foldl (fun r j => r.set j.toNat (-1)) r
theorem rsF_len (js : List Int) : ∀ r : List Int, (rsF r js).length = r.length := by
  induction js with
  | nil => intro r; rfl
  | cons j js ih => intro r; unfold rsF at ih ⊢; rw [List.foldl_cons, ih]; simp
theorem rsF_get : ∀ (js r : List Int), (∀ j ∈ js, 0 ≤ j) → ∀ q : Nat, q < r.length → (rsF r js).getD q 0 = if (q : Int) ∈ js then -1 else r.getD q 0
  | [], r, _, q, _ => by simp [rsF]
  | j :: js, r, hj, q, hq => by
    have ih := rsF_get js (r.set j.toNat (-1)) (fun i hi => hj i (by simp [hi])) q (by simpa using hq)
    unfold rsF at ih ⊢
    rw [List.foldl_cons, ih]
    have h0 := hj j (by simp)
    by_cases h1 : (q : Int) ∈ js
    · simp [h1]
    · rw [if_neg h1]
      by_cases h2 : (q : Int) = j
      · have : j.toNat = q := by omega
        rw [if_pos (by simp [h2]), this, List.getD_eq_getElem?_getD, List.getElem?_set, if_pos rfl, if_pos (by omega)]; rfl
      · have : ¬ j.toNat = q := by omega
        rw [if_neg (by simp [h1, h2]), List.getD_eq_getElem?_getD, List.getElem?_set, if_neg this, ← List.getD_eq_getElem?_getD]
theorem rsF_step (r : List Int) (is : List Int) (k : Nat) (x : Int) (h : is[k]? = some x) : rsF r (is.take (k + 1)) = (rsF r (is.take k)).set x.toNat (-1) := by
  unfold rsF; rw [take_step h, List.foldl_append]; rfl
/-- b is the first of the greatest among the first n. -/
def Best (r : List Int) (n b : Nat) : Prop := b < n ∧ ∀ q, q < n → r.getD q 0 < r.getD b 0 ∨ (r.getD q 0 = r.getD b 0 ∧ b ≤ q)
theorem Best.one (r : List Int) : Best r 1 0 := by
  refine ⟨by omega, fun q hq => .inr ?_⟩
  obtain rfl : q = 0 := by omega
  exact ⟨rfl, Nat.le_refl _⟩
theorem Best.keep {r : List Int} {n b : Nat} (h : Best r n b) (hx : ¬ r.getD b 0 < r.getD n 0) : Best r (n + 1) b := by
  refine ⟨by have := h.1; omega, fun q hq => ?_⟩
  by_cases hqn : q = n
  · subst hqn; have := h.1; omega
  · exact h.2 q (by omega)
theorem Best.next {r : List Int} {n b : Nat} (h : Best r n b) (hx : r.getD b 0 < r.getD n 0) : Best r (n + 1) n := by
  refine ⟨by omega, fun q hq => ?_⟩
  by_cases hqn : q = n
  · subst hqn; exact .inr ⟨rfl, Nat.le_refl _⟩
  · rcases h.2 q (by omega) with h | ⟨h, _⟩ <;> omega
theorem remF_get {t S : Int} {ws : List Int} {q : Nat} (h : q < ws.length) : remF t S ws q = (remsF t S ws).getD q 0 := by
  unfold remF remsF
  rw [Int.toNat_natCast, List.getD_eq_getElem?_getD, List.getD_eq_getElem?_getD, List.getElem?_map, List.getElem?_eq_getElem h]; rfl
theorem best_ord {t S : Int} {ws : List Int} (hS : 0 < S) {j b : Nat} (hj : j < ws.length) (hb : Best (rsF (remsF t S ws) ((ordF t S ws).take j)) ws.length b) : (ordF t S ws)[j]? = some (b : Int) := by
  have hlo := ordF_len t S ws
  have hpw := ordF_pw t S ws
  have hmem : ∀ x, x ∈ ordF t S ws ↔ 0 ≤ x ∧ x < ws.length := fun x => ordF_mem
  generalize ordF t S ws = os at hlo hpw hmem hb ⊢
  obtain ⟨b1, b2⟩ := hb
  have hrl : (remsF t S ws).length = ws.length := by simp [remsF]
  have hpos : ∀ q : Nat, q < ws.length → 0 ≤ (remsF t S ws).getD q 0 := by
    intro q hq
    rw [List.getD_eq_getElem?_getD, List.getElem?_eq_getElem (by omega)]
    simp only [remsF, List.getElem_map, Option.getD_some]
    exact Int.emod_nonneg _ (by omega)
  have hget := fun q (hq : q < ws.length) => rsF_get (os.take j) (remsF t S ws) (fun x hx => ((hmem x).1 (List.mem_of_mem_take hx)).1) q (by omega)
  have hoj : os[j]? = some (os[j]'(by omega)) := List.getElem?_eq_getElem _
  obtain ⟨o, ho⟩ : ∃ o, o = os[j]'(by omega) := ⟨_, rfl⟩
  rw [← ho] at hoj
  obtain ⟨o1, o2⟩ := (hmem o).1 (List.mem_of_getElem? hoj)
  obtain ⟨on, rfl⟩ : ∃ on : Nat, o = on := ⟨o.toNat, by omega⟩
  have honl : on < ws.length := by omega
  have hpwi := List.pairwise_iff_getElem.1 hpw
  have hirr : ∀ x, ¬ Rk (remF t S ws) x x := by intro x h; unfold Rk at h; omega
  have hon : ¬ (on : Int) ∈ os.take j := by
    intro h
    obtain ⟨i, hi⟩ := List.mem_iff_getElem?.1 h
    have hij : i < j := by have := (List.getElem?_eq_some_iff.1 hi).1; simp at this; omega
    rw [List.getElem?_take, if_pos hij] at hi
    obtain ⟨hi1, hi2⟩ := List.getElem?_eq_some_iff.1 hi
    have := hpwi i j hi1 (by omega) hij
    rw [hi2, ← ho] at this
    exact hirr _ this
  have e1 := hget on honl
  rw [if_neg hon] at e1
  have e2 := hget b b1
  have hbo := b2 on honl
  rw [e1] at hbo
  have hp := hpos on honl
  by_cases hbt : (b : Int) ∈ os.take j
  · rw [if_pos hbt] at e2
    rw [e2] at hbo
    omega
  · rw [if_neg hbt] at e2
    rw [e2] at hbo
    have hbm : (b : Int) ∈ os := (hmem _).2 (by omega)
    obtain ⟨m, hm⟩ := List.mem_iff_getElem?.1 hbm
    obtain ⟨hm1, hm2⟩ := List.getElem?_eq_some_iff.1 hm
    rcases Nat.lt_trichotomy m j with h | h | h
    · exact absurd (List.mem_of_getElem? (i := m) (by rw [List.getElem?_take, if_pos h]; exact hm)) hbt
    · rw [← h]; exact hm
    · have := hpwi j m (by omega) hm1 h
      rw [hm2, ← ho] at this
      unfold Rk at this
      rw [remF_get b1, remF_get honl] at this
      omega
end Go.Proofs.Ytdbanekjjibpbaa
