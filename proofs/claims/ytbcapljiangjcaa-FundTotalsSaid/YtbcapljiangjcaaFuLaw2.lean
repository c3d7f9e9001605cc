/- Plain laws on funds: totals. No walk. -/
import Derived.Test.YtbcapljiangjcaaFuLaw
import Derived.Test.YtbcapljiangjcaaFuO
namespace Go.Proofs.Ytbcapljiangjcaa

theorem noCyc {xs : List Fu} (h : Tid xs) (hc : cycR xs = false) {a : Int} (ha : a ≠ 0) (n : Nat) : nxs xs (n + 1) a ≠ a := by
  intro hcyc
  have hf : nx xs a ≠ 0 := fun e => by rw [nxs, e, nxs_zero h] at hcyc; exact ha hcyc.symm
  obtain ⟨h2, h3⟩ := getF_true (nx_found hf)
  rw [← loop_cyc h] at hc
  unfold loopR at hc
  rw [List.any_eq_false] at hc
  have h4 := hc _ h2
  rw [lpR_nxs h] at h4
  have h5 : nxs xs (xs.length + 1) (nx xs a) = 0 := by simpa [nx] using h4
  have hk : ∀ k, nxs xs (k * (n + 1)) a = a := by
    intro k
    induction k with
    | zero => rw [Nat.zero_mul]; rfl
    | succ k ih => rw [Nat.add_mul, Nat.one_mul, nxs_add, ih, hcyc]
  have h1 : nxs xs (xs.length + 2) a = 0 := by rw [nxs]; exact h5
  have h2 := hk (xs.length + 2)
  rw [nxs_stay h h1 (by rw [Nat.mul_add]; omega)] at h2
  exact ha h2.symm

theorem chn_at {xs : List Fu} (h : Tid xs) (hc : cycR xs = false) (x : Fu) {y : Int} (hy : y ≠ 0) : ∀ (f : Nat) (a : Int) (S : Int → Fu),
    chn (upF xs) x f a S y = if wiR xs f a y = true then addF (S y) x else S y
  | 0, a, S => rfl
  | f + 1, a, S => by
    rw [chn]
    by_cases ha : a = 0
    · rw [if_pos ha, if_neg]
      rw [wiR_nxs h hy]
      rintro ⟨n, _, hn⟩
      rw [ha, nxs_zero h] at hn
      exact hy hn.symm
    · rw [if_neg ha, chn_at h hc x hy f, upF_nx h.dif]
      by_cases hya : y = a
      · subst hya
        have h1 : ¬ wiR xs f (nx xs y) y = true := by
          rw [wiR_nxs h hy]
          rintro ⟨n, _, hn⟩
          exact noCyc h hc hy n hn
        rw [if_neg h1, if_pos rfl, if_pos (by rw [wiR_nxs h hy]; exact ⟨0, by omega, rfl⟩)]
      · rw [if_neg hya]
        have h1 : wiR xs f (nx xs a) y = true ↔ wiR xs (f + 1) a y = true := by
          rw [wiR_nxs h hy, wiR_nxs h hy]
          constructor
          · rintro ⟨n, h1, h2⟩; exact ⟨n + 1, by omega, h2⟩
          · rintro ⟨n, h1, h2⟩
            cases n with
            | zero => exact absurd h2.symm hya
            | succ n => exact ⟨n, by omega, h2⟩
        by_cases h2 : wiR xs f (nx xs a) y = true
        · rw [if_pos h2, if_pos (h1.1 h2)]
        · rw [if_neg h2, if_neg (fun h => h2 (h1.2 h))]

theorem sums_tot {xs : List Fu} (h : Tid xs) (hc : cycR xs = false) {y : Int} (hy : y ≠ 0) : ∀ (ys : List Fu) (S : Int → Fu),
    ys.foldl (fun S x => chn (upF xs) x (xs.length + 1) x.id S) S y = totA (fun x => wiR xs (xs.length + 1) x.id y) (S y) ys
  | [], S => rfl
  | x :: r, S => by
    rw [List.foldl_cons, sums_tot h hc hy r, chn_at h hc x hy, totA, totA, List.foldl_cons]

theorem totA_named (p : Fu → Bool) (i q : Int) : ∀ (ys : List Fu) (t : Fu), totA p { t with id := i, parent := q } ys = { totA p t ys with id := i, parent := q }
  | [], _ => rfl
  | x :: r, t => by
    rw [totA, totA, List.foldl_cons, List.foldl_cons]
    by_cases hp : p x = true
    · rw [if_pos hp, if_pos hp]; exact totA_named p i q r (addF t x)
    · rw [if_neg hp, if_neg hp]; exact totA_named p i q r t

/-- The program's total is the reference's. -/
theorem tot_eq {xs : List Fu} (h : Tid xs) (hc : cycR xs = false) (id : Int) : totP xs id = totR xs id := by
  unfold totP totR
  cases hb : (getF xs id).2 with
  | false => rfl
  | true =>
    rw [if_pos rfl, if_pos rfl]
    obtain ⟨h1, h2⟩ := getF_true hb
    have hid : id ≠ 0 := by have := h.pos _ h1; omega
    have := sums_tot h hc hid xs (fun _ => fu0)
    unfold sumsP
    rw [this, ← totA_named]
    rfl

/-! ### the total of a fund and those of the funds directly below it -/
def sm (f : Fu → Int) (xs : List Fu) : Int := (xs.map f).sum
theorem sm_cons (f : Fu → Int) (x : Fu) (r : List Fu) : sm f (x :: r) = f x + sm f r := by simp [sm]
theorem sm_congr {f g : Fu → Int} : ∀ {xs : List Fu}, (∀ x ∈ xs, f x = g x) → sm f xs = sm g xs
  | [], _ => rfl
  | x :: r, h => by rw [sm_cons, sm_cons, h x (by simp), sm_congr (fun y hy => h y (by simp [hy]))]
theorem sm_add (f g : Fu → Int) : ∀ (xs : List Fu), sm (fun x => f x + g x) xs = sm f xs + sm g xs
  | [] => rfl
  | x :: r => by rw [sm_cons, sm_cons, sm_cons, sm_add f g r]; omega
theorem sm_zero : ∀ (xs : List Fu), sm (fun _ => 0) xs = 0
  | [] => rfl
  | x :: r => by rw [sm_cons, sm_zero r]; rfl
theorem sm_swap (P : Fu → Bool) (W : Fu → Fu → Bool) (g : Fu → Int) (xs : List Fu) : ∀ (ys : List Fu),
    sm (fun c => if P c = true then sm (fun y => if W y c = true then g y else 0) ys else 0) xs = sm (fun y => sm (fun c => if (P c && W y c) = true then g y else 0) xs) ys
  | [] => by
    rw [sm_congr (g := fun _ => 0) (by intro c _; split <;> rfl), sm_zero]; rfl
  | y :: r => by
    rw [sm_cons, ← sm_swap P W g xs r, ← sm_add]
    refine sm_congr (fun c _ => ?_)
    rw [sm_cons]
    by_cases h1 : P c = true
    · rw [if_pos h1, if_pos h1, h1, Bool.true_and]
    · rw [if_neg h1, if_neg h1]
      have h2 : P c = false := by simpa using h1
      rw [h2, Bool.false_and, if_neg (by decide)]; rfl
theorem sm_none (Q : Fu → Bool) (h : Fu → Int) : ∀ {xs : List Fu}, (∀ c ∈ xs, Q c = false) → sm (fun c => if Q c = true then h c else 0) xs = 0
  | [], _ => rfl
  | x :: r, hn => by
    rw [sm_cons, sm_none Q h (fun c hc => hn c (by simp [hc])), hn x (by simp), if_neg (by decide)]; rfl
theorem sm_one (Q : Fu → Bool) (h : Fu → Int) {c : Fu} : ∀ {xs : List Fu}, Dif xs → (∀ d ∈ xs, Q d = true → d.id = c.id) → c ∈ xs → Q c = true →
    sm (fun c => if Q c = true then h c else 0) xs = h c
  | [], _, _, hc, _ => by simp at hc
  | x :: r, hd, hu, hc, hq => by
    obtain ⟨h1, h2⟩ := List.pairwise_cons.1 hd
    rw [sm_cons]
    rcases List.mem_cons.1 hc with rfl | hc'
    · rw [if_pos hq, sm_none Q h (fun d hd' => ?_)]
      · omega
      · cases hqd : Q d with
        | false => rfl
        | true => have := hu d (by simp [hd']) hqd; have := h1 d hd'; omega
    · rw [if_neg (fun hqx => ?_), sm_one Q h h2 (fun d hd' => hu d (by simp [hd'])) hc' hq]
      · omega
      · have := hu x (by simp) hqx
        have := h1 c hc'
        omega

theorem wi_iff {xs : List Fu} (h : Tid xs) (hc : cycR xs = false) {x : Fu} (hx : x ∈ xs) (y : Int) : wiR xs (xs.length + 1) y x.id = true ↔ ∃ n, nxs xs n y = x.id := by
  have hid : x.id ≠ 0 := by have := h.pos _ hx; omega
  rw [wiR_nxs h hid]
  constructor
  · rintro ⟨n, _, hn⟩; exact ⟨n, hn⟩
  · rintro ⟨n, hn⟩
    refine ⟨n, ?_, hn⟩
    apply Classical.byContradiction
    intro hbig
    have hmem : ∀ i, i ≤ (xs.map (·.id)).length → nxs xs i y ∈ xs.map (·.id) := by
      intro i hi
      rw [List.length_map] at hi
      have h1 : nx xs (nxs xs i y) ≠ 0 := by
        intro h0
        have h2 : nxs xs (i + 1) y = 0 := by rw [nxs_add xs i 1]; exact h0
        rw [nxs_stay h h2 (by omega)] at hn
        exact hid hn.symm
      obtain ⟨h2, h3⟩ := getF_true (nx_found h1)
      exact List.mem_map.2 ⟨_, h2, h3⟩
    obtain ⟨i, j, hij, hj, he⟩ := pigeon (fun i => nxs xs i y) _ hmem
    rw [List.length_map] at hj
    have hi0 : nxs xs i y ≠ 0 := by
      intro h0
      rw [nxs_stay h h0 (by omega)] at hn
      exact hid hn.symm
    refine noCyc h hc hi0 (j - i - 1) ?_
    rw [← nxs_add, show i + (j - i - 1 + 1) = j from by omega]
    exact he.symm

theorem nx_mem {xs : List Fu} (h : Tid xs) {x : Fu} (hx : x ∈ xs) : nx xs x.id = x.parent := by unfold nx; rw [getF_mem h.dif hx]

/-- A fund is within another one just if it is this one, or within exactly one of those directly below it. -/
theorem wi_split {xs : List Fu} (h : Tid xs) (hc : cycR xs = false) {x y : Fu} (hx : x ∈ xs) (k : Int) :
    (if wiR xs (xs.length + 1) y.id x.id = true then k else 0) =
      (if decide (y.id = x.id) = true then k else 0) + sm (fun c => if (decide (c.parent = x.id) && wiR xs (xs.length + 1) y.id c.id) = true then k else 0) xs := by
  have hid : x.id ≠ 0 := by have := h.pos _ hx; omega
  by_cases hyx : y.id = x.id
  · rw [sm_none _ (fun _ => k) (fun c hcm => ?_), if_pos ((wi_iff h hc hx _).2 ⟨0, hyx⟩), if_pos (show decide (y.id = x.id) = true by simpa using hyx)]
    · omega
    · cases hq : (decide (c.parent = x.id) && wiR xs (xs.length + 1) y.id c.id) with
      | false => rfl
      | true =>
        exfalso
        rw [Bool.and_eq_true, decide_eq_true_eq, wi_iff h hc hcm] at hq
        obtain ⟨hp, n, hn⟩ := hq
        refine noCyc h hc hid n ?_
        rw [nxs_add xs n 1, ← hyx, hn, hyx, ← hp]
        exact nx_mem h hcm
  · rw [if_neg (show ¬ decide (y.id = x.id) = true by simpa using hyx)]
    by_cases hw : wiR xs (xs.length + 1) y.id x.id = true
    · obtain ⟨n, hn⟩ := (wi_iff h hc hx _).1 hw
      obtain ⟨m, rfl⟩ : ∃ m, n = m + 1 := ⟨n - 1, by
        have : n ≠ 0 := by rintro rfl; exact hyx hn
        omega⟩
      rw [nxs_add xs m 1] at hn
      have hf : nx xs (nxs xs m y.id) = x.id := hn
      obtain ⟨h2, h3⟩ := getF_true (nx_found (xs := xs) (id := nxs xs m y.id) (by rw [hf]; exact hid))
      generalize (getF xs (nxs xs m y.id)).1 = c at h2 h3
      have hcp : c.parent = x.id := by rw [← nx_mem h h2, h3]; exact hf
      rw [if_pos hw, sm_one (fun c => decide (c.parent = x.id) && wiR xs (xs.length + 1) y.id c.id) (fun _ => k) (c := c) h.dif ?_ h2 ?_]
      · omega
      · intro d hd hq
        rw [Bool.and_eq_true, decide_eq_true_eq, wi_iff h hc hd] at hq
        obtain ⟨hp, n2, hn2⟩ := hq
        have hdx : nxs xs 1 d.id = x.id := by rw [← hp]; exact nx_mem h hd
        have hcx : nxs xs 1 c.id = x.id := by rw [← hcp]; exact nx_mem h h2
        rcases Nat.lt_trichotomy m n2 with hlt | heq | hgt
        · exfalso
          have e1 : nxs xs (n2 - m) c.id = d.id := by rw [h3, ← nxs_add, show m + (n2 - m) = n2 from by omega]; exact hn2
          rw [show n2 - m = 1 + (n2 - m - 1) from by omega, nxs_add, hcx] at e1
          refine noCyc h hc hid (n2 - m - 1) ?_
          rw [nxs_add xs (n2 - m - 1) 1, e1]
          exact hdx
        · rw [h3, heq, hn2]
        · exfalso
          have e1 : nxs xs (m - n2) d.id = c.id := by rw [← hn2, ← nxs_add, show n2 + (m - n2) = m from by omega]; exact h3.symm
          rw [show m - n2 = 1 + (m - n2 - 1) from by omega, nxs_add, hdx] at e1
          refine noCyc h hc hid (m - n2 - 1) ?_
          rw [nxs_add xs (m - n2 - 1) 1, e1]
          exact hcx
      · rw [Bool.and_eq_true, decide_eq_true_eq, wi_iff h hc h2]
        exact ⟨hcp, m, h3.symm⟩
    · rw [if_neg hw, sm_none _ (fun _ => k) (fun c hcm => ?_)]
      · rfl
      · cases hq : (decide (c.parent = x.id) && wiR xs (xs.length + 1) y.id c.id) with
        | false => rfl
        | true =>
          exfalso
          rw [Bool.and_eq_true, decide_eq_true_eq, wi_iff h hc hcm] at hq
          obtain ⟨hp, n, hn⟩ := hq
          refine hw ((wi_iff h hc hx _).2 ⟨n + 1, ?_⟩)
          rw [nxs_add xs n 1, hn, ← hp]
          exact nx_mem h hcm

theorem totA_sm (p : Fu → Bool) : ∀ (ys : List Fu) (t : Fu),
    (totA p t ys).budget = t.budget + sm (fun y => if p y = true then y.budget else 0) ys ∧
    (totA p t ys).enc = t.enc + sm (fun y => if p y = true then y.enc else 0) ys ∧
    (totA p t ys).spent = t.spent + sm (fun y => if p y = true then y.spent else 0) ys
  | [], t => by simp [totA, sm]
  | x :: r, t => by
    rw [totA, List.foldl_cons, sm_cons, sm_cons, sm_cons]
    by_cases hp : p x = true
    · rw [if_pos hp, if_pos hp, if_pos hp, if_pos hp]
      obtain ⟨h1, h2, h3⟩ := totA_sm p r (addF t x)
      unfold totA at h1 h2 h3
      rw [h1, h2, h3]
      unfold addF
      simp only
      omega
    · rw [if_neg hp, if_neg hp, if_neg hp, if_neg hp]
      obtain ⟨h1, h2, h3⟩ := totA_sm p r t
      unfold totA at h1 h2 h3
      rw [h1, h2, h3]
      omega

/-- The sum that the law takes: a fund, and the totals of those directly below it. -/
def sumC (xs : List Fu) (id : Int) (t : Fu) (ys : List Fu) : Fu := ys.foldl (fun t c => if c.parent = id then addF t (totP xs c.id) else t) t
theorem sumC_step {xs : List Fu} {id : Int} {t : Fu} {ys : List Fu} {k : Nat} {c : Fu} (h : ys[k]? = some c) :
    sumC xs id t (ys.take (k + 1)) = if c.parent = id then addF (sumC xs id t (ys.take k)) (totP xs c.id) else sumC xs id t (ys.take k) := by
  obtain ⟨hk, rfl⟩ := List.getElem?_eq_some_iff.1 h
  rw [List.take_succ_eq_append_getElem hk, sumC, List.foldl_append]; rfl
theorem sumC_sm (xs : List Fu) (id : Int) : ∀ (ys : List Fu) (t : Fu),
    ((sumC xs id t ys).id = t.id ∧ (sumC xs id t ys).parent = t.parent) ∧
    (sumC xs id t ys).budget = t.budget + sm (fun c => if decide (c.parent = id) = true then (totP xs c.id).budget else 0) ys ∧
    (sumC xs id t ys).enc = t.enc + sm (fun c => if decide (c.parent = id) = true then (totP xs c.id).enc else 0) ys ∧
    (sumC xs id t ys).spent = t.spent + sm (fun c => if decide (c.parent = id) = true then (totP xs c.id).spent else 0) ys
  | [], t => by simp [sumC, sm]
  | x :: r, t => by
    rw [sumC, List.foldl_cons, sm_cons, sm_cons, sm_cons]
    by_cases hp : x.parent = id
    · have hp' : decide (x.parent = id) = true := by simpa using hp
      rw [if_pos hp, if_pos hp', if_pos hp', if_pos hp']
      obtain ⟨h0, h1, h2, h3⟩ := sumC_sm xs id r (addF t (totP xs x.id))
      unfold sumC at h0 h1 h2 h3
      refine ⟨h0, ?_⟩
      rw [h1, h2, h3]
      unfold addF
      simp only
      omega
    · have hp' : ¬ decide (x.parent = id) = true := by simpa using hp
      rw [if_neg hp, if_neg hp', if_neg hp', if_neg hp']
      obtain ⟨h0, h1, h2, h3⟩ := sumC_sm xs id r t
      unfold sumC at h0 h1 h2 h3
      refine ⟨h0, ?_⟩
      rw [h1, h2, h3]
      omega

theorem tot_field {xs : List Fu} (h : Tid xs) (hc : cycR xs = false) {c : Fu} (hx : c ∈ xs) :
    ((totP xs c.id).id = c.id ∧ (totP xs c.id).parent = c.parent) ∧
    (totP xs c.id).budget = sm (fun y => if wiR xs (xs.length + 1) y.id c.id = true then y.budget else 0) xs ∧
    (totP xs c.id).enc = sm (fun y => if wiR xs (xs.length + 1) y.id c.id = true then y.enc else 0) xs ∧
    (totP xs c.id).spent = sm (fun y => if wiR xs (xs.length + 1) y.id c.id = true then y.spent else 0) xs := by
  rw [tot_eq h hc]
  unfold totR
  rw [getF_mem h.dif hx, if_pos rfl]
  obtain ⟨h1, h2, h3⟩ := totA_sm (fun y => wiR xs (xs.length + 1) y.id c.id) xs ⟨c.id, c.parent, 0, 0, 0⟩
  refine ⟨totA_id _ _ _, ?_, ?_, ?_⟩
  · rw [h1]; simp only; omega
  · rw [h2]; simp only; omega
  · rw [h3]; simp only; omega

theorem sm_split {xs : List Fu} (h : Tid xs) (hc : cycR xs = false) {x : Fu} (hx : x ∈ xs) (g : Fu → Int) (T : Fu → Int)
    (hT : ∀ c ∈ xs, T c = sm (fun y => if wiR xs (xs.length + 1) y.id c.id = true then g y else 0) xs) :
    g x + sm (fun c => if decide (c.parent = x.id) = true then T c else 0) xs = T x := by
  have e1 : sm (fun c => if decide (c.parent = x.id) = true then T c else 0) xs = sm (fun c => if decide (c.parent = x.id) = true then sm (fun y => if wiR xs (xs.length + 1) y.id c.id = true then g y else 0) xs else 0) xs :=
    sm_congr (fun c hcm => by rw [hT c hcm])
  rw [e1, sm_swap (fun c => decide (c.parent = x.id)) (fun y c => wiR xs (xs.length + 1) y.id c.id) g xs xs, hT x hx]
  rw [sm_congr (f := fun y => if wiR xs (xs.length + 1) y.id x.id = true then g y else 0) (fun y _ => wi_split h hc hx (g y)), sm_add]
  rw [sm_one (fun y => decide (y.id = x.id)) g (c := x) h.dif (fun d _ hq => by simpa using hq) hx (by simp)]

theorem total_sum {xs : List Fu} (h : Tid xs) (hc : cycR xs = false) {x : Fu} (hx : x ∈ xs) : totP xs x.id = sumC xs x.id x xs := by
  obtain ⟨⟨a1, a2⟩, a3, a4, a5⟩ := sumC_sm xs x.id xs x
  have b1 := sm_split h hc hx (·.budget) (fun c => (totP xs c.id).budget) (fun c hcm => (tot_field h hc hcm).2.1)
  have b2 := sm_split h hc hx (·.enc) (fun c => (totP xs c.id).enc) (fun c hcm => (tot_field h hc hcm).2.2.1)
  have b3 := sm_split h hc hx (·.spent) (fun c => (totP xs c.id).spent) (fun c hcm => (tot_field h hc hcm).2.2.2)
  obtain ⟨⟨c1, c2⟩, _⟩ := tot_field h hc hx
  generalize sumC xs x.id x xs = s at *
  generalize totP xs x.id = t at *
  obtain ⟨s1, s2, s3, s4, s5⟩ := s
  obtain ⟨t1, t2, t3, t4, t5⟩ := t
  simp only at *
  subst a1 a2 c1 c2
  rw [Fu.mk.injEq]
  exact ⟨rfl, rfl, by omega, by omega, by omega⟩
end Go.Proofs.Ytbcapljiangjcaa
