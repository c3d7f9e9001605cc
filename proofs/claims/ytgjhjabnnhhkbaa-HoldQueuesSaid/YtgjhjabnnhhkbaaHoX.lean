/- Plain laws on holds. No walk. -/
import Derived.Test.YtgjhjabnnhhkbaaHoI
import Derived.Test.YtgjhjabnnhhkbaaHoT
import Derived.Test.YtgjhjabnnhhkbaaHoU
import Derived.Test.YtgjhjabnnhhkbaaHoV
namespace Go.Proofs.Ytgjhjabnnhhkbaa

theorem tw_iff (p : Ho → Ho → Bool) : ∀ (xs P : List Ho), tw p P xs = false ↔ (xs.Pairwise (fun a b => p a b = false) ∧ ∀ a ∈ P, ∀ b ∈ xs, p a b = false)
  | [], P => by simp [tw]
  | x :: r, P => by
    rw [tw, Bool.or_eq_false_iff, tw_iff p r, List.any_eq_false, List.pairwise_cons]
    constructor
    · rintro ⟨h1, h2, h3⟩
      refine ⟨⟨fun b hb => h3 x (by simp) b hb, h2⟩, fun a ha b hb => ?_⟩
      rcases List.mem_cons.1 hb with rfl | hb
      · simpa using h1 a ha
      · exact h3 a (by simp [ha]) b hb
    · rintro ⟨⟨h1, h2⟩, h3⟩
      refine ⟨fun a ha => by rw [h3 a ha x (by simp)]; decide, h2, fun a ha b hb => ?_⟩
      rcases List.mem_append.1 ha with ha | ha
      · exact h3 a ha b (by simp [hb])
      · rw [List.mem_singleton.1 ha]; exact h1 b hb
theorem tw_get {p : Ho → Ho → Bool} {xs : List Ho} : tw p [] xs = false ↔ ∀ (i j : Nat) (a b : Ho), i < j → xs[i]? = some a → xs[j]? = some b → p a b = false := by
  rw [tw_iff]
  constructor
  · rintro ⟨h, _⟩ i j a b hij ha hb
    obtain ⟨hi, rfl⟩ := List.getElem?_eq_some_iff.1 ha
    obtain ⟨hj, rfl⟩ := List.getElem?_eq_some_iff.1 hb
    exact List.pairwise_iff_getElem.1 h i j hi hj hij
  · intro h
    refine ⟨List.pairwise_iff_getElem.2 (fun i j hi hj hij => h i j _ _ hij (List.getElem?_eq_getElem hi) (List.getElem?_eq_getElem hj)), by simp⟩
structure VldH (xs : List Ho) : Prop where
  len : xs.length ≤ 64
  chk : chkHs none xs = 0
  a1 : ∀ (i j : Nat) (a b : Ho), i < j → xs[i]? = some a → xs[j]? = some b → alk1 a b = false
  a2 : ∀ (i j : Nat) (a b : Ho), i < j → xs[i]? = some a → xs[j]? = some b → alk2 a b = false
theorem VldH.of {xs : List Ho} (h : rightH xs = 0) : VldH xs := by
  unfold rightH at h
  split at h
  · simp at h
  · split at h
    · rename_i h1; rw [h] at h1; simp at h1
    · rename_i h1 h2
      split at h
      · simp at h
      · rename_i h3
        have h3' : (tw alk1 [] xs || tw alk2 [] xs) = false := by simpa using h3
        rw [Bool.or_eq_false_iff] at h3'
        exact ⟨by omega, by simpa using h2, tw_get.1 h3'.1, tw_get.1 h3'.2⟩
theorem VldH.right {xs : List Ho} (h : VldH xs) : rightH xs = 0 := by
  unfold rightH
  rw [if_neg (by have := h.len; omega), if_neg (by rw [h.chk]; decide), tw_get.2 h.a1, tw_get.2 h.a2]; rfl
theorem chkHs_ok : ∀ (xs : List Ho) (p : Option Int), chkHs p xs = 0 → ∀ x ∈ xs, chkH x = 0
  | [], _, _, x, hx => by simp at hx
  | y :: r, p, h, x, hx => by
    rw [chkHs] at h
    split at h
    · simp at h
    · split at h
      · rename_i hb; rw [h] at hb; simp at hb
      · rename_i hb
        rcases List.mem_cons.1 hx with rfl | hx
        · simpa using hb
        · exact chkHs_ok r _ h x hx
theorem chkHs_tail {x : Ho} {r : List Ho} {p : Option Int} (h : chkHs p (x :: r) = 0) : chkHs (some x.id) r = 0 := by
  rw [chkHs] at h
  split at h
  · simp at h
  · split at h
    · rename_i hb; rw [h] at hb; simp at hb
    · exact h
theorem chkHs_gt : ∀ (xs : List Ho) (q : Int), chkHs (some q) xs = 0 → ∀ x ∈ xs, q < x.id
  | [], _, _, x, hx => by simp at hx
  | y :: r, q, h, x, hx => by
    have ht := chkHs_tail h
    rw [chkHs] at h
    split at h
    · simp at h
    · rename_i h1
      have hy : q < y.id := by simpa using h1
      rcases List.mem_cons.1 hx with rfl | hx
      · exact hy
      · have := chkHs_gt r _ ht x hx; omega
theorem chkHs_lt (xs : List Ho) : ∀ (p : Option Int), chkHs p xs = 0 → ∀ (i j : Nat) (a b : Ho), i < j → xs[i]? = some a → xs[j]? = some b → a.id < b.id := by
  induction xs with
  | nil => intro p _ i j a b _ ha; simp at ha
  | cons x r ih =>
    intro p h i j a b hij ha hb
    have ht := chkHs_tail h
    cases j with
    | zero => omega
    | succ j =>
      have hb' : r[j]? = some b := by simpa using hb
      cases i with
      | zero =>
        have ha' : x = a := by simpa using ha
        subst ha'
        exact chkHs_gt r _ ht b (List.mem_of_getElem? hb')
      | succ i => exact ih _ ht i j a b (by omega) (by simpa using ha) hb'
theorem chkHs_set : ∀ {xs : List Ho} {p : Option Int} {i : Nat} {x y : Ho}, xs[i]? = some x → y.id = x.id → chkH y = 0 → chkHs p xs = 0 → chkHs p (xs.set i y) = 0
  | [], _, _, _, _, h, _, _, _ => by simp at h
  | z :: r, p, 0, x, y, h, he, hb, hc => by
    simp at h; subst h
    have ht := chkHs_tail hc
    rw [chkHs] at hc
    rw [List.set_cons_zero, chkHs, he]
    split at hc
    · simp at hc
    · rename_i h1
      rw [if_neg h1, if_neg (by rw [hb]; decide)]
      exact ht
  | z :: r, p, i + 1, x, y, h, he, hb, hc => by
    have ht := chkHs_tail hc
    rw [chkHs] at hc
    rw [List.set_cons_succ, chkHs]
    split at hc
    · simp at hc
    · rename_i h1
      rw [if_neg h1]
      split at hc
      · rename_i h2; rw [hc] at h2; simp at h2
      · rename_i h2
        rw [if_neg h2]
        exact chkHs_set (by simpa using h) he hb ht
theorem set_at {xs : List Ho} {i j : Nat} {x y a : Ho} (hx : xs[i]? = some x) (h : (xs.set i y)[j]? = some a) : (j = i ∧ a = y) ∨ (j ≠ i ∧ xs[j]? = some a) := by
  have hi : i < xs.length := (List.getElem?_eq_some_iff.1 hx).1
  rw [List.getElem?_set] at h
  by_cases e : i = j
  · rw [if_pos e, if_pos hi] at h
    exact .inl ⟨e.symm, (Option.some.inj h).symm⟩
  · rw [if_neg e] at h
    exact .inr ⟨fun e' => e e'.symm, h⟩
theorem VldH.set {xs : List Ho} (hv : VldH xs) {i : Nat} {x y : Ho} (hx : xs[i]? = some x) (hid : y.id = x.id) (hc : chkH y = 0) (hp : y.pat = x.pat) (hr : y.rcd = x.rcd)
    (hg : ∀ j z, xs[j]? = some z → j ≠ i → 0 < y.got → z.got ≠ y.got) : VldH (xs.set i y) := by
  refine ⟨by rw [List.length_set]; exact hv.len, chkHs_set hx hid hc hv.chk, ?_, ?_⟩
  · intro j k a b hjk ha hb
    have e1 : alk1 a b = true → False := by
      intro h
      unfold alk1 at h
      rw [Bool.and_eq_true, beq_iff_eq, beq_iff_eq] at h
      obtain ⟨a', ha', p1, p2⟩ : ∃ a', xs[j]? = some a' ∧ a.pat = a'.pat ∧ a.rcd = a'.rcd := by
        rcases set_at hx ha with ⟨rfl, rfl⟩ | ⟨_, h⟩
        · exact ⟨x, hx, hp, hr⟩
        · exact ⟨a, h, rfl, rfl⟩
      obtain ⟨b', hb', q1, q2⟩ : ∃ b', xs[k]? = some b' ∧ b.pat = b'.pat ∧ b.rcd = b'.rcd := by
        rcases set_at hx hb with ⟨rfl, rfl⟩ | ⟨_, h⟩
        · exact ⟨x, hx, hp, hr⟩
        · exact ⟨b, h, rfl, rfl⟩
      have := hv.a1 j k a' b' hjk ha' hb'
      unfold alk1 at this
      rw [Bool.and_eq_false_iff] at this
      simp only [beq_eq_false_iff_ne] at this
      rcases this with h1 | h1
      · exact h1 (by rw [← p1, ← q1, h.1])
      · exact h1 (by rw [← p2, ← q2, h.2])
    cases h : alk1 a b with
    | true => exact (e1 h).elim
    | false => rfl
  · intro j k a b hjk ha hb
    cases h : alk2 a b with
    | false => rfl
    | true =>
      exfalso
      unfold alk2 at h
      rw [Bool.and_eq_true, beq_iff_eq, decide_eq_true_eq] at h
      obtain ⟨h1, h2⟩ := h
      rcases set_at hx ha with ⟨e1, rfl⟩ | ⟨e1, ha'⟩
      · rcases set_at hx hb with ⟨e2, rfl⟩ | ⟨e2, hb'⟩
        · omega
        · exact hg k b hb' e2 h2 h1.symm
      · rcases set_at hx hb with ⟨e2, rfl⟩ | ⟨e2, hb'⟩
        · exact hg j a ha' e1 (by omega) h1
        · have := hv.a2 j k a b hjk ha' hb'
          unfold alk2 at this
          rw [Bool.and_eq_false_iff] at this
          simp only [beq_eq_false_iff_ne, decide_eq_false_iff_not] at this
          rcases this with h3 | h3
          · exact h3 h1
          · exact h3 h2
theorem atH_eq {xs : List Ho} {p : Ho → Bool} {i : Nat} {x : Ho} (h : xs[i]? = some x) (hp : p x = true) (ha : ∀ j z, j < i → xs[j]? = some z → p z = false) : ix p xs = i := by
  rcases ix_cases p xs with ⟨_, h2⟩ | ⟨j, y, h1, h2, h3, h4⟩
  · rw [h2 x (List.mem_of_getElem? h)] at hp; cases hp
  · rcases Nat.lt_trichotomy i j with hij | hij | hij
    · have : x ∈ xs.take j := List.mem_of_getElem? (i := i) (by rw [List.getElem?_take, if_pos hij]; exact h)
      rw [h4 x this] at hp; cases hp
    · rw [h1, hij]
    · rw [ha j y hij h2] at h3; cases h3
/-- The numbers of a valid hold. -/
structure HoM (h : Ho) : Prop where
  got : 0 ≤ h.got ∧ h.got ≤ 9999
  unt : 0 ≤ h.unt ∧ h.unt ≤ 109572
  b1 : badH1 h = false
  pk : winB h.pk 1 4 = true
  plc : dayB h.plc = true
  slp : dayB h.slp = true
  rnk : winB h.rnk 0 9 = true
  st : 1 ≤ h.st ∧ h.st ≤ 3
  g : 0 < h.got ↔ h.st ≠ 1
  u : 0 < h.unt ↔ h.st = 3
set_option maxHeartbeats 1000000 in
theorem badH4_iff {h : Ho} : badH4 h = false ↔ ((0 < h.got ↔ h.st ≠ 1) ∧ (0 < h.unt ↔ h.st = 3)) := by
  unfold badH4
  have e1 : (h.st != 1) = decide (h.st ≠ 1) := by by_cases e : h.st = 1 <;> simp [e]
  have e2 : (h.st == 3) = decide (h.st = 3) := rfl
  rw [e1, e2, Bool.or_eq_false_iff]
  by_cases a : 0 < h.got <;> by_cases b : h.st = 1 <;> by_cases c : 0 < h.unt <;> by_cases d : h.st = 3 <;> simp [a, b, c, d] <;> omega
theorem chkH_M {h : Ho} : chkH h = 0 ↔ HoM h := by
  constructor
  · intro hc
    unfold chkH at hc
    split at hc
    · simp at hc
    · rename_i h1
      split at hc
      · simp at hc
      · rename_i h2
        split at hc
        · simp at hc
        · rename_i h3
          split at hc
          · simp at hc
          · rename_i h4
            have g1 : badH1 h = false := by simpa using h1
            have g4 : badH4 h = false := by simpa using h4
            rw [badH4_iff] at g4
            simp only [badH2, badH3, Bool.or_eq_true, Bool.not_eq_true', not_or, Bool.not_eq_false] at h2 h3
            obtain ⟨⟨⟨⟨⟨a1, a2⟩, a3⟩, a4⟩, a5⟩, a6⟩ := h2
            exact ⟨winB_iff.1 a3, winB_iff.1 a4, g1, a1, a2, a5, a6, winB_iff.1 h3, g4.1, g4.2⟩
  · intro m
    have h2 : badH2 h = false := by
      unfold badH2 dayB
      have e1 := m.plc; have e2 := m.slp
      unfold dayB at e1 e2
      rw [m.pk, e1, e2, m.rnk, winB_iff.2 m.got, winB_iff.2 m.unt]; rfl
    have h3 : badH3 h = false := by unfold badH3; rw [winB_iff.2 m.st]; rfl
    have h4 : badH4 h = false := badH4_iff.2 ⟨m.g, m.u⟩
    unfold chkH
    rw [m.b1, h2, h3, h4]; rfl
/-- Placing, and cancelling at once. -/
theorem place_keeps {xs : List Ho} {h : Ho} : (placeH xs h).1 ≠ 0 ∨ ((placeH xs h) = (0, xs ++ [h]) ∧ rightH (xs ++ [h]) = 0 ∧ cancelH (xs ++ [h]) h.id = (0, xs, h)) := by
  unfold placeH
  split
  · split
    · rename_i h2
      right
      refine ⟨rfl, h2, ?_⟩
      have hv := VldH.of h2
      have hl : (xs ++ [h])[xs.length]? = some h := by rw [List.getElem?_append_right (Nat.le_refl _)]; simp
      have hb : ∀ j z, j < xs.length → (xs ++ [h])[j]? = some z → (z.id == h.id) = false := by
        intro j z hj hz
        have := chkHs_lt _ _ hv.chk j xs.length z h hj hz hl
        simp; omega
      have ha : atH (xs ++ [h]) h.id = (xs.length : Nat) := atH_eq (p := fun x : Ho => x.id == h.id) hl (by simp) hb
      rcases getH_cases (xs ++ [h]) h.id with ⟨h1, _⟩ | ⟨i, x, h1, h3, _, h5, _⟩
      · rw [ha] at h1; omega
      · have hi : i = xs.length := by rw [ha] at h1; omega
        subst hi
        rw [hl] at h3
        cases h3
        unfold cancelH
        rw [if_neg (by omega), ha, h5]
        simp
    · rename_i h2; left; exact h2
  · left; simp
theorem sleep_keeps {xs : List Ho} (hv : VldH xs) (id u : Int) : (sleepH xs id u).1 ≠ 0 ∨ ((sleepH xs id u).1 = 0 ∧ rightH (sleepH xs id u).2 = 0) := by
  rcases getH_cases xs id with ⟨h1, _⟩ | ⟨i, x, h1, h2, h3, h4, h5⟩
  · left; unfold sleepH; rw [if_pos h1]; simp
  · rw [sleep_some h1 h4]
    split
    · left; simp
    · split
      · left; simp
      · rename_i h6 h7
        right
        have hM := chkH_M.1 (chkHs_ok _ _ hv.chk x (List.mem_of_getElem? h2))
        refine ⟨rfl, VldH.right (hv.set h2 rfl (chkH_M.2 ⟨hM.got, hM.unt, hM.b1, hM.pk, hM.plc, by simpa [slpF] using h7, hM.rnk, hM.st, hM.g, hM.u⟩) rfl rfl ?_)⟩
        intro j z hz hj hg
        rcases Nat.lt_or_ge j i with hji | hji
        · have := hv.a2 j i z x hji hz h2
          unfold alk2 at this
          intro e
          have e' : z.got = x.got := e
          rw [Bool.and_eq_false_iff] at this
          simp only [beq_eq_false_iff_ne, decide_eq_false_iff_not] at this
          have hg' : 0 < x.got := hg
          rcases this with h | h <;> omega
        · have := hv.a2 i j x z (by omega) h2 hz
          unfold alk2 at this
          intro e
          have e' : z.got = x.got := e
          rw [Bool.and_eq_false_iff] at this
          simp only [beq_eq_false_iff_ne, decide_eq_false_iff_not] at this
          have hg' : 0 < x.got := hg
          rcases this with h | h <;> omega
/-- Catching, and dropping at once. -/
theorem catch_keeps {xs : List Ho} (hv : VldH xs) (id item unt st : Int) : (catchH xs id item st unt).1 ≠ 0 ∨
    ∃ ys x : _, catchH xs id item st unt = (0, ys) ∧ rightH ys = 0 ∧ getH xs id = (x, true) ∧ ∃ zs, dropH ys item = (0, zs) ∧ rightH zs = 0 ∧ (x.st = 1 → zs = xs) := by
  rcases getH_cases xs id with ⟨h1, _⟩ | ⟨i, x, h1, h2, h3, h4, h5⟩
  · left; unfold catchH; rw [if_pos h1]; simp
  · rw [catch_some h1 h4]
    split
    · left; simp
    · split
      · left; simp
      · split
        · left; simp
        · rename_i hA hB hC
          right
          have hM := chkH_M.1 (chkHs_ok _ _ hv.chk x (List.mem_of_getElem? h2))
          have hA' : catchA item st unt = false := by simpa using hA
          unfold catchA at hA'
          rw [Bool.or_eq_false_iff] at hA'
          obtain ⟨hi1, hs1⟩ := hA'
          have hit : 1 ≤ item ∧ item ≤ 9999 := winB_iff.1 (by simpa using hi1)
          have hst : (st = 3 ∧ 1 ≤ unt ∧ unt ≤ 109572) ∨ (st = 2 ∧ unt = 0) := by
            by_cases e : (st == 3 && winB unt 1 109572) = true
            · rw [Bool.and_eq_true, beq_iff_eq, winB_iff] at e
              exact .inl ⟨e.1, e.2⟩
            · have e' : (st == 3 && winB unt 1 109572) = false := by simpa using e
              rw [e'] at hs1
              right
              simpa using hs1
          have hilt : i < xs.length := (List.getElem?_eq_some_iff.1 h2).1
          have hno : ∀ (j : Nat) (z : Ho), xs[j]? = some z → j ≠ i → z.got ≠ item := by
            intro j z hz hj e
            have hzi : z.id ≠ id := by
              rw [← h3]
              rcases Nat.lt_or_ge j i with hji | hji
              · have := chkHs_lt _ _ hv.chk j i z x hji hz h2; omega
              · have := chkHs_lt _ _ hv.chk i j x z (by omega) h2 hz; omega
            have hC' : ¬ 0 ≤ ix (othP id item) xs := by simpa [catchC] using hC
            rcases ix_cases (othP id item) xs with ⟨_, hh⟩ | ⟨k, y, hh, _⟩
            · have := hh z (List.mem_of_getElem? hz)
              unfold othP at this
              rw [Bool.and_eq_false_iff] at this
              simp only [beq_eq_false_iff_ne, bne_eq_false_iff_eq] at this
              rcases this with h | h
              · exact h e
              · exact hzi h
            · exact hC' (by rw [hh]; omega)
          have hcx : chkH (catF item st unt x) = 0 := by
            refine chkH_M.2 ⟨⟨?_, ?_⟩, ⟨?_, ?_⟩, hM.b1, hM.pk, hM.plc, hM.slp, hM.rnk, ⟨?_, ?_⟩, ?_, ?_⟩
            all_goals simp only [catF]
            all_goals omega
          have hv1 : VldH (xs.set i (catF item st unt x)) := hv.set h2 rfl hcx rfl rfl (fun j z hz hj _ => hno j z hz hj)
          have hgi : (xs.set i (catF item st unt x))[i]? = some (catF item st unt x) := by rw [List.getElem?_set, if_pos rfl, if_pos hilt]
          have hix : ix (gotP item) (xs.set i (catF item st unt x)) = i := by
            refine atH_eq hgi (by simp [gotP, catF]) (fun j z hj hz => ?_)
            rcases set_at h2 hz with ⟨e, _⟩ | ⟨e, hz'⟩
            · omega
            · unfold gotP; simpa using hno j z hz' e
          have hgd : (xs.set i (catF item st unt x)).getD i ho0 = catF item st unt x := by rw [List.getD_eq_getElem?_getD, hgi]; rfl
          have hdr : dropH (xs.set i (catF item st unt x)) item = (0, xs.set i (dropF x)) := by
            unfold dropH
            rw [if_neg (by rw [hix]; omega), hix, Int.toNat_natCast, hgd, List.set_set]
            rfl
          have hcd : chkH (dropF x) = 0 := by
            refine chkH_M.2 ⟨⟨?_, ?_⟩, ⟨?_, ?_⟩, hM.b1, hM.pk, hM.plc, hM.slp, hM.rnk, ⟨?_, ?_⟩, ?_, ?_⟩
            all_goals simp only [dropF]
            all_goals omega
          refine ⟨_, x, rfl, hv1.right, h4, _, hdr, VldH.right (hv.set h2 rfl hcd rfl rfl (fun j z hz hj hg => by simp [dropF] at hg)), fun hx1 => ?_⟩
          have hg := hM.g; have hu := hM.u; have hg0 := hM.got; have hu0 := hM.unt
          have e : dropF x = x := by
            obtain ⟨a0, a1, a2, a3, a4, a5, a6, a7, a8, a9, a10⟩ := x
            simp only [dropF, Ho.mk.injEq, true_and, and_true] at hx1 hg hu hg0 hu0 ⊢
            omega
          rw [e]
          obtain ⟨_, rfl⟩ := List.getElem?_eq_some_iff.1 h2
          exact List.set_getElem_self hilt
end Go.Proofs.Ytgjhjabnnhhkbaa
