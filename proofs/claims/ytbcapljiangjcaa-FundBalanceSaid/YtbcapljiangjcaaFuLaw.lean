/- Plain laws on funds: the program's way of finding loops and summing up agrees with the reference's. No walk. -/
import Derived.Test.YtbcapljiangjcaaFuK
import Derived.Test.YtbcapljiangjcaaFuQ
namespace Go.Proofs.Ytbcapljiangjcaa

/-! ### a list without repetition inside another one -/
theorem nodup_sub {α : Type} [DecidableEq α] : ∀ (us L : List α), us.Nodup → (∀ a ∈ us, a ∈ L) → us.length ≤ L.length
  | [], _, _, _ => Nat.zero_le _
  | a :: us, L, h, hs => by
    obtain ⟨h1, h2⟩ := List.nodup_cons.1 h
    have ha : a ∈ L := hs a (by simp)
    have hr := nodup_sub us (L.erase a) h2 (fun b hb => (List.mem_erase_of_ne (fun e => h1 (by rw [← e]; exact hb))).2 (hs b (by simp [hb])))
    rw [List.length_erase_of_mem ha] at hr
    have := List.length_pos_of_mem ha
    simp only [List.length_cons]
    omega

theorem pigeon (f : Nat → Int) (L : List Int) (h : ∀ i, i ≤ L.length → f i ∈ L) : ∃ i j, i < j ∧ j ≤ L.length ∧ f i = f j := by
  apply Classical.byContradiction
  intro hno
  have hinj : ∀ i j, i < j → j ≤ L.length → f i ≠ f j := fun i j h1 h2 h3 => hno ⟨i, j, h1, h2, h3⟩
  have hnd : ((List.range (L.length + 1)).map f).Nodup := by
    rw [List.nodup_iff_pairwise_ne, List.pairwise_map]
    refine List.Pairwise.imp_of_mem ?_ List.pairwise_lt_range
    intro a b _ hb hab
    exact hinj a b hab (by have := List.mem_range.1 hb; omega)
  have := nodup_sub _ L hnd (by
    intro a ha
    obtain ⟨i, hi, rfl⟩ := List.mem_map.1 ha
    exact h i (by have := List.mem_range.1 hi; omega))
  simp at this
  omega

/-! ### IDs that ascend -/
theorem chkA_lt : ∀ (xs : List Fu) (p : Option Int), chkA p xs = 0 → (∀ q, p = some q → ∀ x ∈ xs, q < x.id) ∧ xs.Pairwise (fun a b => a.id < b.id)
  | [], _, _ => ⟨by simp, List.Pairwise.nil⟩
  | x :: r, p, h => by
    rw [chkA] at h
    split at h
    · simp at h
    · rename_i hp
      split at h
      · simp at h
      · obtain ⟨h1, h2⟩ := chkA_lt r (some x.id) h
        have h1' := h1 x.id rfl
        refine ⟨fun q hq y hy => ?_, List.pairwise_cons.2 ⟨h1', h2⟩⟩
        subst hq
        have hqx : q < x.id := by simpa using hp
        rcases List.mem_cons.1 hy with rfl | hy
        · exact hqx
        · exact Int.lt_trans hqx (h1' y hy)

/-- IDs differ. -/
def Dif (xs : List Fu) : Prop := xs.Pairwise (fun a b => a.id < b.id)
theorem dif_eq {xs : List Fu} (h : Dif xs) {x y : Fu} (hx : x ∈ xs) (hy : y ∈ xs) (he : x.id = y.id) : x = y := by
  unfold Dif at h
  induction xs with
  | nil => simp at hx
  | cons z r ih =>
    obtain ⟨h1, h2⟩ := List.pairwise_cons.1 h
    rcases List.mem_cons.1 hx with rfl | hx' <;> rcases List.mem_cons.1 hy with rfl | hy'
    · rfl
    · have := h1 y hy'; omega
    · have := h1 x hx'; omega
    · exact ih h2 hx' hy'

theorem getF_mem {xs : List Fu} (h : Dif xs) {x : Fu} (hx : x ∈ xs) : getF xs x.id = (x, true) := by
  rcases getF_at (xs := xs) (id := x.id) with ⟨h1, _⟩ | ⟨i, y, _, h2, h3, h4⟩
  · rcases ix_cases (fun y : Fu => y.id == x.id) xs with ⟨_, hall⟩ | ⟨i, y, h5, _⟩
    · have := hall x hx; simp at this
    · unfold atF at h1; omega
  · rw [h4, dif_eq h (List.mem_of_getElem? h2) hx h3]
theorem getF_not {xs : List Fu} {id : Int} (h : ∀ x ∈ xs, x.id ≠ id) : getF xs id = (fu0, false) := by
  rcases getF_at (xs := xs) (id := id) with ⟨_, h2⟩ | ⟨i, y, _, h2, h3, _⟩
  · exact h2
  · exact absurd h3 (h y (List.mem_of_getElem? h2))
theorem getF_true {xs : List Fu} {id : Int} (h : (getF xs id).2 = true) : (getF xs id).1 ∈ xs ∧ (getF xs id).1.id = id := by
  rcases getF_at (xs := xs) (id := id) with ⟨_, h2⟩ | ⟨i, y, _, h2, h3, h4⟩
  · rw [h2] at h; cases h
  · rw [h4]; exact ⟨List.mem_of_getElem? h2, h3⟩
theorem getF_false {xs : List Fu} {id : Int} (h : (getF xs id).2 = false) : getF xs id = (fu0, false) := by
  rcases getF_at (xs := xs) (id := id) with ⟨_, h2⟩ | ⟨i, y, _, h2, h3, h4⟩
  · exact h2
  · rw [h4] at h; cases h

/-- One step up. -/
def nx (xs : List Fu) (id : Int) : Int := (getF xs id).1.parent
/-- n steps up. -/
def nxs (xs : List Fu) : Nat → Int → Int
  | 0, id => id
  | n + 1, id => nxs xs n (nx xs id)
theorem nxs_add (xs : List Fu) : ∀ (m n : Nat) (id : Int), nxs xs (m + n) id = nxs xs n (nxs xs m id)
  | 0, n, id => by rw [Nat.zero_add]; rfl
  | m + 1, n, id => by rw [show m + 1 + n = (m + n) + 1 from by omega, nxs, nxs_add xs m n, nxs]

theorem foldl_up_not (xs : List Fu) (f : Int → Int) (y : Int) (h : ∀ x ∈ xs, x.id ≠ y) : xs.foldl (fun f x => fun y => if y = x.id then x.parent else f y) f y = f y := by
  induction xs generalizing f with
  | nil => rfl
  | cons x r ih =>
    rw [List.foldl_cons, ih _ (fun z hz => h z (by simp [hz]))]
    rw [if_neg (fun e => h x (by simp) e.symm)]
theorem foldl_up_hit (xs : List Fu) (hd : Dif xs) (f : Int → Int) (x : Fu) (hx : x ∈ xs) : xs.foldl (fun f x => fun y => if y = x.id then x.parent else f y) f x.id = x.parent := by
  unfold Dif at hd
  induction xs generalizing f with
  | nil => simp at hx
  | cons z r ih =>
    obtain ⟨h1, h2⟩ := List.pairwise_cons.1 hd
    rw [List.foldl_cons]
    rcases List.mem_cons.1 hx with rfl | hx'
    · rw [foldl_up_not r _ _ (fun y hy => by have := h1 y hy; omega)]
      simp
    · exact ih h2 _ hx'
theorem upF_nx {xs : List Fu} (hd : Dif xs) (y : Int) : upF xs y = nx xs y := by
  unfold upF nx
  cases hb : (getF xs y).2 with
  | true =>
    obtain ⟨h1, h2⟩ := getF_true hb
    have := foldl_up_hit xs hd (fun _ => 0) _ h1
    rw [h2] at this
    exact this
  | false =>
    rw [getF_false hb]
    have hn : ∀ x ∈ xs, x.id ≠ y := fun x hx e => by
      subst e
      rw [getF_mem hd hx] at hb
      cases hb
    rw [foldl_up_not xs _ y hn]; rfl

/-- The lists of which all this is asked: IDs ascend and are at least 1. -/
structure Tid (xs : List Fu) : Prop where
  dif : Dif xs
  pos : ∀ x ∈ xs, 1 ≤ x.id
theorem Tid.of {xs : List Fu} (h : chkA none xs = 0) : Tid xs := ⟨(chkA_lt xs none h).2, fun x hx => (badF_ok (chkA_ok xs none h x hx)).1.1⟩
theorem nx_zero {xs : List Fu} (h : Tid xs) : nx xs 0 = 0 := by
  unfold nx
  rw [getF_not (fun x hx e => by have := h.pos x hx; omega)]; rfl
theorem nxs_zero {xs : List Fu} (h : Tid xs) : ∀ n, nxs xs n 0 = 0
  | 0 => rfl
  | n + 1 => by rw [nxs, nx_zero h, nxs_zero h n]
theorem nxs_stay {xs : List Fu} (h : Tid xs) {m n : Nat} {id : Int} (hm : nxs xs m id = 0) (hn : m ≤ n) : nxs xs n id = 0 := by
  obtain ⟨k, rfl⟩ := Nat.exists_eq_add_of_le hn
  rw [nxs_add, hm, nxs_zero h]
theorem nx_found {xs : List Fu} {id : Int} (h : nx xs id ≠ 0) : (getF xs id).2 = true := by
  cases hb : (getF xs id).2 with
  | true => rfl
  | false => exfalso; apply h; unfold nx; rw [getF_false hb]; rfl

theorem lpR_nxs {xs : List Fu} (h : Tid xs) : ∀ (f : Nat) (id : Int), lpR (upF xs) f id = decide (nxs xs f id ≠ 0)
  | 0, id => rfl
  | f + 1, id => by
    rw [lpR]
    by_cases h0 : id = 0
    · rw [if_pos h0, h0, nxs_zero h]; rfl
    · rw [if_neg h0, upF_nx h.dif, lpR_nxs h f, nxs]

theorem wiR_nxs {xs : List Fu} (h : Tid xs) {top : Int} (ht : top ≠ 0) : ∀ (f : Nat) (id : Int), wiR xs f id top = true ↔ ∃ n, n < f ∧ nxs xs n id = top
  | 0, id => by simp [wiR]
  | f + 1, id => by
    rw [wiR]
    by_cases hit : id = top
    · rw [if_pos hit]
      simp only [true_iff]
      exact ⟨0, by omega, hit⟩
    · rw [if_neg hit]
      have hshift : (∃ n, n < f + 1 ∧ nxs xs n id = top) ↔ ∃ n, n < f ∧ nxs xs n (nx xs id) = top := by
        constructor
        · rintro ⟨n, h1, h2⟩
          cases n with
          | zero => exact absurd h2 hit
          | succ n => exact ⟨n, by omega, h2⟩
        · rintro ⟨n, h1, h2⟩
          exact ⟨n + 1, by omega, h2⟩
      rw [hshift]
      cases hb : (getF xs id).2 with
      | true => rw [if_pos rfl]; exact wiR_nxs h ht f _
      | false =>
        rw [if_neg (by decide)]
        have : nx xs id = 0 := by unfold nx; rw [getF_false hb]; rfl
        rw [this]
        constructor
        · intro h'; cases h'
        · rintro ⟨n, _, h2⟩; rw [nxs_zero h] at h2; exact absurd h2.symm ht

/-- The program finds a loop just where the reference finds one. -/
theorem loop_cyc {xs : List Fu} (h : Tid xs) : loopR xs = cycR xs := by
  rw [Bool.eq_iff_iff]
  unfold loopR cycR
  rw [List.any_eq_true, List.any_eq_true]
  constructor
  · rintro ⟨x, hx, hl⟩
    rw [lpR_nxs h] at hl
    have hne : nxs xs (xs.length + 1) x.parent ≠ 0 := by simpa using hl
    have hpx : nx xs x.id = x.parent := by unfold nx; rw [getF_mem h.dif hx]
    have hne2 : nxs xs (xs.length + 2) x.id ≠ 0 := by rw [nxs, hpx]; exact hne
    have hall : ∀ i, i ≤ xs.length + 2 → nxs xs i x.id ≠ 0 := fun i hi h0 => hne2 (nxs_stay h h0 hi)
    have hmem : ∀ i, i ≤ (xs.map (·.id)).length → nxs xs i x.id ∈ xs.map (·.id) := by
      intro i hi
      rw [List.length_map] at hi
      have h1 : nx xs (nxs xs i x.id) ≠ 0 := by
        have := hall (i + 1) (by omega)
        rw [nxs_add xs i 1] at this
        exact this
      obtain ⟨h2, h3⟩ := getF_true (nx_found h1)
      exact List.mem_map.2 ⟨_, h2, h3⟩
    obtain ⟨i, j, hij, hj, he⟩ := pigeon (fun i => nxs xs i x.id) _ hmem
    rw [List.length_map] at hj
    have h1 : nx xs (nxs xs i x.id) ≠ 0 := by
      have := hall (i + 1) (by omega)
      rw [nxs_add xs i 1] at this
      exact this
    obtain ⟨h2, h3⟩ := getF_true (nx_found h1)
    refine ⟨_, h2, ?_⟩
    rw [h3, Bool.and_eq_true]
    refine ⟨by simpa [nx] using h1, (wiR_nxs h (hall i (by omega)) _ _).2 ⟨j - i - 1, by omega, ?_⟩⟩
    have e1 : nxs xs (j - i - 1) (getF xs (nxs xs i x.id)).1.parent = nxs xs (j - i) (nxs xs i x.id) := by
      rw [show j - i = (j - i - 1) + 1 from by omega, nxs]; rfl
    rw [e1, ← nxs_add, show i + (j - i) = j from by omega]
    exact he.symm
  · rintro ⟨x, hx, hw⟩
    rw [Bool.and_eq_true] at hw
    obtain ⟨hp, hw⟩ := hw
    have hid : x.id ≠ 0 := by have := h.pos x hx; omega
    obtain ⟨n, _, hn⟩ := (wiR_nxs h hid _ _).1 hw
    have hpx : nx xs x.id = x.parent := by unfold nx; rw [getF_mem h.dif hx]
    have hcyc : nxs xs (n + 1) x.id = x.id := by rw [nxs, hpx]; exact hn
    have hk : ∀ k, nxs xs (k * (n + 1)) x.id = x.id := by
      intro k
      induction k with
      | zero => rw [Nat.zero_mul]; rfl
      | succ k ih => rw [Nat.add_mul, Nat.one_mul, nxs_add, ih, hcyc]
    refine ⟨x, hx, ?_⟩
    rw [lpR_nxs h]
    simp only [decide_eq_true_eq]
    intro h0
    have h1 : nxs xs (xs.length + 2) x.id = 0 := by rw [nxs, hpx]; exact h0
    have h2 := hk (xs.length + 2)
    rw [nxs_stay h h1 (by rw [Nat.mul_add]; omega)] at h2
    exact hid h2.symm

theorem right_eq (xs : List Fu) : rightP xs = rightR xs := by
  unfold rightP rightR
  by_cases h1 : 32 < xs.length
  · rw [if_pos h1, if_pos h1]
  · rw [if_neg h1, if_neg h1]
    by_cases h2 : chkA none xs ≠ 0
    · rw [if_pos h2, if_pos h2]
    · rw [if_neg h2, if_neg h2]
      have h2' : chkA none xs = 0 := by simpa using h2
      rw [loop_cyc (Tid.of h2')]
      have e : (0 ≤ ix (fun f => decide (freeF f < 0)) xs) ↔ overF xs = true := by
        unfold overF
        rw [List.any_eq_true]
        rcases ix_cases (fun f => decide (freeF f < 0)) xs with ⟨h3, h4⟩ | ⟨i, x, h3, h4, h5, _⟩
        · rw [h3]
          constructor
          · intro h; omega
          · rintro ⟨x, hx, ho⟩
            have := h4 x hx
            have h6 : ¬ freeF x < 0 := by simpa using this
            have h7 : x.budget < x.enc + x.spent := by simpa using ho
            unfold freeF at h6
            omega
        · rw [h3]
          constructor
          · intro _
            refine ⟨x, List.mem_of_getElem? h4, ?_⟩
            have h6 : freeF x < 0 := by simpa using h5
            unfold freeF at h6
            simp only [decide_eq_true_eq]
            omega
          · intro _; omega
      by_cases h5 : overF xs = true
      · rw [if_pos (e.2 h5), if_pos h5]
      · rw [if_neg (fun h => h5 (e.1 h)), if_neg h5]
end Go.Proofs.Ytbcapljiangjcaa
