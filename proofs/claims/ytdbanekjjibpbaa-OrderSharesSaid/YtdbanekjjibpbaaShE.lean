/- Dividing an amount: the parts sum up to it, and each differs from its share by less than one. Plain. -/
import Derived.Test.YtdbanekjjibpbaaShC
namespace Go.Proofs.Ytdbanekjjibpbaa

theorem bump1_sum {ps : List Int} {i : Int} (h0 : 0 ≤ i) (h : i < ps.length) : (bump1 ps i).sum = ps.sum + 1 := by
  obtain ⟨n, rfl⟩ : ∃ n : Nat, i = n := ⟨i.toNat, by omega⟩
  unfold bump1
  rw [Int.toNat_natCast]
  have hn : n < ps.length := by omega
  clear h h0
  induction ps generalizing n with
  | nil => simp at hn
  | cons x r ih =>
    cases n with
    | zero => simp; omega
    | succ n =>
      have hr : n < r.length := by simpa using hn
      have := ih n hr
      rw [List.set_cons_succ, List.sum_cons, List.sum_cons, List.getD_cons_succ, this]; omega
theorem bump1_ln (ps : List Int) (i : Int) : (bump1 ps i).length = ps.length := by simp [bump1]
theorem bump_sum : ∀ (is ps : List Int), (∀ i ∈ is, 0 ≤ i ∧ i < ps.length) → (bump ps is).sum = ps.sum + is.length
  | [], ps, _ => by simp [bump]
  | i :: r, ps, h => by
    have h1 := h i (by simp)
    have ih := bump_sum r (bump1 ps i) (fun j hj => by rw [bump1_ln]; exact h j (by simp [hj]))
    unfold bump at ih ⊢
    rw [List.foldl_cons, ih, bump1_sum h1.1 h1.2, List.length_cons]; omega
theorem bump1_get (ps : List Int) (i : Int) (q : Nat) (h0 : 0 ≤ i) (hq : q < ps.length) : (bump1 ps i).getD q 0 = if (q : Int) = i then ps.getD q 0 + 1 else ps.getD q 0 := by
  obtain ⟨n, rfl⟩ : ∃ n : Nat, i = n := ⟨i.toNat, by omega⟩
  unfold bump1
  rw [Int.toNat_natCast, List.getD_eq_getElem?_getD, List.getElem?_set]
  by_cases h : n = q
  · subst h; rw [if_pos rfl, if_pos hq, if_pos rfl]; rfl
  · rw [if_neg h, if_neg (by omega), ← List.getD_eq_getElem?_getD]
theorem bump_get : ∀ (is ps : List Int), is.Nodup → (∀ i ∈ is, 0 ≤ i) → ∀ q : Nat, q < ps.length → (bump ps is).getD q 0 = if (q : Int) ∈ is then ps.getD q 0 + 1 else ps.getD q 0
  | [], ps, _, _, q, _ => by simp [bump]
  | i :: r, ps, hn, h, q, hq => by
    rw [List.nodup_cons] at hn
    have ih := bump_get r (bump1 ps i) hn.2 (fun j hj => h j (by simp [hj])) q (by rw [bump1_ln]; exact hq)
    unfold bump at ih ⊢
    rw [List.foldl_cons, ih, bump1_get ps i q (h i (by simp)) hq]
    by_cases h1 : (q : Int) = i
    · rw [if_pos h1, if_neg (by rw [h1]; exact hn.1), if_pos (by simp [h1])]
    · rw [if_neg h1]
      by_cases h2 : (q : Int) ∈ r <;> simp [h1, h2]
theorem insF_perm (cf : Int → Int → Int) (x : Int) (P : List Int) : (insF cf x P).Perm (x :: P) := by
  unfold insF
  have h := List.perm_middle (a := x) (l₁ := P.take (insK cf x P P.length)) (l₂ := P.drop (insK cf x P P.length))
  rwa [List.take_append_drop] at h
theorem isort_perm (cf : Int → Int → Int) (d : List Int) : (isort cf d).Perm d := by
  have : ∀ (d P : List Int), (d.foldl (fun P x => insF cf x P) P).Perm (d ++ P) := by
    intro d
    induction d with
    | nil => intro P; exact List.Perm.refl _
    | cons x r ih =>
      intro P
      rw [List.foldl_cons]
      refine (ih _).trans ?_
      refine ((insF_perm cf x P).append_left r).trans ?_
      exact List.perm_middle
  have h := this d []
  simpa [isort] using h
theorem sum_perm : ∀ {a b : List Int}, a.Perm b → a.sum = b.sum := by
  intro a b h
  induction h with
  | nil => rfl
  | cons x _ ih => rw [List.sum_cons, List.sum_cons, ih]
  | swap x y l => simp only [List.sum_cons]; omega
  | trans _ _ h1 h2 => rw [h1, h2]
theorem range_map (f : Int → Int) : ∀ (ws : List Int), (∀ i : Nat, i < ws.length → f i = ws.getD i 0) → (rangeI ws.length).map f = ws := by
  intro ws h
  apply List.ext_getElem
  · simp [rangeI]
  · intro i h1 h2
    have := h i h2
    rw [List.getD_eq_getElem?_getD, List.getElem?_eq_getElem h2] at this
    simpa [rangeI] using this
theorem ordF_sum (t S : Int) (ws : List Int) : ((ordF t S ws).map (remF t S ws)).sum = (remsF t S ws).sum := by
  have h1 := (isort_perm (cfS t S ws) (rangeI ws.length)).map (remF t S ws)
  have h2 := sum_perm h1
  have h3 := range_map (remF t S ws) (remsF t S ws) (fun i hi => by
    have hi' : i < ws.length := by simpa [remsF] using hi
    exact remF_get hi')
  have hl : (remsF t S ws).length = ws.length := by simp [remsF]
  rw [hl] at h3
  rw [h3] at h2
  exact h2
theorem sum_le_mul (f : Int → Int) (M : Int) : ∀ (l : List Int), (∀ x ∈ l, f x ≤ M) → (l.map f).sum ≤ l.length * M
  | [], _ => by simp
  | x :: r, h => by
    have h1 := h x (by simp)
    have ih := sum_le_mul f M r (fun y hy => h y (by simp [hy]))
    rw [List.map_cons, List.sum_cons, List.length_cons]
    push_cast
    rw [Int.add_mul]; omega
theorem sum_zero_le (f : Int → Int) (M : Int) (hM : 0 ≤ M) : ∀ (l : List Int) (z : Int), z ∈ l → f z ≤ 0 → (∀ x ∈ l, f x ≤ M) → (l.map f).sum ≤ (l.length - 1) * M
  | [], z, hz, _, _ => by simp at hz
  | x :: r, z, hz, h0, h => by
    rw [List.map_cons, List.sum_cons, List.length_cons]
    push_cast
    rw [show (r.length : Int) + 1 - 1 = r.length by omega]
    rcases List.mem_cons.1 hz with rfl | hz
    · have := sum_le_mul f M r (fun y hy => h y (by simp [hy])); omega
    · have ih := sum_zero_le f M hM r z hz h0 (fun y hy => h y (by simp [hy]))
      have h1 := h x (by simp)
      rw [Int.sub_mul] at ih
      omega
/-- The parts that get one more have a remainder. -/
theorem pick_pos {t : Int} {ws : List Int} (h : WsV t ws) : ∀ x ∈ (ordF t ws.sum ws).take (leftF t ws.sum ws).toNat, 0 < remF t ws.sum ws x := by
  intro x hx
  obtain ⟨s1, s2⟩ := h.S
  obtain ⟨l1, l2⟩ := left_bd h
  have hlm := left_mul (t := t) (S := ws.sum) (by omega) ws
  have e : t * ws.sum - ws.sum * (baseF t ws.sum ws).sum = ws.sum * leftF t ws.sum ws := by unfold leftF; rw [Int.mul_sub, Int.mul_comm t]
  rw [e] at hlm
  have hos := ordF_sum t ws.sum ws
  have hpw := ordF_pw t ws.sum ws
  have hlo := ordF_len t ws.sum ws
  obtain ⟨L, hL⟩ : ∃ L : Nat, leftF t ws.sum ws = L := ⟨(leftF t ws.sum ws).toNat, by omega⟩
  rw [hL] at hx hlm l1 l2
  rw [Int.toNat_natCast] at hx
  have hmem : ∀ y ∈ ordF t ws.sum ws, 0 ≤ remF t ws.sum ws y ∧ remF t ws.sum ws y ≤ ws.sum - 1 := by
    intro y _
    unfold remF
    have h1 := Int.emod_nonneg (t * ws.getD y.toNat 0) (show ws.sum ≠ 0 by omega)
    have h2 := Int.emod_lt_of_pos (t * ws.getD y.toNat 0) (show 0 < ws.sum by omega)
    omega
  generalize hos' : ordF t ws.sum ws = os at hx hos hpw hlo hmem
  by_cases hpos : 0 < remF t ws.sum ws x
  · exact hpos
  · exfalso
    have hsplit : os = os.take L ++ os.drop L := (List.take_append_drop L os).symm
    have hd : ∀ y ∈ os.drop L, remF t ws.sum ws y ≤ 0 := by
      intro y hy
      rw [hsplit, List.pairwise_append] at hpw
      have := hpw.2.2 x hx y hy
      unfold Rk at this
      omega
    have q1 := sum_le_mul (remF t ws.sum ws) 0 (os.drop L) hd
    have hlt : (os.take L).length = L := by rw [List.length_take]; omega
    have q2 := sum_zero_le (remF t ws.sum ws) (ws.sum - 1) (by omega) (os.take L) x hx (by omega) (fun y hy => (hmem y (List.mem_of_mem_take hy)).2)
    rw [hlt] at q2
    have q3 : (os.map (remF t ws.sum ws)).sum = ((os.take L).map (remF t ws.sum ws)).sum + ((os.drop L).map (remF t ws.sum ws)).sum := by
      conv => lhs; rw [hsplit]
      rw [List.map_append, List.sum_append]
    have q4 : (remsF t ws.sum ws).sum = ws.sum * L := hlm.symm
    have hL1 : 1 ≤ L := by
      have := List.length_pos_of_mem hx
      omega
    have q5 : ((L : Int) - 1) * (ws.sum - 1) = ws.sum * L - L - ws.sum + 1 := by
      rw [Int.mul_sub, Int.sub_mul, Int.mul_comm (L : Int)]; omega
    omega
theorem share_sum {t : Int} {ws : List Int} (h : WsV t ws) : (shareF t ws).sum = t := by
  obtain ⟨l1, l2⟩ := left_bd h
  unfold shareF
  have hlo := ordF_len t ws.sum ws
  have hbl : (baseF t ws.sum ws).length = ws.length := by simp [baseF]
  rw [bump_sum _ _ (fun i hi => by rw [hbl]; exact ordF_mem.1 (List.mem_of_mem_take hi)), List.length_take]
  have : leftF t ws.sum ws = t - (baseF t ws.sum ws).sum := rfl
  omega
theorem share_far {t : Int} {ws : List Int} (h : WsV t ws) {q : Nat} (hq : q < ws.length) :
    -ws.sum < (shareF t ws).getD q 0 * ws.sum - t * ws.getD q 0 ∧ (shareF t ws).getD q 0 * ws.sum - t * ws.getD q 0 < ws.sum := by
  obtain ⟨s1, s2⟩ := h.S
  have hbl : (baseF t ws.sum ws).length = ws.length := by simp [baseF]
  have hnd : ((ordF t ws.sum ws).take (leftF t ws.sum ws).toNat).Nodup := by
    have : (ordF t ws.sum ws).Nodup := (ordF_pw t ws.sum ws).imp (fun {a b} hab => by unfold Rk at hab; intro e; subst e; omega)
    exact this.sublist (List.take_sublist _ _)
  have hg := bump_get _ (baseF t ws.sum ws) hnd (fun i hi => (ordF_mem.1 (List.mem_of_mem_take hi)).1) q (by omega)
  have hb : (baseF t ws.sum ws).getD q 0 = t * ws.getD q 0 / ws.sum := by
    rw [List.getD_eq_getElem?_getD, List.getElem?_eq_getElem (by omega)]
    rw [List.getD_eq_getElem?_getD, List.getElem?_eq_getElem hq]
    simp [baseF]
  have hr : remF t ws.sum ws q = t * ws.getD q 0 % ws.sum := by unfold remF; rw [Int.toNat_natCast]
  have he : ws.sum * (t * ws.getD q 0 / ws.sum) + t * ws.getD q 0 % ws.sum = t * ws.getD q 0 := Int.mul_ediv_add_emod _ _
  have h1 := Int.emod_nonneg (t * ws.getD q 0) (show ws.sum ≠ 0 by omega)
  have h2 := Int.emod_lt_of_pos (t * ws.getD q 0) (show 0 < ws.sum by omega)
  have hsg : (shareF t ws).getD q 0 = if (q : Int) ∈ (ordF t ws.sum ws).take (leftF t ws.sum ws).toNat then t * ws.getD q 0 / ws.sum + 1 else t * ws.getD q 0 / ws.sum := by
    unfold shareF; rw [hg, hb]
  rw [hsg]
  by_cases hp : (q : Int) ∈ (ordF t ws.sum ws).take (leftF t ws.sum ws).toNat
  · have := pick_pos h _ hp
    rw [hr] at this
    rw [if_pos hp, Int.add_mul, Int.mul_comm _ ws.sum]
    generalize ws.sum * (t * ws.getD q 0 / ws.sum) = u at he ⊢
    omega
  · rw [if_neg hp, Int.mul_comm _ ws.sum]
    generalize ws.sum * (t * ws.getD q 0 / ws.sum) = u at he ⊢
    omega
end Go.Proofs.Ytdbanekjjibpbaa
