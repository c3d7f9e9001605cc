/- Plain laws on loans. No walk. -/
import Derived.Test.YtelkidhgbjhboaaLoE
namespace Go.Proofs.Ytelkidhgbjhboaa

structure VldL (xs : List Lo) : Prop where
  len : xs.length ≤ 64
  chk : chkL none xs = 0
theorem VldL.of {xs : List Lo} (h : rightL xs = 0) : VldL xs := by
  unfold rightL at h
  split at h
  · simp at h
  · exact ⟨by omega, h⟩
theorem VldL.right {xs : List Lo} (h : VldL xs) : rightL xs = 0 := by
  unfold rightL; rw [if_neg (by have := h.len; omega)]; exact h.chk
theorem VldL.M {xs : List Lo} (h : VldL xs) : ∀ x ∈ xs, LoM x := fun x hx => badL_ok (chkL_ok xs none h.chk x hx)

theorem ix_at {α : Type} {p : α → Bool} {xs : List α} {i : Nat} {x : α} (h : xs[i]? = some x) (hp : p x = true) (ha : ∀ y ∈ xs.take i, p y = false) : ix p xs = i ∧ xs.find? p = some x := by
  constructor
  · rcases ix_cases p xs with ⟨_, h2⟩ | ⟨j, y, h1, h2, h3, h4⟩
    · rw [h2 x (List.mem_of_getElem? h)] at hp; cases hp
    · rcases Nat.lt_trichotomy i j with hij | hij | hij
      · have : x ∈ xs.take j := List.mem_of_getElem? (i := i) (by rw [List.getElem?_take, if_pos hij]; exact h)
        rw [h4 x this] at hp; cases hp
      · rw [h1, hij]
      · have : y ∈ xs.take i := List.mem_of_getElem? (i := j) (by rw [List.getElem?_take, if_pos hij]; exact h2)
        rw [ha y this] at h3; cases h3
  · obtain ⟨hi, rfl⟩ := List.getElem?_eq_some_iff.1 h
    rw [List.find?_eq_some_iff_append]
    exact ⟨hp, xs.take i, xs.drop (i + 1), by rw [← List.drop_eq_getElem_cons hi, List.take_append_drop], fun y hy => by rw [ha y hy]; rfl⟩

theorem take_set_self {α : Type} : ∀ (xs : List α) (i : Nat) (y : α), (xs.set i y).take i = xs.take i
  | [], _, _ => rfl
  | _ :: _, 0, _ => rfl
  | x :: r, i + 1, y => by rw [List.set_cons_succ, List.take_succ_cons, List.take_succ_cons, take_set_self r i y]

theorem chkL_set : ∀ {xs : List Lo} {p : Option Int} {i : Nat} {x y : Lo}, xs[i]? = some x → y.item = x.item → badL y = false → chkL p xs = 0 → chkL p (xs.set i y) = 0
  | [], _, _, _, _, h, _, _, _ => by simp at h
  | z :: r, p, 0, x, y, h, he, hb, hc => by
    simp at h; subst h
    rw [chkL] at hc
    rw [List.set_cons_zero, chkL, he]
    split at hc
    · simp at hc
    · rename_i h1
      rw [if_neg h1, if_neg (by rw [hb]; decide)]
      split at hc
      · simp at hc
      · exact hc
  | z :: r, p, i + 1, x, y, h, he, hb, hc => by
    rw [chkL] at hc
    rw [List.set_cons_succ, chkL]
    split at hc
    · simp at hc
    · rename_i h1
      rw [if_neg h1]
      split at hc
      · simp at hc
      · rename_i h2
        rw [if_neg h2]
        exact chkL_set (by simpa using h) he hb hc

/-- Two lists that differ at most in the loan of one item. -/
def Oth (xs ys : List Lo) (item : Int) : Prop := xs.length = ys.length ∧ ∀ (k : Nat) (x y : Lo), xs[k]? = some x → ys[k]? = some y → x.item = y.item ∧ (x.item ≠ item → x = y)
theorem Oth.set {xs : List Lo} {i : Nat} {x y : Lo} {item : Int} (h : xs[i]? = some x) (hx : x.item = item) (hy : y.item = item) : Oth (xs.set i y) xs item := by
  refine ⟨List.length_set, fun k a b ha hb => ?_⟩
  rw [List.getElem?_set] at ha
  split at ha
  · rename_i e
    subst e
    rw [h] at hb
    cases hb
    have hi : i < xs.length := (List.getElem?_eq_some_iff.1 h).1
    rw [if_pos hi] at ha
    cases ha
    exact ⟨by rw [hx, hy], fun hne => absurd hy hne⟩
  · rw [ha] at hb
    cases hb
    exact ⟨rfl, fun _ => rfl⟩

/-- What renewing does, for valid loans. -/
theorem renew_cases {xs : List Lo} (hv : VldL xs) (item due : Int) : ((renewL xs item due).1 = 0 ∧ Oth (renewL xs item due).2 xs item ∧ rightL (renewL xs item due).2 = 0) ∨ ((renewL xs item due).1 ≠ 0) := by
  rcases fst_cases (fun x => x.item == item) xs with ⟨h1, h2, _⟩ | ⟨i, x, h1, h2, h3, h4, _⟩
  · right; unfold renewL atL; rw [if_pos h1]; simp
  · have hne : ¬ (atL xs item = -1) := by unfold atL; rw [h1]; omega
    have hat : (atL xs item).toNat = i := by unfold atL; rw [h1]; rfl
    by_cases hr : x.rcl = true
    · right; unfold renewL; rw [if_neg hne, h4, if_pos hr]; simp
    · have e1 : renewL xs item due = chd (xs.set i (renF due x)) := by unfold renewL; rw [if_neg hne, h4, if_neg hr, hat]
      rw [e1]
      unfold chd
      split
      · rename_i h0
        have hx : x.item = item := by simpa using h3
        exact .inl ⟨rfl, Oth.set h2 hx hx, h0⟩
      · rename_i h0; exact .inr h0
theorem chd_err {xs : List Lo} (h : (chd xs).1 ≠ 0) : (chd xs).2 = [] := by
  unfold chd at h ⊢
  split
  · rename_i h0; rw [if_pos h0] at h; exact absurd rfl h
  · rfl

theorem recF_M {due : Int} {x : Lo} (h : LoM x) (hd : dayB due = true) : LoM (recF due x) := by
  obtain ⟨d1, d2⟩ := dayB_iff.1 hd
  have h1 := h.out
  have h2 := h.due
  have h3 := h.od
  refine ⟨h.item, h.patron, h.out, ?_, ?_, h.ren⟩
  · simp only [recF]; omega
  · simp only [recF]; omega

/-- What recalling does, for valid loans. -/
theorem recall_cases {xs : List Lo} (hv : VldL xs) (item due : Int) : ((recallL xs item due).1 ≠ 0 ∧ (recallL xs item due).2 = []) ∨
    ∃ x : Lo, (recallL xs item due).1 = 0 ∧ Oth (recallL xs item due).2 xs item ∧ rightL (recallL xs item due).2 = 0 ∧ findL xs item = (x, true) ∧ findL (recallL xs item due).2 item = (recF due x, true) ∧ LoM x := by
  rcases fst_cases (fun x => x.item == item) xs with ⟨h1, h2, _⟩ | ⟨i, x, h1, h2, h3, h4, h5⟩
  · left; unfold recallL atL; rw [if_pos h1]; simp
  · have hne : ¬ (atL xs item = -1) := by unfold atL; rw [h1]; omega
    have hat : (atL xs item).toNat = i := by unfold atL; rw [h1]; rfl
    by_cases hr : x.rcl = true
    · left; unfold recallL; rw [if_neg hne, h4, if_pos hr]; simp
    · cases hd : dayB due with
      | false => left; unfold recallL; rw [if_neg hne, h4, if_neg hr, if_pos hd]; simp
      | true =>
        have e1 : recallL xs item due = (0, xs.set i (recF due x)) := by unfold recallL; rw [if_neg hne, h4, if_neg hr, if_neg (by rw [hd]; decide), hat]
        rw [e1]
        have hx : x.item = item := by simpa using h3
        have hM := hv.M x (List.mem_of_getElem? h2)
        right
        refine ⟨x, rfl, Oth.set h2 hx hx, ?_, ?_, ?_, hM⟩
        · exact VldL.right ⟨by rw [List.length_set]; exact hv.len, chkL_set h2 rfl (badL_of (recF_M hM hd)) hv.chk⟩
        · unfold findL atL; rw [h4, h1]; simp
        · have hi : i < xs.length := (List.getElem?_eq_some_iff.1 h2).1
          obtain ⟨g1, g2⟩ := ix_at (p := fun x : Lo => x.item == item) (xs := xs.set i (recF due x)) (i := i) (x := recF due x) (by rw [List.getElem?_set, if_pos rfl, if_pos hi]) (by simpa [recF] using hx) (by rw [take_set_self]; exact h5)
          unfold findL atL fstF
          rw [g1, g2]; simp

/-- What adding does, for valid loans. -/
theorem out_cases {xs : List Lo} (n : Lo) : ((outL xs n).1 ≠ 0 ∧ (outL xs n).2 = []) ∨
    ((outL xs n).1 = 0 ∧ rightL (outL xs n).2 = 0 ∧ (outL xs n).2.length = xs.length + 1 ∧ findL (outL xs n).2 n.item = (n, true) ∧ backL (outL xs n).2 n.item = (0, xs, n)) := by
  rcases fst_cases (fun x => x.item == n.item) xs with ⟨h1, h2, h3⟩ | ⟨i, x, h1, h2, h3, h4, _⟩
  · have e1 : outL xs n = chd (xs.take (plcL xs n) ++ n :: xs.drop (plcL xs n)) := by unfold outL atL; rw [h1, if_neg (by omega)]
    rw [e1]
    have hpl : plcL xs n ≤ xs.length := (List.takeWhile_sublist _).length_le
    generalize plcL xs n = k at hpl
    by_cases h0 : rightL (xs.take k ++ n :: xs.drop k) = 0
    · right
      have e2 : chd (xs.take k ++ n :: xs.drop k) = (0, xs.take k ++ n :: xs.drop k) := by unfold chd; rw [if_pos h0]
      rw [e2]
      have hl : (xs.take k).length = k := by rw [List.length_take]; omega
      have hg : (xs.take k ++ n :: xs.drop k)[k]? = some n := by rw [List.getElem?_append_right (by omega), hl]; simp
      have ht : (xs.take k ++ n :: xs.drop k).take k = xs.take k := by rw [List.take_append_of_le_length (by omega), List.take_of_length_le (by omega)]
      have hd : (xs.take k ++ n :: xs.drop k).drop (k + 1) = xs.drop k := by
        rw [List.drop_append, hl, List.drop_of_length_le (by omega)]
        simp
      obtain ⟨g1, g2⟩ := ix_at (p := fun x : Lo => x.item == n.item) hg (by simp) (by rw [ht]; exact fun y hy => h3 y (List.mem_of_mem_take hy))
      refine ⟨rfl, h0, by simp; omega, ?_, ?_⟩
      · unfold findL atL fstF; rw [g1, g2]; simp
      · unfold backL atL fstF
        rw [g1, g2, if_neg (by omega)]
        simp only [Int.toNat_natCast, ht, hd, List.take_append_drop, Option.getD_some]
    · left
      have hne : (chd (xs.take k ++ n :: xs.drop k)).1 ≠ 0 := by unfold chd; rw [if_neg h0]; exact h0
      exact ⟨hne, chd_err hne⟩
  · left; unfold outL atL; rw [h1, if_pos (by omega)]; simp
end Go.Proofs.Ytelkidhgbjhboaa
