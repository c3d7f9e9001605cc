/- Walks: Close, budgets. -/
import Derived.Test.YtbcapljiangjcaaFuI
namespace Go.Proofs.Ytbcapljiangjcaa
open Go.RowKit Go.Maps

/-- What closing a year makes of a fund. -/
def clsF (keep : Bool) (x : Fu) : Fu := if keep = true then { x with budget := x.budget - x.spent, spent := 0 } else { x with budget := x.enc, spent := 0 }

theorem mapTo {α : Type} {f : α → α} {xs : List α} {k : Nat} {x : α} (h : xs[k]? = some x) : ((xs.take k).map f ++ xs.drop k).set k (f x) = (xs.take (k + 1)).map f ++ xs.drop (k + 1) := by
  obtain ⟨hk, rfl⟩ := List.getElem?_eq_some_iff.1 h
  have e : k - (List.map f (List.take k xs)).length = 0 := by simp; omega
  rw [List.set_append_right _ _ (by simp; omega), e, List.drop_eq_getElem_cons hk, List.set_cons_zero, List.take_succ_eq_append_getElem hk, List.map_append, List.append_assoc]
  rfl
theorem mapAt {α : Type} {f : α → α} {xs : List α} {k : Nat} {x : α} (h : xs[k]? = some x) : ((xs.take k).map f ++ xs.drop k)[k]? = some x := by
  obtain ⟨hk, rfl⟩ := List.getElem?_eq_some_iff.1 h
  rw [List.getElem?_append_right (by simp; omega)]
  have e : k - (List.map f (List.take k xs)).length = 0 := by simp; omega
  rw [e]
  simp
theorem mapLen {α : Type} {f : α → α} {xs : List α} {k : Nat} (h : k ≤ xs.length) : ((xs.take k).map f ++ xs.drop k).length = xs.length := by
  simp; omega

set_option maxHeartbeats 400000 in
theorem pclose_any (A : Option Addr) (n c : Nat) (xs : List Fu) (keep : Bool) (w : World) (hs : Fs w w.heap.size A n c xs) (hn : n ≤ 1000) (hm : ∀ x ∈ xs, FuM x) :
    Calls Try.prog 32 #[.slice A n c, .bool keep] w fun e w' => ∃ v, e = .returned (.tuple #[v, .int .i64 0]) ∧ Fo w' w.heap.size v (xs.map (clsF keep)) ∧ Below w.heap.size w w' := by
  obtain rfl := hs.len
  have hcl := clone_any A xs.length c xs w hs hn
  have HC := hide hcl
  have HM := hide hm
  clear hs hm hcl
  go_enter Try.func32, Try.ntmps32
  go_wp2_with fail
  refine HC.out.mono ?_
  rintro e w1 ⟨v, rfl, hown, hb⟩
  by_cases h0 : xs.length = 0
  · have hx : xs = [] := List.eq_nil_of_length_eq_zero h0
    subst hx
    have hform : ∃ A' c', v = .slice A' 0 c' := by
      rcases hown.2 with ⟨rfl, _⟩ | ⟨g, cap, _, rfl, _⟩
      · exact ⟨none, 0, rfl⟩
      · exact ⟨_, cap, rfl⟩
    obtain ⟨A', c', hv⟩ := hform
    subst hv
    have HO := hide hown
    clear hown h0
    go_wp2
    refine wp_loop_rounds 1 ?_
    rw [rounds_succ]
    go_wp2
    go_ret2
    exact ⟨_, rfl, HO.out, hb⟩
  · obtain ⟨g, cap, hv, hgb, hgl⟩ := hown.form (by omega)
    subst hv
    have hr : Rw w1 w.heap.size g xs.length cap xs := ⟨hown, rfl⟩
    have HR := hide hr
    have HB := hide hb
    clear hr hown hb h0
    go_wp2
    go_loopw [7, 8, 13] (fun _ _ i wr => ∃ k : Nat, k ≤ xs.length ∧ i = .int .i64 k ∧ Rw wr w.heap.size g xs.length cap ((xs.take k).map (clsF keep) ++ xs.drop k) ∧ Below w.heap.size w wr) (fun _ _ i _ => xs.length - (intOf i).toNat)
    case atStart => exact ⟨0, Nat.zero_le _, rfl, by simpa using HR.out, HB.out⟩
    case round =>
      obtain ⟨k, hk, rfl, hr, hb⟩ := hrel
      have HRR := hide hr
      have HBB := hide hb
      clear HR HB
      by_cases hlt : k < xs.length
      · have hx : xs[k]? = some (xs[k]) := List.getElem?_eq_getElem hlt
        generalize xs[k] = x at hx
        obtain ⟨⟨c0, c1, c2, c3, c4⟩, hfz⟩ := Rw_cells hr (mapAt hx)
        have hM := HM.out x (List.mem_of_getElem? hx)
        have HX := hide hx
        obtain ⟨b1, b2⟩ := hM.b
        obtain ⟨s1, s2⟩ := hM.s
        clear hr hb hx hM
        cases keep with
        | true =>
          go_wp2
          go_region
          go_wp2
          go_roundw
          case rel =>
            have r1 := Rw_set (j := 2) (y := { x with budget := x.budget - x.spent }) (u := .int .i64 (x.budget - x.spent)) HRR.out (mapAt HX.out) (by omega) rfl
            have r2 := Rw_set (j := 4) (y := clsF true x) (u := .int .i64 0) r1 (set_get (mapAt HX.out)) (by omega) rfl
            rw [List.set_set, mapTo HX.out] at r2
            exact ⟨k + 1, by omega, by go_num, r2, (HBB.out.drew.setCell hgb _).setCell hgb _⟩
          case measure => simp [intOf]; omega
        | false =>
          go_wp2
          go_roundw
          case rel =>
            have r1 := Rw_set (j := 2) (y := { x with budget := x.enc }) (u := .int .i64 x.enc) HRR.out (mapAt HX.out) (by omega) rfl
            have r2 := Rw_set (j := 4) (y := clsF false x) (u := .int .i64 0) r1 (set_get (mapAt HX.out)) (by omega) rfl
            rw [List.set_set, mapTo HX.out] at r2
            exact ⟨k + 1, by omega, by go_num, r2, (HBB.out.setCell hgb _).setCell hgb _⟩
          case measure => simp [intOf]; omega
      · obtain rfl : k = xs.length := by omega
        clear hr hb
        go_wp2
        go_ret2
        refine ⟨_, rfl, ?_, HBB.out⟩
        have h1 := HRR.out.1
        rw [List.take_of_length_le (Nat.le_refl _), List.drop_eq_nil_of_le (Nat.le_refl _), List.append_nil] at h1
        unfold Fo
        rw [List.length_map]
        exact h1

set_option maxHeartbeats 400000 in
theorem rclose_any (A : Option Addr) (n c : Nat) (xs : List Fu) (keep : Bool) (w : World) (hs : Fs w w.heap.size A n c xs) (hn : n ≤ 1000) (hm : ∀ x ∈ xs, FuM x) :
    Calls Try.prog 33 #[.slice A n c, .bool keep] w fun e w' => ∃ v, e = .returned (.tuple #[v, .int .i64 0]) ∧ Fo w' w.heap.size v (xs.map (clsF keep)) ∧ Below w.heap.size w w' := by
  obtain rfl := hs.len
  obtain ⟨i0, hi, hz0, hz1, hz2⟩ := info_parts fu_info
  have HS := hide hs
  have HM := hide hm
  clear hs hm
  go_enter Try.func33, Try.ntmps33
  go_wp2_with (at_builtin; go_must (refine wpList_append_sl _ rfl _ _ 22 rfl w.heap.size 26 i0 _ 40 Try.underlying22 hi hz0 hz1 hz2 rfl (by decide) fuE_len fuE_one _ 0 [] rfl (World.ownsRow_made w #[] 0 (Nat.le_refl _) (Nat.zero_le _) rfl) A xs.length c rfl (HS.out.alloc (Nat.le_refl _) _) (by unfold maxLen; omega) (by omega) (by simp) ?_))
  intro v w1 hown0 hg hat
  have hown : Fo w1 w.heap.size v xs := by simpa using hown0
  have hb : Below w.heap.size w w1 := ((Below.refl _ w).alloc (Nat.le_refl _) _).grown hg (by simp) (by intro k hk; simp [Value.ownBlock] at hk; omega)
  clear hown0 hg hat
  by_cases h0 : xs.length = 0
  · have hx : xs = [] := List.eq_nil_of_length_eq_zero h0
    subst hx
    have hform : ∃ A' c', v = .slice A' 0 c' := by
      rcases hown.2 with ⟨rfl, _⟩ | ⟨g, cap, _, rfl, _⟩
      · exact ⟨none, 0, rfl⟩
      · exact ⟨_, cap, rfl⟩
    obtain ⟨A', c', hv⟩ := hform
    subst hv
    have HO := hide hown
    clear hown h0
    go_wp2
    refine wp_loop_rounds 1 ?_
    rw [rounds_succ]
    go_wp2
    go_ret2
    exact ⟨_, rfl, HO.out, hb⟩
  · obtain ⟨g, cap, hv, hgb, hgl⟩ := hown.form (by omega)
    subst hv
    have hr : Rw w1 w.heap.size g xs.length cap xs := ⟨hown, rfl⟩
    have HR := hide hr
    have HB := hide hb
    clear hr hown hb h0
    go_wp2
    go_loopw [7] (fun i wr => ∃ k : Nat, k ≤ xs.length ∧ i = .int .i64 k ∧ Rw wr w.heap.size g xs.length cap ((xs.take k).map (clsF keep) ++ xs.drop k) ∧ Below w.heap.size w wr) (fun i _ => xs.length - (intOf i).toNat)
    case atStart => exact ⟨0, Nat.zero_le _, rfl, by simpa using HR.out, HB.out⟩
    case round =>
      obtain ⟨k, hk, rfl, hr, hb⟩ := hrel
      have HRR := hide hr
      have HBB := hide hb
      clear HR HB
      by_cases hlt : k < xs.length
      · have hx : xs[k]? = some (xs[k]) := List.getElem?_eq_getElem hlt
        generalize xs[k] = x at hx
        obtain ⟨⟨c0, c1, c2, c3, c4⟩, hfz⟩ := Rw_cells hr (mapAt hx)
        have hM := HM.out x (List.mem_of_getElem? hx)
        have HX := hide hx
        obtain ⟨b1, b2⟩ := hM.b
        obtain ⟨s1, s2⟩ := hM.s
        have hkk : (k : Int) < (xs.length : Int) := by omega
        clear hr hb hx hM
        cases keep with
        | true =>
          go_wp2
          go_region
          go_wp2
          go_roundw
          case rel =>
            have r1 := Rw_set (j := 2) (y := { x with budget := x.budget - x.spent }) (u := .int .i64 (x.budget - x.spent)) HRR.out (mapAt HX.out) (by omega) rfl
            have r2 := Rw_set (j := 4) (y := clsF true x) (u := .int .i64 0) r1 (set_get (mapAt HX.out)) (by omega) rfl
            rw [List.set_set, mapTo HX.out] at r2
            exact ⟨k + 1, by omega, by go_num, r2, (HBB.out.drew.setCell hgb _).setCell hgb _⟩
          case measure => simp [intOf]; omega
        | false =>
          go_wp2
          go_roundw
          case rel =>
            have r1 := Rw_set (j := 2) (y := { x with budget := x.enc }) (u := .int .i64 x.enc) HRR.out (mapAt HX.out) (by omega) rfl
            have r2 := Rw_set (j := 4) (y := clsF false x) (u := .int .i64 0) r1 (set_get (mapAt HX.out)) (by omega) rfl
            rw [List.set_set, mapTo HX.out] at r2
            exact ⟨k + 1, by omega, by go_num, r2, (HBB.out.setCell hgb _).setCell hgb _⟩
          case measure => simp [intOf]; omega
      · obtain rfl : k = xs.length := by omega
        clear hr hb
        go_wp2
        go_ret2
        refine ⟨_, rfl, ?_, HBB.out⟩
        have h1 := HRR.out.1
        rw [List.take_of_length_le (Nat.le_refl _), List.drop_eq_nil_of_le (Nat.le_refl _), List.append_nil] at h1
        unfold Fo
        rw [List.length_map]
        exact h1

def budgetsF (xs : List Fu) : Int := (xs.map (·.budget)).sum
theorem sum_step {xs : List Fu} {k : Nat} {x : Fu} (h : xs[k]? = some x) : budgetsF (xs.take (k + 1)) = budgetsF (xs.take k) + x.budget := by
  obtain ⟨hk, rfl⟩ := List.getElem?_eq_some_iff.1 h
  simp only [budgetsF]
  rw [List.take_succ_eq_append_getElem hk, List.map_append, List.sum_append]; simp
theorem sum_bound : ∀ (xs : List Fu), (∀ x ∈ xs, FuM x) → 0 ≤ budgetsF xs ∧ budgetsF xs ≤ xs.length * 100000000
  | [], _ => by simp [budgetsF]
  | x :: r, h => by
    have h1 := sum_bound r (fun y hy => h y (by simp [hy]))
    have h2 := (h x (by simp)).b
    simp only [budgetsF, List.map_cons, List.sum_cons, List.length_cons] at *
    omega

set_option maxHeartbeats 400000 in
theorem budgets_any (A : Option Addr) (n c : Nat) (xs : List Fu) (w : World) (B : Nat) (hs : Fs w B A n c xs) (hn : n ≤ 1000) (hm : ∀ x ∈ xs, FuM x) :
    Calls Try.prog 34 #[.slice A n c] w fun e w' => e = .returned (.int .i64 (budgetsF xs)) ∧ w = w' := by
  obtain rfl := hs.len
  have HS := hide hs
  have HM := hide hm
  clear hs hm
  go_enter Try.func34, Try.ntmps34
  go_wp2
  go_loop [3, 4] (fun t i => ∃ k : Nat, k ≤ xs.length ∧ i = .int .i64 k ∧ t = .int .i64 (budgetsF (xs.take k))) (fun _ i => xs.length - (intOf i).toNat)
  case atStart => exact ⟨0, Nat.zero_le _, rfl, rfl⟩
  case round =>
    obtain ⟨k, hk, rfl, rfl⟩ := hrel
    by_cases hlt : k < xs.length
    · obtain ⟨b, off, x, rfl, hbB, hx, c0, c1, c2, c3, c4⟩ := Fs_at HS.out hlt
      have h1 := sum_bound (xs.take k) (fun y hy => HM.out y (List.mem_of_mem_take hy))
      have h2 := (HM.out x (List.mem_of_getElem? hx)).b
      obtain ⟨p1, p2⟩ := h1
      obtain ⟨p3, p4⟩ := h2
      have hl : (xs.take k).length ≤ 1000 := by rw [List.length_take]; omega
      have p5 : budgetsF (xs.take k) ≤ 100000000000 := by omega
      have HX := hide (sum_step hx)
      clear hx c0 c1 c3 c4 p2 hl
      go_wp2
      go_round
      case rel => exact ⟨k + 1, by omega, by go_num, by rw [HX.out]⟩
      case measure => simp [intOf]; omega
    · go_wp2
      go_ret
      exact ⟨ret_int (by rw [List.take_of_length_le (by omega)]), rfl⟩
end Go.Proofs.Ytbcapljiangjcaa
