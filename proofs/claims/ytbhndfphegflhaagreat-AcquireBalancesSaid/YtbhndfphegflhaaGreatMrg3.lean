/- Texts laid together by merge.py: FuK, FuN, FuO, FuQ, FuLaw, FuLaw2, FuR, Open. -/
import Derived.Test.YtbhndfphegflhaaGreatMrg2
import Derived.Test.YtbhndfphegflhaaGreatMrg0
import Derived.ProofKit
import Derived.Deep.Slices
import Derived.Deep.Fields
import Derived.SizedLaws
import Derived.OpenShut
set_option linter.unusedSimpArgs false
set_option linter.unusedVariables false
/- Walks: Right. -/
namespace Go.Proofs.YtbhndfphegflhaaGreat
open Go.RowKit Go.Maps

/-- A fund whose numbers are not within their limits. -/
def badF (x : Fu) : Bool := decide (x.id < 1) || decide (9999 < x.id) || decide (x.parent < 0) || decide (9999 < x.parent) || !mny x.budget || !mny x.enc || !mny x.spent
/-- The first error of the first pass; p is the ID before. -/
def chkA : Option Int → List Fu → Int
  | _, [] => 0
  | p, x :: r => if p.any (fun q => decide (x.id ≤ q)) = true then 7 else if badF x = true then 2 else chkA (some x.id) r
def prevAt (xs : List Fu) : Nat → Option Int
  | 0 => none
  | k + 1 => (xs[k]?).map (·.id)

theorem chkA_step {xs : List Fu} {k : Nat} {x : Fu} (h : xs[k]? = some x) :
    chkA (prevAt xs k) (xs.drop k) = if (prevAt xs k).any (fun q => decide (x.id ≤ q)) = true then 7 else if badF x = true then 2 else chkA (prevAt xs (k + 1)) (xs.drop (k + 1)) := by
  obtain ⟨hk, rfl⟩ := List.getElem?_eq_some_iff.1 h
  rw [List.drop_eq_getElem_cons hk, chkA, prevAt, h]; rfl

theorem badF_ok {x : Fu} (h : badF x = false) : (1 ≤ x.id ∧ x.id ≤ 9999) ∧ (0 ≤ x.parent ∧ x.parent ≤ 9999) ∧ FuM x ∧ FuW x := by
  simp only [badF, mny, Bool.or_eq_false_iff, decide_eq_false_iff_not, Bool.not_eq_false', Bool.and_eq_true, decide_eq_true_eq] at h
  obtain ⟨⟨⟨⟨⟨⟨h1, h2⟩, h3⟩, h4⟩, h5, h6⟩, h7, h8⟩, h9, h10⟩ := h
  refine ⟨⟨by omega, by omega⟩, ⟨by omega, by omega⟩, ⟨⟨h5, h6⟩, ⟨h7, h8⟩, ⟨h9, h10⟩⟩, ?_⟩
  constructor <;> (unfold I64; omega)
theorem chkA_ok : ∀ (xs : List Fu) (p : Option Int), chkA p xs = 0 → ∀ x ∈ xs, badF x = false
  | [], _, _, x, hx => by simp at hx
  | y :: r, p, h, x, hx => by
    rw [chkA] at h
    split at h
    · simp at h
    · split at h
      · simp at h
      · rename_i hb
        rcases List.mem_cons.1 hx with rfl | hx
        · simpa using hb
        · exact chkA_ok r _ h x hx

def noneF (xs : List Fu) : Bool := xs.any (fun f => decide (f.parent ≠ 0) && decide (atF xs f.parent < 0))

/-- Where the first pass finds nothing all is within its limits. -/
theorem mny_iff {n : Int} : mny n = true ↔ 0 ≤ n ∧ n ≤ 100000000 := by simp [mny]
theorem any_none {f : Int → Bool} : (none : Option Int).any f = false := rfl

def rightP (xs : List Fu) : Int :=
  if 32 < xs.length then 13 else if chkA none xs ≠ 0 then chkA none xs else if noneF xs = true then 9 else if loopR xs = true then 11
  else if 0 ≤ ix (fun f => decide (freeF f < 0)) xs then 17 else 0
/-- A fund is above itself, as the reference looks for it. -/
def cycR (xs : List Fu) : Bool := xs.any (fun f => decide (f.parent ≠ 0) && wiR xs (xs.length + 1) f.parent f.id)
def overF (xs : List Fu) : Bool := xs.any (fun f => decide (f.budget < f.enc + f.spent))
def rightR (xs : List Fu) : Int :=
  if 32 < xs.length then 13 else if chkA none xs ≠ 0 then chkA none xs else if noneF xs = true then 9 else if cycR xs = true then 11
  else if overF xs = true then 17 else 0
end Go.Proofs.YtbhndfphegflhaaGreat

/- Walks: Close, budgets. -/
namespace Go.Proofs.YtbhndfphegflhaaGreat
open Go.RowKit Go.Maps

/-- What closing a year makes of a fund. -/
def clsF (keep : Bool) (x : Fu) : Fu := if keep = true then { x with budget := x.budget - x.spent, spent := 0 } else { x with budget := x.enc, spent := 0 }

theorem mapTo {α : Type} {f : α → α} {xs : List α} {k : Nat} {x : α} (h : xs[k]? = some x) : ((xs.take k).map f ++ xs.drop k).set k (f x) = (xs.take (k + 1)).map f ++ xs.drop (k + 1) := by
  obtain ⟨hk, rfl⟩ := List.getElem?_eq_some_iff.1 h
  have e : k - (List.map f (List.take k xs)).length = 0 := by simp; omega
  rw [List.set_append_right _ _ (by simp; omega), e, List.drop_eq_getElem_cons hk, List.set_cons_zero, List.take_succ_eq_append_getElem hk, List.map_append, List.append_assoc]
  rfl
theorem mapAt {α : Type} {f : α → α} {xs : List α} {k : Nat} {x : α} (h : xs[k]? = some x) : ((xs.take k).map f ++ xs.drop k)[k]? = some x := by
  obtain ⟨hk, rfl⟩ := List.getElem?_eq_some_iff.1 h
  rw [List.getElem?_append_right (by simp; omega)]
  have e : k - (List.map f (List.take k xs)).length = 0 := by simp; omega
  rw [e]
  simp
theorem mapLen {α : Type} {f : α → α} {xs : List α} {k : Nat} (h : k ≤ xs.length) : ((xs.take k).map f ++ xs.drop k).length = xs.length := by
  simp; omega

set_option maxHeartbeats 400000 in
theorem pclose_any (A : Option Addr) (n c : Nat) (xs : List Fu) (keep : Bool) (w : World) (hs : Fs w w.heap.size A n c xs) (hn : n ≤ 1000) (hm : ∀ x ∈ xs, FuM x) :
    Calls Tryz.prog 85 #[.slice A n c, .bool keep] w fun e w' => ∃ v, e = .returned (.tuple #[v, .int .i64 0]) ∧ Fo w' w.heap.size v (xs.map (clsF keep)) ∧ Below w.heap.size w w' := by
  obtain rfl := hs.len
  have hcl := clone_any A xs.length c xs w hs hn
  have HC := hide hcl
  have HM := hide hm
  clear hs hm hcl
  go_enter Tryz.func85, Tryz.ntmps85
  go_wp2_with fail
  refine HC.out.mono ?_
  rintro e w1 ⟨v, rfl, hown, hb⟩
  by_cases h0 : xs.length = 0
  · have hx : xs = [] := List.eq_nil_of_length_eq_zero h0
    subst hx
    have hform : ∃ A' c', v = .slice A' 0 c' := by
      rcases hown.2 with ⟨rfl, _⟩ | ⟨g, cap, _, rfl, _⟩
      · exact ⟨none, 0, rfl⟩
      · exact ⟨_, cap, rfl⟩
    obtain ⟨A', c', hv⟩ := hform
    subst hv
    have HO := hide hown
    clear hown h0
    go_wp2
    refine wp_loop_rounds 1 ?_
    rw [rounds_succ]
    go_wp2
    go_ret2
    exact ⟨_, rfl, HO.out, hb⟩
  · obtain ⟨g, cap, hv, hgb, hgl⟩ := hown.form (by omega)
    subst hv
    have hr : Rw w1 w.heap.size g xs.length cap xs := ⟨hown, rfl⟩
    have HR := hide hr
    have HB := hide hb
    clear hr hown hb h0
    go_wp2
    go_loopw [7, 8, 13] (fun _ _ i wr => ∃ k : Nat, k ≤ xs.length ∧ i = .int .i64 k ∧ Rw wr w.heap.size g xs.length cap ((xs.take k).map (clsF keep) ++ xs.drop k) ∧ Below w.heap.size w wr) (fun _ _ i _ => xs.length - (intOf i).toNat)
    case atStart => exact ⟨0, Nat.zero_le _, rfl, by simpa using HR.out, HB.out⟩
    case round =>
      obtain ⟨k, hk, rfl, hr, hb⟩ := hrel
      have HRR := hide hr
      have HBB := hide hb
      clear HR HB
      by_cases hlt : k < xs.length
      · have hx : xs[k]? = some (xs[k]) := List.getElem?_eq_getElem hlt
        generalize xs[k] = x at hx
        obtain ⟨⟨c0, c1, c2, c3, c4⟩, hfz⟩ := Rw_cells hr (mapAt hx)
        have hM := HM.out x (List.mem_of_getElem? hx)
        have HX := hide hx
        obtain ⟨b1, b2⟩ := hM.b
        obtain ⟨s1, s2⟩ := hM.s
        clear hr hb hx hM
        cases keep with
        | true =>
          go_wp2
          go_region
          go_wp2
          go_roundw
          case rel =>
            have r1 := Rw_set (j := 2) (y := { x with budget := x.budget - x.spent }) (u := .int .i64 (x.budget - x.spent)) HRR.out (mapAt HX.out) (by omega) rfl
            have r2 := Rw_set (j := 4) (y := clsF true x) (u := .int .i64 0) r1 (set_get (mapAt HX.out)) (by omega) rfl
            rw [List.set_set, mapTo HX.out] at r2
            exact ⟨k + 1, by omega, by go_num, r2, (HBB.out.drew.setCell hgb _).setCell hgb _⟩
          case measure => simp [intOf]; omega
        | false =>
          go_wp2
          go_roundw
          case rel =>
            have r1 := Rw_set (j := 2) (y := { x with budget := x.enc }) (u := .int .i64 x.enc) HRR.out (mapAt HX.out) (by omega) rfl
            have r2 := Rw_set (j := 4) (y := clsF false x) (u := .int .i64 0) r1 (set_get (mapAt HX.out)) (by omega) rfl
            rw [List.set_set, mapTo HX.out] at r2
            exact ⟨k + 1, by omega, by go_num, r2, (HBB.out.setCell hgb _).setCell hgb _⟩
          case measure => simp [intOf]; omega
      · obtain rfl : k = xs.length := by omega
        clear hr hb
        go_wp2
        go_ret2
        refine ⟨_, rfl, ?_, HBB.out⟩
        have h1 := HRR.out.1
        rw [List.take_of_length_le (Nat.le_refl _), List.drop_eq_nil_of_le (Nat.le_refl _), List.append_nil] at h1
        unfold Fo
        rw [List.length_map]
        exact h1

set_option maxHeartbeats 400000 in
theorem rclose_any (A : Option Addr) (n c : Nat) (xs : List Fu) (keep : Bool) (w : World) (hs : Fs w w.heap.size A n c xs) (hn : n ≤ 1000) (hm : ∀ x ∈ xs, FuM x) :
    Calls Tryz.prog 87 #[.slice A n c, .bool keep] w fun e w' => ∃ v, e = .returned (.tuple #[v, .int .i64 0]) ∧ Fo w' w.heap.size v (xs.map (clsF keep)) ∧ Below w.heap.size w w' := by
  obtain rfl := hs.len
  obtain ⟨i0, hi, hz0, hz1, hz2⟩ := info_parts fu_info
  have HS := hide hs
  have HM := hide hm
  clear hs hm
  go_enter Tryz.func87, Tryz.ntmps87
  go_wp2_with (at_builtin; go_must (refine wpList_append_sl _ rfl _ _ 22 rfl w.heap.size 57 i0 _ 40 Tryz.underlying22 hi hz0 hz1 hz2 rfl (by decide) fuE_len fuE_one _ 0 [] rfl (World.ownsRow_made w #[] 0 (Nat.le_refl _) (Nat.zero_le _) rfl) A xs.length c rfl (HS.out.alloc (Nat.le_refl _) _) (by unfold maxLen; omega) (by omega) (by simp) ?_))
  intro v w1 hown0 hg hat
  have hown : Fo w1 w.heap.size v xs := by simpa using hown0
  have hb : Below w.heap.size w w1 := ((Below.refl _ w).alloc (Nat.le_refl _) _).grown hg (by simp) (by intro k hk; simp [Value.ownBlock] at hk; omega)
  clear hown0 hg hat
  by_cases h0 : xs.length = 0
  · have hx : xs = [] := List.eq_nil_of_length_eq_zero h0
    subst hx
    have hform : ∃ A' c', v = .slice A' 0 c' := by
      rcases hown.2 with ⟨rfl, _⟩ | ⟨g, cap, _, rfl, _⟩
      · exact ⟨none, 0, rfl⟩
      · exact ⟨_, cap, rfl⟩
    obtain ⟨A', c', hv⟩ := hform
    subst hv
    have HO := hide hown
    clear hown h0
    go_wp2
    refine wp_loop_rounds 1 ?_
    rw [rounds_succ]
    go_wp2
    go_ret2
    exact ⟨_, rfl, HO.out, hb⟩
  · obtain ⟨g, cap, hv, hgb, hgl⟩ := hown.form (by omega)
    subst hv
    have hr : Rw w1 w.heap.size g xs.length cap xs := ⟨hown, rfl⟩
    have HR := hide hr
    have HB := hide hb
    clear hr hown hb h0
    go_wp2
    go_loopw [7] (fun i wr => ∃ k : Nat, k ≤ xs.length ∧ i = .int .i64 k ∧ Rw wr w.heap.size g xs.length cap ((xs.take k).map (clsF keep) ++ xs.drop k) ∧ Below w.heap.size w wr) (fun i _ => xs.length - (intOf i).toNat)
    case atStart => exact ⟨0, Nat.zero_le _, rfl, by simpa using HR.out, HB.out⟩
    case round =>
      obtain ⟨k, hk, rfl, hr, hb⟩ := hrel
      have HRR := hide hr
      have HBB := hide hb
      clear HR HB
      by_cases hlt : k < xs.length
      · have hx : xs[k]? = some (xs[k]) := List.getElem?_eq_getElem hlt
        generalize xs[k] = x at hx
        obtain ⟨⟨c0, c1, c2, c3, c4⟩, hfz⟩ := Rw_cells hr (mapAt hx)
        have hM := HM.out x (List.mem_of_getElem? hx)
        have HX := hide hx
        obtain ⟨b1, b2⟩ := hM.b
        obtain ⟨s1, s2⟩ := hM.s
        have hkk : (k : Int) < (xs.length : Int) := by omega
        clear hr hb hx hM
        cases keep with
        | true =>
          go_wp2
          go_region
          go_wp2
          go_roundw
          case rel =>
            have r1 := Rw_set (j := 2) (y := { x with budget := x.budget - x.spent }) (u := .int .i64 (x.budget - x.spent)) HRR.out (mapAt HX.out) (by omega) rfl
            have r2 := Rw_set (j := 4) (y := clsF true x) (u := .int .i64 0) r1 (set_get (mapAt HX.out)) (by omega) rfl
            rw [List.set_set, mapTo HX.out] at r2
            exact ⟨k + 1, by omega, by go_num, r2, (HBB.out.drew.setCell hgb _).setCell hgb _⟩
          case measure => simp [intOf]; omega
        | false =>
          go_wp2
          go_roundw
          case rel =>
            have r1 := Rw_set (j := 2) (y := { x with budget := x.enc }) (u := .int .i64 x.enc) HRR.out (mapAt HX.out) (by omega) rfl
            have r2 := Rw_set (j := 4) (y := clsF false x) (u := .int .i64 0) r1 (set_get (mapAt HX.out)) (by omega) rfl
            rw [List.set_set, mapTo HX.out] at r2
            exact ⟨k + 1, by omega, by go_num, r2, (HBB.out.setCell hgb _).setCell hgb _⟩
          case measure => simp [intOf]; omega
      · obtain rfl : k = xs.length := by omega
        clear hr hb
        go_wp2
        go_ret2
        refine ⟨_, rfl, ?_, HBB.out⟩
        have h1 := HRR.out.1
        rw [List.take_of_length_le (Nat.le_refl _), List.drop_eq_nil_of_le (Nat.le_refl _), List.append_nil] at h1
        unfold Fo
        rw [List.length_map]
        exact h1

def budgetsF (xs : List Fu) : Int := (xs.map (·.budget)).sum
theorem sum_stepF {xs : List Fu} {k : Nat} {x : Fu} (h : xs[k]? = some x) : budgetsF (xs.take (k + 1)) = budgetsF (xs.take k) + x.budget := by
  obtain ⟨hk, rfl⟩ := List.getElem?_eq_some_iff.1 h
  simp only [budgetsF]
  rw [List.take_succ_eq_append_getElem hk, List.map_append, List.sum_append]; simp
theorem sum_bound : ∀ (xs : List Fu), (∀ x ∈ xs, FuM x) → 0 ≤ budgetsF xs ∧ budgetsF xs ≤ xs.length * 100000000
  | [], _ => by simp [budgetsF]
  | x :: r, h => by
    have h1 := sum_bound r (fun y hy => h y (by simp [hy]))
    have h2 := (h x (by simp)).b
    simp only [budgetsF, List.map_cons, List.sum_cons, List.length_cons] at *
    omega

end Go.Proofs.YtbhndfphegflhaaGreat

/- Walks: the reference's Total. -/
namespace Go.Proofs.YtbhndfphegflhaaGreat
open Go.RowKit Go.Maps

def addF (t x : Fu) : Fu := { t with budget := t.budget + x.budget, enc := t.enc + x.enc, spent := t.spent + x.spent }
def totA (p : Fu → Bool) (t : Fu) (xs : List Fu) : Fu := xs.foldl (fun t x => if p x = true then addF t x else t) t
def totR (xs : List Fu) (id : Int) : Fu :=
  if (getF xs id).2 = true then totA (fun x => wiR xs (xs.length + 1) x.id id) ⟨(getF xs id).1.id, (getF xs id).1.parent, 0, 0, 0⟩ xs else fu0

theorem totA_step {p : Fu → Bool} {t : Fu} {xs : List Fu} {k : Nat} {x : Fu} (h : xs[k]? = some x) : totA p t (xs.take (k + 1)) = if p x = true then addF (totA p t (xs.take k)) x else totA p t (xs.take k) := by
  obtain ⟨hk, rfl⟩ := List.getElem?_eq_some_iff.1 h
  rw [List.take_succ_eq_append_getElem hk, totA, List.foldl_append]; rfl
theorem totA_bound (p : Fu → Bool) (M : Int) : ∀ (xs : List Fu) (t : Fu) (L : Int), (∀ x ∈ xs, FuM x) → (0 ≤ t.budget ∧ t.budget ≤ L) → (0 ≤ t.enc ∧ t.enc ≤ L) → (0 ≤ t.spent ∧ t.spent ≤ L) → L + xs.length * 100000000 ≤ M →
    (0 ≤ (totA p t xs).budget ∧ (totA p t xs).budget ≤ M) ∧ (0 ≤ (totA p t xs).enc ∧ (totA p t xs).enc ≤ M) ∧ (0 ≤ (totA p t xs).spent ∧ (totA p t xs).spent ≤ M)
  | [], t, L, _, h1, h2, h3, h4 => by
    simp only [totA, List.foldl_nil, List.length_nil] at *
    refine ⟨⟨?_, ?_⟩, ⟨?_, ?_⟩, ⟨?_, ?_⟩⟩ <;> omega
  | x :: r, t, L, hm, h1, h2, h3, h4 => by
    have hx := hm x (by simp)
    have e1 := hx.b
    have e2 := hx.e
    have e3 := hx.s
    have hr := fun y hy => hm y (List.mem_cons_of_mem x hy)
    rw [totA, List.foldl_cons]
    simp only [List.length_cons] at h4
    by_cases hp : p x = true
    · rw [if_pos hp]
      refine totA_bound p M r (addF t x) (L + 100000000) hr ?_ ?_ ?_ (by omega) <;> (unfold addF; constructor <;> (simp only; omega))
    · rw [if_neg hp]
      refine totA_bound p M r t L hr h1 h2 h3 (by omega)
theorem totA_id (p : Fu → Bool) : ∀ (xs : List Fu) (t : Fu), (totA p t xs).id = t.id ∧ (totA p t xs).parent = t.parent
  | [], _ => ⟨rfl, rfl⟩
  | x :: r, t => by
    rw [totA, List.foldl_cons]
    by_cases hp : p x = true
    · rw [if_pos hp]; exact totA_id p r (addF t x)
    · rw [if_neg hp]; exact totA_id p r t

def fuA (x : Fu) : Array Value := #[.int .i64 x.id, .int .i64 x.parent, .int .i64 x.budget, .int .i64 x.enc, .int .i64 x.spent]
theorem box5 {w : World} {g : Nat} {x : Fu} (h : Box w g 57 (fuA x)) :
    (w.cell? ⟨g, 0, none⟩ = some (.int .i64 x.id) ∧ w.cell? ⟨g, 1, none⟩ = some (.int .i64 x.parent) ∧ w.cell? ⟨g, 2, none⟩ = some (.int .i64 x.budget) ∧ w.cell? ⟨g, 3, none⟩ = some (.int .i64 x.enc) ∧ w.cell? ⟨g, 4, none⟩ = some (.int .i64 x.spent)) ∧ ∀ j, w.frozen? ⟨g, j, none⟩ = false :=
  ⟨⟨h.cell 0, h.cell 1, h.cell 2, h.cell 3, h.cell 4⟩, h.frz⟩

end Go.Proofs.YtbhndfphegflhaaGreat

/- Walks: the program's Total. -/
namespace Go.Proofs.YtbhndfphegflhaaGreat
open Go.RowKit Go.Maps

theorem Box.grown {w w' : World} {g : Nat} {t : TypeId} {cs : Array Value} {row : Option Nat} (h : Box w g t cs) (hb : w.grownBy w' row) (hg : some g ≠ row) : Box w' g t cs := (hb.block g h.lt hg).trans h
/-- The program's sums: the fund x is added at each ID on its way up. -/
def chn (up : Int → Int) (x : Fu) : Nat → Int → (Int → Fu) → (Int → Fu)
  | 0, _, S => S
  | f + 1, at_, S => if at_ = 0 then S else chn up x f (up at_) (fun y => if y = at_ then addF (S at_) x else S y)
theorem chn_zero (up : Int → Int) (x : Fu) (S : Int → Fu) : ∀ f, chn up x f 0 S = S
  | 0 => rfl
  | _ + 1 => by simp [chn]

def sumsP (xs ys : List Fu) : Int → Fu := ys.foldl (fun S x => chn (upF xs) x (xs.length + 1) x.id S) (fun _ => fu0)
def totP (xs : List Fu) (id : Int) : Fu :=
  if (getF xs id).2 = true then { sumsP xs xs id with id := (getF xs id).1.id, parent := (getF xs id).1.parent } else fu0

theorem sumsP_step {xs : List Fu} {k : Nat} {x : Fu} (h : xs[k]? = some x) : sumsP xs (xs.take (k + 1)) = chn (upF xs) x (xs.length + 1) x.id (sumsP xs (xs.take k)) := by
  obtain ⟨hk, rfl⟩ := List.getElem?_eq_some_iff.1 h
  rw [List.take_succ_eq_append_getElem hk, sumsP, List.foldl_append]; rfl

/-- All amounts of the sums are between 0 and L; the sums have no ID and no parent. -/
def BS (S : Int → Fu) (L : Int) : Prop := ∀ y, ((S y).id = 0 ∧ (S y).parent = 0) ∧ (0 ≤ (S y).budget ∧ (S y).budget ≤ L) ∧ (0 ≤ (S y).enc ∧ (S y).enc ≤ L) ∧ (0 ≤ (S y).spent ∧ (S y).spent ≤ L)
theorem BS.start : BS (fun _ => fu0) 0 := fun _ => ⟨⟨rfl, rfl⟩, ⟨Int.le_refl 0, Int.le_refl 0⟩, ⟨Int.le_refl 0, Int.le_refl 0⟩, ⟨Int.le_refl 0, Int.le_refl 0⟩⟩
theorem BS.more {S : Int → Fu} {L M : Int} (h : BS S L) (hl : L ≤ M) : BS S M := fun y => by
  obtain ⟨h0, ⟨h1, h2⟩, ⟨h3, h4⟩, ⟨h5, h6⟩⟩ := h y
  exact ⟨h0, ⟨h1, by omega⟩, ⟨h3, by omega⟩, ⟨h5, by omega⟩⟩
theorem BS.step {S : Int → Fu} {L : Int} {x : Fu} (h : BS S L) (hx : FuM x) (a : Int) : BS (fun y => if y = a then addF (S a) x else S y) (L + 100000000) := fun y => by
  have hb := hx.b
  have he := hx.e
  have hs := hx.s
  by_cases e : y = a
  · simp only [e, if_true]
    obtain ⟨h0, ⟨h1, h2⟩, ⟨h3, h4⟩, ⟨h5, h6⟩⟩ := h a
    unfold addF
    exact ⟨h0, ⟨by simp only; omega, by simp only; omega⟩, ⟨by simp only; omega, by simp only; omega⟩, ⟨by simp only; omega, by simp only; omega⟩⟩
  · simp only [e, if_false]
    exact h.more (by omega) y

/-- A bound of the sums behind k funds and j steps. -/
def LL (k j : Nat) : Int := ((k * 1002 + j : Nat) : Int) * 100000000
theorem LL_zero : LL 0 0 = 0 := by unfold LL; omega
theorem LL_step (k j : Nat) : LL k j + 100000000 = LL k (j + 1) := by unfold LL; omega
theorem LL_next (k j : Nat) (h : j ≤ 1002) : LL k j ≤ LL (k + 1) 0 := by unfold LL; omega
theorem LL_top (k j : Nat) (h : j ≤ 1002) (hk : k ≤ 1000) : LL k j ≤ 1000000000000000 := by unfold LL; omega
abbrev agV (x : Fu) : Value := .agg #[.int .i64 x.id, .int .i64 x.parent, .int .i64 x.budget, .int .i64 x.enc, .int .i64 x.spent]
theorem zero_ag (w : World) : (zeroValue 57).run Tryz.prog w = .ok (.agg #[.int .i64 0, .int .i64 0, .int .i64 0, .int .i64 0, .int .i64 0]) w := by kernel_rfl
abbrev SM (w : World) (b n : Nat) (S : Int → Fu) : Prop := MapI Tryz.prog 3 w b n (.agg #[.int .i64 0, .int .i64 0, .int .i64 0, .int .i64 0, .int .i64 0]) (fun y => agV (S y))

end Go.Proofs.YtbhndfphegflhaaGreat

/- Plain laws on funds: the program's way of finding loops and summing up agrees with the reference's. No walk. -/
namespace Go.Proofs.YtbhndfphegflhaaGreat

/-! ### a list without repetition inside another one -/
theorem nodup_sub {α : Type} [DecidableEq α] : ∀ (us L : List α), us.Nodup → (∀ a ∈ us, a ∈ L) → us.length ≤ L.length
  | [], _, _, _ => Nat.zero_le _
  | a :: us, L, h, hs => by
    obtain ⟨h1, h2⟩ := List.nodup_cons.1 h
    have ha : a ∈ L := hs a (by simp)
    have hr := nodup_sub us (L.erase a) h2 (fun b hb => (List.mem_erase_of_ne (fun e => h1 (by rw [← e]; exact hb))).2 (hs b (by simp [hb])))
    rw [List.length_erase_of_mem ha] at hr
    have := List.length_pos_of_mem ha
    simp only [List.length_cons]
    omega

theorem pigeon (f : Nat → Int) (L : List Int) (h : ∀ i, i ≤ L.length → f i ∈ L) : ∃ i j, i < j ∧ j ≤ L.length ∧ f i = f j := by
  apply Classical.byContradiction
  intro hno
  have hinj : ∀ i j, i < j → j ≤ L.length → f i ≠ f j := fun i j h1 h2 h3 => hno ⟨i, j, h1, h2, h3⟩
  have hnd : ((List.range (L.length + 1)).map f).Nodup := by
    rw [List.nodup_iff_pairwise_ne, List.pairwise_map]
    refine List.Pairwise.imp_of_mem ?_ List.pairwise_lt_range
    intro a b _ hb hab
    exact hinj a b hab (by have := List.mem_range.1 hb; omega)
  have := nodup_sub _ L hnd (by
    intro a ha
    obtain ⟨i, hi, rfl⟩ := List.mem_map.1 ha
    exact h i (by have := List.mem_range.1 hi; omega))
  simp at this
  omega

/-! ### IDs that ascend -/
theorem chkA_lt : ∀ (xs : List Fu) (p : Option Int), chkA p xs = 0 → (∀ q, p = some q → ∀ x ∈ xs, q < x.id) ∧ xs.Pairwise (fun a b => a.id < b.id)
  | [], _, _ => ⟨by simp, List.Pairwise.nil⟩
  | x :: r, p, h => by
    rw [chkA] at h
    split at h
    · simp at h
    · rename_i hp
      split at h
      · simp at h
      · obtain ⟨h1, h2⟩ := chkA_lt r (some x.id) h
        have h1' := h1 x.id rfl
        refine ⟨fun q hq y hy => ?_, List.pairwise_cons.2 ⟨h1', h2⟩⟩
        subst hq
        have hqx : q < x.id := by simpa using hp
        rcases List.mem_cons.1 hy with rfl | hy
        · exact hqx
        · exact Int.lt_trans hqx (h1' y hy)

/-- IDs differ. -/
def Dif (xs : List Fu) : Prop := xs.Pairwise (fun a b => a.id < b.id)
theorem dif_eq {xs : List Fu} (h : Dif xs) {x y : Fu} (hx : x ∈ xs) (hy : y ∈ xs) (he : x.id = y.id) : x = y := by
  unfold Dif at h
  induction xs with
  | nil => simp at hx
  | cons z r ih =>
    obtain ⟨h1, h2⟩ := List.pairwise_cons.1 h
    rcases List.mem_cons.1 hx with rfl | hx' <;> rcases List.mem_cons.1 hy with rfl | hy'
    · rfl
    · have := h1 y hy'; omega
    · have := h1 x hx'; omega
    · exact ih h2 hx' hy'

theorem getF_mem {xs : List Fu} (h : Dif xs) {x : Fu} (hx : x ∈ xs) : getF xs x.id = (x, true) := by
  rcases getF_at (xs := xs) (id := x.id) with ⟨h1, _⟩ | ⟨i, y, _, h2, h3, h4⟩
  · rcases ix_cases (fun y : Fu => y.id == x.id) xs with ⟨_, hall⟩ | ⟨i, y, h5, _⟩
    · have := hall x hx; simp at this
    · unfold atF at h1; omega
  · rw [h4, dif_eq h (List.mem_of_getElem? h2) hx h3]
theorem getF_not {xs : List Fu} {id : Int} (h : ∀ x ∈ xs, x.id ≠ id) : getF xs id = (fu0, false) := by
  rcases getF_at (xs := xs) (id := id) with ⟨_, h2⟩ | ⟨i, y, _, h2, h3, _⟩
  · exact h2
  · exact absurd h3 (h y (List.mem_of_getElem? h2))
theorem getF_true {xs : List Fu} {id : Int} (h : (getF xs id).2 = true) : (getF xs id).1 ∈ xs ∧ (getF xs id).1.id = id := by
  rcases getF_at (xs := xs) (id := id) with ⟨_, h2⟩ | ⟨i, y, _, h2, h3, h4⟩
  · rw [h2] at h; cases h
  · rw [h4]; exact ⟨List.mem_of_getElem? h2, h3⟩
theorem getF_false {xs : List Fu} {id : Int} (h : (getF xs id).2 = false) : getF xs id = (fu0, false) := by
  rcases getF_at (xs := xs) (id := id) with ⟨_, h2⟩ | ⟨i, y, _, h2, h3, h4⟩
  · exact h2
  · rw [h4] at h; cases h

/-- One step up. -/
def nx (xs : List Fu) (id : Int) : Int := (getF xs id).1.parent
/-- n steps up. -/
def nxs (xs : List Fu) : Nat → Int → Int
  | 0, id => id
  | n + 1, id => nxs xs n (nx xs id)
theorem nxs_add (xs : List Fu) : ∀ (m n : Nat) (id : Int), nxs xs (m + n) id = nxs xs n (nxs xs m id)
  | 0, n, id => by rw [Nat.zero_add]; rfl
  | m + 1, n, id => by rw [show m + 1 + n = (m + n) + 1 from by omega, nxs, nxs_add xs m n, nxs]

theorem foldl_up_not (xs : List Fu) (f : Int → Int) (y : Int) (h : ∀ x ∈ xs, x.id ≠ y) : xs.foldl (fun f x => fun y => if y = x.id then x.parent else f y) f y = f y := by
  induction xs generalizing f with
  | nil => rfl
  | cons x r ih =>
    rw [List.foldl_cons, ih _ (fun z hz => h z (by simp [hz]))]
    rw [if_neg (fun e => h x (by simp) e.symm)]
theorem foldl_up_hit (xs : List Fu) (hd : Dif xs) (f : Int → Int) (x : Fu) (hx : x ∈ xs) : xs.foldl (fun f x => fun y => if y = x.id then x.parent else f y) f x.id = x.parent := by
  unfold Dif at hd
  induction xs generalizing f with
  | nil => simp at hx
  | cons z r ih =>
    obtain ⟨h1, h2⟩ := List.pairwise_cons.1 hd
    rw [List.foldl_cons]
    rcases List.mem_cons.1 hx with rfl | hx'
    · rw [foldl_up_not r _ _ (fun y hy => by have := h1 y hy; omega)]
      simp
    · exact ih h2 _ hx'
theorem upF_nx {xs : List Fu} (hd : Dif xs) (y : Int) : upF xs y = nx xs y := by
  unfold upF nx
  cases hb : (getF xs y).2 with
  | true =>
    obtain ⟨h1, h2⟩ := getF_true hb
    have := foldl_up_hit xs hd (fun _ => 0) _ h1
    rw [h2] at this
    exact this
  | false =>
    rw [getF_false hb]
    have hn : ∀ x ∈ xs, x.id ≠ y := fun x hx e => by
      subst e
      rw [getF_mem hd hx] at hb
      cases hb
    rw [foldl_up_not xs _ y hn]; rfl

/-- The lists of which all this is asked: IDs ascend and are at least 1. -/
structure Tid (xs : List Fu) : Prop where
  dif : Dif xs
  pos : ∀ x ∈ xs, 1 ≤ x.id
theorem Tid.of {xs : List Fu} (h : chkA none xs = 0) : Tid xs := ⟨(chkA_lt xs none h).2, fun x hx => (badF_ok (chkA_ok xs none h x hx)).1.1⟩
theorem nx_zero {xs : List Fu} (h : Tid xs) : nx xs 0 = 0 := by
  unfold nx
  rw [getF_not (fun x hx e => by have := h.pos x hx; omega)]; rfl
theorem nxs_zero {xs : List Fu} (h : Tid xs) : ∀ n, nxs xs n 0 = 0
  | 0 => rfl
  | n + 1 => by rw [nxs, nx_zero h, nxs_zero h n]
theorem nxs_stay {xs : List Fu} (h : Tid xs) {m n : Nat} {id : Int} (hm : nxs xs m id = 0) (hn : m ≤ n) : nxs xs n id = 0 := by
  obtain ⟨k, rfl⟩ := Nat.exists_eq_add_of_le hn
  rw [nxs_add, hm, nxs_zero h]
theorem nx_found {xs : List Fu} {id : Int} (h : nx xs id ≠ 0) : (getF xs id).2 = true := by
  cases hb : (getF xs id).2 with
  | true => rfl
  | false => exfalso; apply h; unfold nx; rw [getF_false hb]; rfl

theorem lpR_nxs {xs : List Fu} (h : Tid xs) : ∀ (f : Nat) (id : Int), lpR (upF xs) f id = decide (nxs xs f id ≠ 0)
  | 0, id => rfl
  | f + 1, id => by
    rw [lpR]
    by_cases h0 : id = 0
    · rw [if_pos h0, h0, nxs_zero h]; rfl
    · rw [if_neg h0, upF_nx h.dif, lpR_nxs h f, nxs]

theorem wiR_nxs {xs : List Fu} (h : Tid xs) {top : Int} (ht : top ≠ 0) : ∀ (f : Nat) (id : Int), wiR xs f id top = true ↔ ∃ n, n < f ∧ nxs xs n id = top
  | 0, id => by simp [wiR]
  | f + 1, id => by
    rw [wiR]
    by_cases hit : id = top
    · rw [if_pos hit]
      simp only [true_iff]
      exact ⟨0, by omega, hit⟩
    · rw [if_neg hit]
      have hshift : (∃ n, n < f + 1 ∧ nxs xs n id = top) ↔ ∃ n, n < f ∧ nxs xs n (nx xs id) = top := by
        constructor
        · rintro ⟨n, h1, h2⟩
          cases n with
          | zero => exact absurd h2 hit
          | succ n => exact ⟨n, by omega, h2⟩
        · rintro ⟨n, h1, h2⟩
          exact ⟨n + 1, by omega, h2⟩
      rw [hshift]
      cases hb : (getF xs id).2 with
      | true => rw [if_pos rfl]; exact wiR_nxs h ht f _
      | false =>
        rw [if_neg (by decide)]
        have : nx xs id = 0 := by unfold nx; rw [getF_false hb]; rfl
        rw [this]
        constructor
        · intro h'; cases h'
        · rintro ⟨n, _, h2⟩; rw [nxs_zero h] at h2; exact absurd h2.symm ht

/-- The program finds a loop just where the reference finds one. -/
theorem loop_cyc {xs : List Fu} (h : Tid xs) : loopR xs = cycR xs := by
  rw [Bool.eq_iff_iff]
  unfold loopR cycR
  rw [List.any_eq_true, List.any_eq_true]
  constructor
  · rintro ⟨x, hx, hl⟩
    rw [lpR_nxs h] at hl
    have hne : nxs xs (xs.length + 1) x.parent ≠ 0 := by simpa using hl
    have hpx : nx xs x.id = x.parent := by unfold nx; rw [getF_mem h.dif hx]
    have hne2 : nxs xs (xs.length + 2) x.id ≠ 0 := by rw [nxs, hpx]; exact hne
    have hall : ∀ i, i ≤ xs.length + 2 → nxs xs i x.id ≠ 0 := fun i hi h0 => hne2 (nxs_stay h h0 hi)
    have hmem : ∀ i, i ≤ (xs.map (·.id)).length → nxs xs i x.id ∈ xs.map (·.id) := by
      intro i hi
      rw [List.length_map] at hi
      have h1 : nx xs (nxs xs i x.id) ≠ 0 := by
        have := hall (i + 1) (by omega)
        rw [nxs_add xs i 1] at this
        exact this
      obtain ⟨h2, h3⟩ := getF_true (nx_found h1)
      exact List.mem_map.2 ⟨_, h2, h3⟩
    obtain ⟨i, j, hij, hj, he⟩ := pigeon (fun i => nxs xs i x.id) _ hmem
    rw [List.length_map] at hj
    have h1 : nx xs (nxs xs i x.id) ≠ 0 := by
      have := hall (i + 1) (by omega)
      rw [nxs_add xs i 1] at this
      exact this
    obtain ⟨h2, h3⟩ := getF_true (nx_found h1)
    refine ⟨_, h2, ?_⟩
    rw [h3, Bool.and_eq_true]
    refine ⟨by simpa [nx] using h1, (wiR_nxs h (hall i (by omega)) _ _).2 ⟨j - i - 1, by omega, ?_⟩⟩
    have e1 : nxs xs (j - i - 1) (getF xs (nxs xs i x.id)).1.parent = nxs xs (j - i) (nxs xs i x.id) := by
      rw [show j - i = (j - i - 1) + 1 from by omega, nxs]; rfl
    rw [e1, ← nxs_add, show i + (j - i) = j from by omega]
    exact he.symm
  · rintro ⟨x, hx, hw⟩
    rw [Bool.and_eq_true] at hw
    obtain ⟨hp, hw⟩ := hw
    have hid : x.id ≠ 0 := by have := h.pos x hx; omega
    obtain ⟨n, _, hn⟩ := (wiR_nxs h hid _ _).1 hw
    have hpx : nx xs x.id = x.parent := by unfold nx; rw [getF_mem h.dif hx]
    have hcyc : nxs xs (n + 1) x.id = x.id := by rw [nxs, hpx]; exact hn
    have hk : ∀ k, nxs xs (k * (n + 1)) x.id = x.id := by
      intro k
      induction k with
      | zero => rw [Nat.zero_mul]; rfl
      | succ k ih => rw [Nat.add_mul, Nat.one_mul, nxs_add, ih, hcyc]
    refine ⟨x, hx, ?_⟩
    rw [lpR_nxs h]
    simp only [decide_eq_true_eq]
    intro h0
    have h1 : nxs xs (xs.length + 2) x.id = 0 := by rw [nxs, hpx]; exact h0
    have h2 := hk (xs.length + 2)
    rw [nxs_stay h h1 (by rw [Nat.mul_add]; omega)] at h2
    exact hid h2.symm

theorem right_eq (xs : List Fu) : rightP xs = rightR xs := by
  unfold rightP rightR
  by_cases h1 : 32 < xs.length
  · rw [if_pos h1, if_pos h1]
  · rw [if_neg h1, if_neg h1]
    by_cases h2 : chkA none xs ≠ 0
    · rw [if_pos h2, if_pos h2]
    · rw [if_neg h2, if_neg h2]
      have h2' : chkA none xs = 0 := by simpa using h2
      rw [loop_cyc (Tid.of h2')]
      have e : (0 ≤ ix (fun f => decide (freeF f < 0)) xs) ↔ overF xs = true := by
        unfold overF
        rw [List.any_eq_true]
        rcases ix_cases (fun f => decide (freeF f < 0)) xs with ⟨h3, h4⟩ | ⟨i, x, h3, h4, h5, _⟩
        · rw [h3]
          constructor
          · intro h; omega
          · rintro ⟨x, hx, ho⟩
            have := h4 x hx
            have h6 : ¬ freeF x < 0 := by simpa using this
            have h7 : x.budget < x.enc + x.spent := by simpa using ho
            unfold freeF at h6
            omega
        · rw [h3]
          constructor
          · intro _
            refine ⟨x, List.mem_of_getElem? h4, ?_⟩
            have h6 : freeF x < 0 := by simpa using h5
            unfold freeF at h6
            simp only [decide_eq_true_eq]
            omega
          · intro _; omega
      by_cases h5 : overF xs = true
      · rw [if_pos (e.2 h5), if_pos h5]
      · rw [if_neg (fun h => h5 (e.1 h)), if_neg h5]
end Go.Proofs.YtbhndfphegflhaaGreat

/- Plain laws on funds: totals. No walk. -/
namespace Go.Proofs.YtbhndfphegflhaaGreat

theorem noCyc {xs : List Fu} (h : Tid xs) (hc : cycR xs = false) {a : Int} (ha : a ≠ 0) (n : Nat) : nxs xs (n + 1) a ≠ a := by
  intro hcyc
  have hf : nx xs a ≠ 0 := fun e => by rw [nxs, e, nxs_zero h] at hcyc; exact ha hcyc.symm
  obtain ⟨h2, h3⟩ := getF_true (nx_found hf)
  rw [← loop_cyc h] at hc
  unfold loopR at hc
  rw [List.any_eq_false] at hc
  have h4 := hc _ h2
  rw [lpR_nxs h] at h4
  have h5 : nxs xs (xs.length + 1) (nx xs a) = 0 := by simpa [nx] using h4
  have hk : ∀ k, nxs xs (k * (n + 1)) a = a := by
    intro k
    induction k with
    | zero => rw [Nat.zero_mul]; rfl
    | succ k ih => rw [Nat.add_mul, Nat.one_mul, nxs_add, ih, hcyc]
  have h1 : nxs xs (xs.length + 2) a = 0 := by rw [nxs]; exact h5
  have h2 := hk (xs.length + 2)
  rw [nxs_stay h h1 (by rw [Nat.mul_add]; omega)] at h2
  exact ha h2.symm

theorem chn_at {xs : List Fu} (h : Tid xs) (hc : cycR xs = false) (x : Fu) {y : Int} (hy : y ≠ 0) : ∀ (f : Nat) (a : Int) (S : Int → Fu),
    chn (upF xs) x f a S y = if wiR xs f a y = true then addF (S y) x else S y
  | 0, a, S => rfl
  | f + 1, a, S => by
    rw [chn]
    by_cases ha : a = 0
    · rw [if_pos ha, if_neg]
      rw [wiR_nxs h hy]
      rintro ⟨n, _, hn⟩
      rw [ha, nxs_zero h] at hn
      exact hy hn.symm
    · rw [if_neg ha, chn_at h hc x hy f, upF_nx h.dif]
      by_cases hya : y = a
      · subst hya
        have h1 : ¬ wiR xs f (nx xs y) y = true := by
          rw [wiR_nxs h hy]
          rintro ⟨n, _, hn⟩
          exact noCyc h hc hy n hn
        rw [if_neg h1, if_pos rfl, if_pos (by rw [wiR_nxs h hy]; exact ⟨0, by omega, rfl⟩)]
      · rw [if_neg hya]
        have h1 : wiR xs f (nx xs a) y = true ↔ wiR xs (f + 1) a y = true := by
          rw [wiR_nxs h hy, wiR_nxs h hy]
          constructor
          · rintro ⟨n, h1, h2⟩; exact ⟨n + 1, by omega, h2⟩
          · rintro ⟨n, h1, h2⟩
            cases n with
            | zero => exact absurd h2.symm hya
            | succ n => exact ⟨n, by omega, h2⟩
        by_cases h2 : wiR xs f (nx xs a) y = true
        · rw [if_pos h2, if_pos (h1.1 h2)]
        · rw [if_neg h2, if_neg (fun h => h2 (h1.2 h))]

theorem sums_tot {xs : List Fu} (h : Tid xs) (hc : cycR xs = false) {y : Int} (hy : y ≠ 0) : ∀ (ys : List Fu) (S : Int → Fu),
    ys.foldl (fun S x => chn (upF xs) x (xs.length + 1) x.id S) S y = totA (fun x => wiR xs (xs.length + 1) x.id y) (S y) ys
  | [], S => rfl
  | x :: r, S => by
    rw [List.foldl_cons, sums_tot h hc hy r, chn_at h hc x hy, totA, totA, List.foldl_cons]

theorem totA_named (p : Fu → Bool) (i q : Int) : ∀ (ys : List Fu) (t : Fu), totA p { t with id := i, parent := q } ys = { totA p t ys with id := i, parent := q }
  | [], _ => rfl
  | x :: r, t => by
    rw [totA, totA, List.foldl_cons, List.foldl_cons]
    by_cases hp : p x = true
    · rw [if_pos hp, if_pos hp]; exact totA_named p i q r (addF t x)
    · rw [if_neg hp, if_neg hp]; exact totA_named p i q r t

/-- The program's total is the reference's. -/
theorem tot_eq {xs : List Fu} (h : Tid xs) (hc : cycR xs = false) (id : Int) : totP xs id = totR xs id := by
  unfold totP totR
  cases hb : (getF xs id).2 with
  | false => rfl
  | true =>
    rw [if_pos rfl, if_pos rfl]
    obtain ⟨h1, h2⟩ := getF_true hb
    have hid : id ≠ 0 := by have := h.pos _ h1; omega
    have := sums_tot h hc hid xs (fun _ => fu0)
    unfold sumsP
    rw [this, ← totA_named]
    rfl

/-! ### the total of a fund and those of the funds directly below it -/
def sm (f : Fu → Int) (xs : List Fu) : Int := (xs.map f).sum
theorem sm_cons (f : Fu → Int) (x : Fu) (r : List Fu) : sm f (x :: r) = f x + sm f r := by simp [sm]
theorem sm_congr {f g : Fu → Int} : ∀ {xs : List Fu}, (∀ x ∈ xs, f x = g x) → sm f xs = sm g xs
  | [], _ => rfl
  | x :: r, h => by rw [sm_cons, sm_cons, h x (by simp), sm_congr (fun y hy => h y (by simp [hy]))]
theorem sm_add (f g : Fu → Int) : ∀ (xs : List Fu), sm (fun x => f x + g x) xs = sm f xs + sm g xs
  | [] => rfl
  | x :: r => by rw [sm_cons, sm_cons, sm_cons, sm_add f g r]; omega
theorem sm_zero : ∀ (xs : List Fu), sm (fun _ => 0) xs = 0
  | [] => rfl
  | x :: r => by rw [sm_cons, sm_zero r]; rfl
theorem sm_swap (P : Fu → Bool) (W : Fu → Fu → Bool) (g : Fu → Int) (xs : List Fu) : ∀ (ys : List Fu),
    sm (fun c => if P c = true then sm (fun y => if W y c = true then g y else 0) ys else 0) xs = sm (fun y => sm (fun c => if (P c && W y c) = true then g y else 0) xs) ys
  | [] => by
    rw [sm_congr (g := fun _ => 0) (by intro c _; split <;> rfl), sm_zero]; rfl
  | y :: r => by
    rw [sm_cons, ← sm_swap P W g xs r, ← sm_add]
    refine sm_congr (fun c _ => ?_)
    rw [sm_cons]
    by_cases h1 : P c = true
    · rw [if_pos h1, if_pos h1, h1, Bool.true_and]
    · rw [if_neg h1, if_neg h1]
      have h2 : P c = false := by simpa using h1
      rw [h2, Bool.false_and, if_neg (by decide)]; rfl
theorem sm_none (Q : Fu → Bool) (h : Fu → Int) : ∀ {xs : List Fu}, (∀ c ∈ xs, Q c = false) → sm (fun c => if Q c = true then h c else 0) xs = 0
  | [], _ => rfl
  | x :: r, hn => by
    rw [sm_cons, sm_none Q h (fun c hc => hn c (by simp [hc])), hn x (by simp), if_neg (by decide)]; rfl
theorem sm_one (Q : Fu → Bool) (h : Fu → Int) {c : Fu} : ∀ {xs : List Fu}, Dif xs → (∀ d ∈ xs, Q d = true → d.id = c.id) → c ∈ xs → Q c = true →
    sm (fun c => if Q c = true then h c else 0) xs = h c
  | [], _, _, hc, _ => by simp at hc
  | x :: r, hd, hu, hc, hq => by
    obtain ⟨h1, h2⟩ := List.pairwise_cons.1 hd
    rw [sm_cons]
    rcases List.mem_cons.1 hc with rfl | hc'
    · rw [if_pos hq, sm_none Q h (fun d hd' => ?_)]
      · omega
      · cases hqd : Q d with
        | false => rfl
        | true => have := hu d (by simp [hd']) hqd; have := h1 d hd'; omega
    · rw [if_neg (fun hqx => ?_), sm_one Q h h2 (fun d hd' => hu d (by simp [hd'])) hc' hq]
      · omega
      · have := hu x (by simp) hqx
        have := h1 c hc'
        omega

theorem wi_iff {xs : List Fu} (h : Tid xs) (hc : cycR xs = false) {x : Fu} (hx : x ∈ xs) (y : Int) : wiR xs (xs.length + 1) y x.id = true ↔ ∃ n, nxs xs n y = x.id := by
  have hid : x.id ≠ 0 := by have := h.pos _ hx; omega
  rw [wiR_nxs h hid]
  constructor
  · rintro ⟨n, _, hn⟩; exact ⟨n, hn⟩
  · rintro ⟨n, hn⟩
    refine ⟨n, ?_, hn⟩
    apply Classical.byContradiction
    intro hbig
    have hmem : ∀ i, i ≤ (xs.map (·.id)).length → nxs xs i y ∈ xs.map (·.id) := by
      intro i hi
      rw [List.length_map] at hi
      have h1 : nx xs (nxs xs i y) ≠ 0 := by
        intro h0
        have h2 : nxs xs (i + 1) y = 0 := by rw [nxs_add xs i 1]; exact h0
        rw [nxs_stay h h2 (by omega)] at hn
        exact hid hn.symm
      obtain ⟨h2, h3⟩ := getF_true (nx_found h1)
      exact List.mem_map.2 ⟨_, h2, h3⟩
    obtain ⟨i, j, hij, hj, he⟩ := pigeon (fun i => nxs xs i y) _ hmem
    rw [List.length_map] at hj
    have hi0 : nxs xs i y ≠ 0 := by
      intro h0
      rw [nxs_stay h h0 (by omega)] at hn
      exact hid hn.symm
    refine noCyc h hc hi0 (j - i - 1) ?_
    rw [← nxs_add, show i + (j - i - 1 + 1) = j from by omega]
    exact he.symm

theorem nx_mem {xs : List Fu} (h : Tid xs) {x : Fu} (hx : x ∈ xs) : nx xs x.id = x.parent := by unfold nx; rw [getF_mem h.dif hx]

/-- A fund is within another one just if it is this one, or within exactly one of those directly below it. -/
theorem wi_split {xs : List Fu} (h : Tid xs) (hc : cycR xs = false) {x y : Fu} (hx : x ∈ xs) (k : Int) :
    (if wiR xs (xs.length + 1) y.id x.id = true then k else 0) =
      (if decide (y.id = x.id) = true then k else 0) + sm (fun c => if (decide (c.parent = x.id) && wiR xs (xs.length + 1) y.id c.id) = true then k else 0) xs := by
  have hid : x.id ≠ 0 := by have := h.pos _ hx; omega
  by_cases hyx : y.id = x.id
  · rw [sm_none _ (fun _ => k) (fun c hcm => ?_), if_pos ((wi_iff h hc hx _).2 ⟨0, hyx⟩), if_pos (show decide (y.id = x.id) = true by simpa using hyx)]
    · omega
    · cases hq : (decide (c.parent = x.id) && wiR xs (xs.length + 1) y.id c.id) with
      | false => rfl
      | true =>
        exfalso
        rw [Bool.and_eq_true, decide_eq_true_eq, wi_iff h hc hcm] at hq
        obtain ⟨hp, n, hn⟩ := hq
        refine noCyc h hc hid n ?_
        rw [nxs_add xs n 1, ← hyx, hn, hyx, ← hp]
        exact nx_mem h hcm
  · rw [if_neg (show ¬ decide (y.id = x.id) = true by simpa using hyx)]
    by_cases hw : wiR xs (xs.length + 1) y.id x.id = true
    · obtain ⟨n, hn⟩ := (wi_iff h hc hx _).1 hw
      obtain ⟨m, rfl⟩ : ∃ m, n = m + 1 := ⟨n - 1, by
        have : n ≠ 0 := by rintro rfl; exact hyx hn
        omega⟩
      rw [nxs_add xs m 1] at hn
      have hf : nx xs (nxs xs m y.id) = x.id := hn
      obtain ⟨h2, h3⟩ := getF_true (nx_found (xs := xs) (id := nxs xs m y.id) (by rw [hf]; exact hid))
      generalize (getF xs (nxs xs m y.id)).1 = c at h2 h3
      have hcp : c.parent = x.id := by rw [← nx_mem h h2, h3]; exact hf
      rw [if_pos hw, sm_one (fun c => decide (c.parent = x.id) && wiR xs (xs.length + 1) y.id c.id) (fun _ => k) (c := c) h.dif ?_ h2 ?_]
      · omega
      · intro d hd hq
        rw [Bool.and_eq_true, decide_eq_true_eq, wi_iff h hc hd] at hq
        obtain ⟨hp, n2, hn2⟩ := hq
        have hdx : nxs xs 1 d.id = x.id := by rw [← hp]; exact nx_mem h hd
        have hcx : nxs xs 1 c.id = x.id := by rw [← hcp]; exact nx_mem h h2
        rcases Nat.lt_trichotomy m n2 with hlt | heq | hgt
        · exfalso
          have e1 : nxs xs (n2 - m) c.id = d.id := by rw [h3, ← nxs_add, show m + (n2 - m) = n2 from by omega]; exact hn2
          rw [show n2 - m = 1 + (n2 - m - 1) from by omega, nxs_add, hcx] at e1
          refine noCyc h hc hid (n2 - m - 1) ?_
          rw [nxs_add xs (n2 - m - 1) 1, e1]
          exact hdx
        · rw [h3, heq, hn2]
        · exfalso
          have e1 : nxs xs (m - n2) d.id = c.id := by rw [← hn2, ← nxs_add, show n2 + (m - n2) = m from by omega]; exact h3.symm
          rw [show m - n2 = 1 + (m - n2 - 1) from by omega, nxs_add, hdx] at e1
          refine noCyc h hc hid (m - n2 - 1) ?_
          rw [nxs_add xs (m - n2 - 1) 1, e1]
          exact hcx
      · rw [Bool.and_eq_true, decide_eq_true_eq, wi_iff h hc h2]
        exact ⟨hcp, m, h3.symm⟩
    · rw [if_neg hw, sm_none _ (fun _ => k) (fun c hcm => ?_)]
      · rfl
      · cases hq : (decide (c.parent = x.id) && wiR xs (xs.length + 1) y.id c.id) with
        | false => rfl
        | true =>
          exfalso
          rw [Bool.and_eq_true, decide_eq_true_eq, wi_iff h hc hcm] at hq
          obtain ⟨hp, n, hn⟩ := hq
          refine hw ((wi_iff h hc hx _).2 ⟨n + 1, ?_⟩)
          rw [nxs_add xs n 1, hn, ← hp]
          exact nx_mem h hcm

theorem totA_sm (p : Fu → Bool) : ∀ (ys : List Fu) (t : Fu),
    (totA p t ys).budget = t.budget + sm (fun y => if p y = true then y.budget else 0) ys ∧
    (totA p t ys).enc = t.enc + sm (fun y => if p y = true then y.enc else 0) ys ∧
    (totA p t ys).spent = t.spent + sm (fun y => if p y = true then y.spent else 0) ys
  | [], t => by simp [totA, sm]
  | x :: r, t => by
    rw [totA, List.foldl_cons, sm_cons, sm_cons, sm_cons]
    by_cases hp : p x = true
    · rw [if_pos hp, if_pos hp, if_pos hp, if_pos hp]
      obtain ⟨h1, h2, h3⟩ := totA_sm p r (addF t x)
      unfold totA at h1 h2 h3
      rw [h1, h2, h3]
      unfold addF
      simp only
      omega
    · rw [if_neg hp, if_neg hp, if_neg hp, if_neg hp]
      obtain ⟨h1, h2, h3⟩ := totA_sm p r t
      unfold totA at h1 h2 h3
      rw [h1, h2, h3]
      omega

/-- The sum that the law takes: a fund, and the totals of those directly below it. -/
def sumC (xs : List Fu) (id : Int) (t : Fu) (ys : List Fu) : Fu := ys.foldl (fun t c => if c.parent = id then addF t (totP xs c.id) else t) t
theorem sumC_step {xs : List Fu} {id : Int} {t : Fu} {ys : List Fu} {k : Nat} {c : Fu} (h : ys[k]? = some c) :
    sumC xs id t (ys.take (k + 1)) = if c.parent = id then addF (sumC xs id t (ys.take k)) (totP xs c.id) else sumC xs id t (ys.take k) := by
  obtain ⟨hk, rfl⟩ := List.getElem?_eq_some_iff.1 h
  rw [List.take_succ_eq_append_getElem hk, sumC, List.foldl_append]; rfl
theorem sumC_sm (xs : List Fu) (id : Int) : ∀ (ys : List Fu) (t : Fu),
    ((sumC xs id t ys).id = t.id ∧ (sumC xs id t ys).parent = t.parent) ∧
    (sumC xs id t ys).budget = t.budget + sm (fun c => if decide (c.parent = id) = true then (totP xs c.id).budget else 0) ys ∧
    (sumC xs id t ys).enc = t.enc + sm (fun c => if decide (c.parent = id) = true then (totP xs c.id).enc else 0) ys ∧
    (sumC xs id t ys).spent = t.spent + sm (fun c => if decide (c.parent = id) = true then (totP xs c.id).spent else 0) ys
  | [], t => by simp [sumC, sm]
  | x :: r, t => by
    rw [sumC, List.foldl_cons, sm_cons, sm_cons, sm_cons]
    by_cases hp : x.parent = id
    · have hp' : decide (x.parent = id) = true := by simpa using hp
      rw [if_pos hp, if_pos hp', if_pos hp', if_pos hp']
      obtain ⟨h0, h1, h2, h3⟩ := sumC_sm xs id r (addF t (totP xs x.id))
      unfold sumC at h0 h1 h2 h3
      refine ⟨h0, ?_⟩
      rw [h1, h2, h3]
      unfold addF
      simp only
      omega
    · have hp' : ¬ decide (x.parent = id) = true := by simpa using hp
      rw [if_neg hp, if_neg hp', if_neg hp', if_neg hp']
      obtain ⟨h0, h1, h2, h3⟩ := sumC_sm xs id r t
      unfold sumC at h0 h1 h2 h3
      refine ⟨h0, ?_⟩
      rw [h1, h2, h3]
      omega

theorem tot_field {xs : List Fu} (h : Tid xs) (hc : cycR xs = false) {c : Fu} (hx : c ∈ xs) :
    ((totP xs c.id).id = c.id ∧ (totP xs c.id).parent = c.parent) ∧
    (totP xs c.id).budget = sm (fun y => if wiR xs (xs.length + 1) y.id c.id = true then y.budget else 0) xs ∧
    (totP xs c.id).enc = sm (fun y => if wiR xs (xs.length + 1) y.id c.id = true then y.enc else 0) xs ∧
    (totP xs c.id).spent = sm (fun y => if wiR xs (xs.length + 1) y.id c.id = true then y.spent else 0) xs := by
  rw [tot_eq h hc]
  unfold totR
  rw [getF_mem h.dif hx, if_pos rfl]
  obtain ⟨h1, h2, h3⟩ := totA_sm (fun y => wiR xs (xs.length + 1) y.id c.id) xs ⟨c.id, c.parent, 0, 0, 0⟩
  refine ⟨totA_id _ _ _, ?_, ?_, ?_⟩
  · rw [h1]; simp only; omega
  · rw [h2]; simp only; omega
  · rw [h3]; simp only; omega

theorem sm_split {xs : List Fu} (h : Tid xs) (hc : cycR xs = false) {x : Fu} (hx : x ∈ xs) (g : Fu → Int) (T : Fu → Int)
    (hT : ∀ c ∈ xs, T c = sm (fun y => if wiR xs (xs.length + 1) y.id c.id = true then g y else 0) xs) :
    g x + sm (fun c => if decide (c.parent = x.id) = true then T c else 0) xs = T x := by
  have e1 : sm (fun c => if decide (c.parent = x.id) = true then T c else 0) xs = sm (fun c => if decide (c.parent = x.id) = true then sm (fun y => if wiR xs (xs.length + 1) y.id c.id = true then g y else 0) xs else 0) xs :=
    sm_congr (fun c hcm => by rw [hT c hcm])
  rw [e1, sm_swap (fun c => decide (c.parent = x.id)) (fun y c => wiR xs (xs.length + 1) y.id c.id) g xs xs, hT x hx]
  rw [sm_congr (f := fun y => if wiR xs (xs.length + 1) y.id x.id = true then g y else 0) (fun y _ => wi_split h hc hx (g y)), sm_add]
  rw [sm_one (fun y => decide (y.id = x.id)) g (c := x) h.dif (fun d _ hq => by simpa using hq) hx (by simp)]

theorem total_sum {xs : List Fu} (h : Tid xs) (hc : cycR xs = false) {x : Fu} (hx : x ∈ xs) : totP xs x.id = sumC xs x.id x xs := by
  obtain ⟨⟨a1, a2⟩, a3, a4, a5⟩ := sumC_sm xs x.id xs x
  have b1 := sm_split h hc hx (·.budget) (fun c => (totP xs c.id).budget) (fun c hcm => (tot_field h hc hcm).2.1)
  have b2 := sm_split h hc hx (·.enc) (fun c => (totP xs c.id).enc) (fun c hcm => (tot_field h hc hcm).2.2.1)
  have b3 := sm_split h hc hx (·.spent) (fun c => (totP xs c.id).spent) (fun c hcm => (tot_field h hc hcm).2.2.2)
  obtain ⟨⟨c1, c2⟩, _⟩ := tot_field h hc hx
  generalize sumC xs x.id x xs = s at *
  generalize totP xs x.id = t at *
  obtain ⟨s1, s2, s3, s4, s5⟩ := s
  obtain ⟨t1, t2, t3, t4, t5⟩ := t
  simp only at *
  subst a1 a2 c1 c2
  rw [Fu.mk.injEq]
  exact ⟨rfl, rfl, by omega, by omega, by omega⟩
end Go.Proofs.YtbhndfphegflhaaGreat

/- Walks: the chapter's examples. -/
namespace Go.Proofs.YtbhndfphegflhaaGreat
open Go.RowKit Go.Maps

def exL : List Fu := [⟨1, 0, 1000, 200, 300⟩, ⟨2, 1, 500, 0, 0⟩]
theorem exM : ∀ x ∈ exL, FuM x := by
  intro x hx
  simp only [exL, List.mem_cons, List.not_mem_nil, or_false] at hx
  rcases hx with rfl | rfl <;> exact ⟨⟨by decide, by decide⟩, ⟨by decide, by decide⟩, ⟨by decide, by decide⟩⟩
theorem exW : ∀ x ∈ exL, FuW x := by
  intro x hx
  simp only [exL, List.mem_cons, List.not_mem_nil, or_false] at hx
  rcases hx with rfl | rfl <;> exact ⟨⟨by decide, by decide⟩, ⟨by decide, by decide⟩, ⟨by decide, by decide⟩, ⟨by decide, by decide⟩, ⟨by decide, by decide⟩⟩
theorem ex1 : chR (spdF 200 700) exL 1 = (0, [⟨1, 0, 1000, 0, 1000⟩, ⟨2, 1, 500, 0, 0⟩]) := by decide +kernel
theorem ex2 : chR (spdF 200 701) exL 1 = (17, []) := by decide +kernel
theorem ex3 : chR (spdF 201 0) exL 1 = (17, []) := by decide +kernel
theorem ex4 : trR exL 1 2 501 = (17, []) := by decide +kernel
theorem ex5 : trR exL 1 1 0 = (1, []) := by decide +kernel
theorem ex6 : trR exL 1 3 0 = (9, []) := by decide +kernel
theorem ex7 : freeF (getF exL 1).1 = 500 := by decide +kernel
theorem ex8 : totP exL 1 = ⟨1, 0, 1500, 200, 300⟩ := by decide +kernel

/-- A literal slice of two funds. -/
theorem two_funds (w : World) (x y : Fu) : Fs (w.alloc (.cells #[.int .i64 x.id, .int .i64 x.parent, .int .i64 x.budget, .int .i64 x.enc, .int .i64 x.spent, .int .i64 y.id, .int .i64 y.parent, .int .i64 y.budget, .int .i64 y.enc, .int .i64 y.spent] 57)) (w.heap.size + 1) (some ⟨w.heap.size, 0, none⟩) 2 2 [x, y] := by
  refine ⟨rfl, Nat.le_refl _, by omega, by simp, fun _ => ⟨w.heap.size, 0, rfl, by omega, ?_⟩⟩
  have hb := Box.new w 57 #[.int .i64 x.id, .int .i64 x.parent, .int .i64 x.budget, .int .i64 x.enc, .int .i64 x.spent, .int .i64 y.id, .int .i64 y.parent, .int .i64 y.budget, .int .i64 y.enc, .int .i64 y.spent]
  intro i z hz j u hu
  rw [Nat.zero_add, hb.cell]
  have hj : j < 5 := by have := (List.getElem?_eq_some_iff.1 hu).1; simpa [fuE] using this
  match i, hz with
  | 0, hz =>
    simp at hz; subst hz
    rw [← hu]
    match j, hj with
    | 0, _ => rfl
    | 1, _ => rfl
    | 2, _ => rfl
    | 3, _ => rfl
    | 4, _ => rfl
  | 1, hz =>
    simp at hz; subst hz
    rw [← hu]
    match j, hj with
    | 0, _ => rfl
    | 1, _ => rfl
    | 2, _ => rfl
    | 3, _ => rfl
    | 4, _ => rfl

end Go.Proofs.YtbhndfphegflhaaGreat

/- An argument that is a slice of structs of one-cell fields, opened to its cells. No program. -/
namespace Go.Proofs.YtbhndfphegflhaaGreat
open Go.RowKit Go.ChangeShapes Go.WideShapes Go.Deep

theorem add_of_add (a : Addr) (i j : Nat) : (a.add i).add j = a.add (i + j) := by
  unfold Addr.add
  by_cases hi : i = 0 <;> by_cases hj : j = 0 <;> simp [hi, hj, Nat.add_assoc]

section
variable {H : Type} {enc : TypeId × Value → H} {P : Program} {w : World} {base : Nat} {spare : Nat → Bool} {held : Bool}

theorem open_rows {t e : TypeId} {fs : Array Field} {fuel : Nat} {cs : List Value} {x : DataW H × List MemPlace} (ht : P.underlying t = some (.slice e)) (he : P.underlying e = some (.struct fs))
    (hone : ∀ (i : Nat) (f : Field), fs[i]? = some f → f.offset = i ∧ P.cellsOf f.type = 1) (hC : P.cellsOf e = fs.size) (hpos : 0 < fs.size)
    (R : Nat → Value → Prop) (hR : ∀ (j : Nat) (f : Field) (n : Nat) (v : Value) (y : DataW H × List MemPlace), fs[j]? = some f → DataW.trod enc P w base spare held n f.type [v] = some y → R j v)
    (h : DataW.trod enc P w base spare held fuel t cs = some x) :
    cs = [.slice none 0 0] ∨
    ∃ (A : Addr) (len cap : Nat) (V : Nat → Nat → Value) (el sp : List (DataW H)), cs = [.slice (some A) len cap] ∧ len ≤ cap ∧ x.1 = .slice el sp ∧ el.length = len ∧
      (0 < len → ∃ b o, A = ⟨b, o, none⟩ ∧ b < w.heap.size ∧ ∀ i, i < len → ∀ j, j < fs.size → w.cell? ⟨b, o + i * fs.size + j, none⟩ = some (V i j) ∧ R j (V i j)) := by
  rcases open_slice ht h with ⟨hcs, _⟩ | ⟨a, len, cap, m, n, D, Pl, hcs, hb, hl, hm, hmm, hx, hi⟩
  · exact .inl hcs
  · right
    have hlm : len ≤ m := by rw [hmm]; split <;> omega
    have hrow : ∀ i, i < len → ∃ cs' : List Value, cs'.length = fs.size ∧ (∀ j, j < fs.size → w.cell? (a.add (i * fs.size + j)) = some (cs'.getD j undef)) ∧ ∀ j, j < fs.size → R j (cs'.getD j undef) := by
      intro i hil
      obtain ⟨cs', hc, ht'⟩ := hi i (by omega)
      rw [hC] at hc
      obtain ⟨_, hlen, hcell⟩ := World.cells?_some hc
      obtain ⟨ys, n', _, _, _, hyl, hf⟩ := DataW.trod_struct he ht'
      refine ⟨cs', hlen, fun j hj => ?_, fun j hj => ?_⟩
      · have h1 := hcell j hj
        rw [add_of_add, List.getElem?_eq_getElem (by omega)] at h1
        rw [h1, List.getD_eq_getElem?_getD, List.getElem?_eq_getElem (by omega)]; rfl
      · have hfj : fs[j]? = some fs[j] := Array.getElem?_eq_getElem hj
        obtain ⟨ho, hk⟩ := hone j _ hfj
        have g := hf j _ hfj
        rw [ho, hk, take1_drop cs' j undef (by omega), List.getElem?_eq_getElem (by omega)] at g
        exact hR j _ n' _ _ hfj g
    obtain ⟨V, hV⟩ : ∃ V : Nat → Nat → Value, ∀ i, i < len → ∀ j, j < fs.size → w.cell? (a.add (i * fs.size + j)) = some (V i j) ∧ R j (V i j) := by
      refine ⟨fun i => if h : i < len then fun j => (Classical.choose (hrow i h)).getD j undef else fun _ => undef, fun i hil j hj => ?_⟩
      simp only [hil, dif_pos]
      have := Classical.choose_spec (hrow i hil)
      exact ⟨this.2.1 j hj, this.2.2 j hj⟩
    refine ⟨a, len, cap, V, _, _, hcs, hl, by rw [hx], by simp, fun hlen => ?_⟩
    obtain ⟨b, o, spot⟩ := a
    have h0 := (hV 0 hlen 0 hpos).1
    have hspot : spot = none := by simpa [Addr.add] using World.cell?_spot h0
    subst hspot
    refine ⟨b, o, rfl, ?_, fun i hil j hj => ?_⟩
    · have := World.block_lt_of_cell? w _ h0
      simpa [Addr.add_lit] using this
    · have := hV i hil j hj
      rw [Addr.add_lit] at this
      rwa [Nat.add_assoc]

/-- A struct of one-cell fields, by value. -/
theorem open_agg {r : Reach} {b0 : Nat} {t : TypeId} {fs : Array Field} {v : Value} {d : DataW H} {p : List MemPlace} (hs : P.underlying t = some (.struct fs))
    (hone : ∀ (i : Nat) (f : Field), fs[i]? = some f → f.offset = i ∧ P.cellsOf f.type = 1) (hC : P.cellsOf t = fs.size)
    (R : Nat → Value → Prop) (hR : ∀ (j : Nat) (f : Field) (n : Nat) (v : Value) (y : DataW H × List MemPlace), fs[j]? = some f → DataW.trod enc P w base spare held n f.type [v] = some y → R j v)
    (hv : Value.okWide P w r b0 t v) (h : DataW.Trod enc P w base spare held t v d p) : ∃ cs : List Value, v = .agg cs.toArray ∧ cs.length = fs.size ∧ ∀ j, j < fs.size → R j (cs.getD j undef) := by
  obtain ⟨cs, rfl, hsz⟩ := okWide_struct hs hv
  obtain ⟨l⟩ := cs
  obtain ⟨fuel, hf⟩ := h
  obtain ⟨ys, n', _, _, hlen, hyl, hg⟩ := DataW.trod_struct hs hf
  have hl : l.length = fs.size := by have := hsz; simp at this; omega
  refine ⟨l, rfl, hl, fun j hj => ?_⟩
  have hfj : fs[j]? = some fs[j] := Array.getElem?_eq_getElem hj
  obtain ⟨ho, hk⟩ := hone j _ hfj
  have g := hg j _ hfj
  have hcells : Value.cells (.agg ⟨l⟩) = ⟨l⟩ := rfl
  rw [hcells] at g
  rw [ho, hk, take1_drop l j undef (by omega), List.getElem?_eq_getElem (by omega)] at g
  exact hR j _ n' _ _ hfj g
end

def I64v (v : Value) : Prop := ∃ n : Int, v = .int .i64 n ∧ -9223372036854775808 ≤ n ∧ n ≤ 9223372036854775807
theorem I64v_of {H : Type} {enc : TypeId × Value → H} {P : Program} {w : World} {base : Nat} {spare : Nat → Bool} {held : Bool} {t : TypeId} (ht : P.underlying t = some (.int .i64)) {n : Nat} {v : Value} {y : DataW H × List MemPlace}
    (h : DataW.trod enc P w base spare held n t [v] = some y) : I64v v := by
  obtain ⟨a, hv, _, hw⟩ := DataW.trod_int ht h
  simp only [List.cons.injEq, and_true] at hv
  refine ⟨a, hv, ?_⟩
  have := bounds_i64 hw
  exact this
end Go.Proofs.YtbhndfphegflhaaGreat
