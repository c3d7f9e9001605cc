/- Walks: Free, the predicate of Right, Clone, Same, changed. -/
import Derived.Test.YtbcapljiangjcaaFuB
import Derived.Lib.SliceRun
namespace Go.Proofs.Ytbcapljiangjcaa
open Go.RowKit

/-- The three amounts of a fund are amounts. -/
structure FuM (x : Fu) : Prop where
  b : 0 ≤ x.budget ∧ x.budget ≤ 100000000
  e : 0 ≤ x.enc ∧ x.enc ≤ 100000000
  s : 0 ≤ x.spent ∧ x.spent ≤ 100000000
theorem FuM.zero : FuM fu0 := ⟨⟨by decide, by decide⟩, ⟨by decide, by decide⟩, ⟨by decide, by decide⟩⟩
theorem getF_M {xs : List Fu} (h : ∀ x ∈ xs, FuM x) (id : Int) : FuM (getF xs id).1 := by
  rcases getF_at (xs := xs) (id := id) with ⟨_, h2⟩ | ⟨i, x, _, h2, _, h4⟩
  · rw [h2]; exact FuM.zero
  · rw [h4]; exact h x (List.mem_of_getElem? h2)

def freeF (x : Fu) : Int := x.budget - x.enc - x.spent

theorem pfree_any (A : Option Addr) (n c : Nat) (xs : List Fu) (id : Int) (w : World) (hs : Fs w w.heap.size A n c xs) (hm : ∀ x ∈ xs, FuM x) :
    Calls Try.prog 15 #[.slice A n c, .int .i64 id] w fun e w' => e = .returned (.int .i64 (freeF (getF xs id).1)) ∧ Below w.heap.size w w' := by
  have hp := pget_any A n c xs id w hs
  have hM := getF_M hm id
  clear hm
  generalize getF xs id = r at hp hM
  obtain ⟨x, ok⟩ := r
  have HP := hide hp
  have HM := hide hM
  clear hp hM
  unfold fuV at HP
  go_enter Try.func15, Try.ntmps15
  go_wp2_with fail
  refine (HP.out).mono ?_
  rintro e w1 ⟨rfl, hb⟩
  have hz : w.heap.size ≤ w1.heap.size := hb.size
  go_wp2_with fail
  refine (free_any x _ HM.out.b HM.out.e HM.out.s).mono ?_
  rintro e w2 ⟨rfl, hb2⟩
  go_wp2
  go_ret
  exact ⟨rfl, hb.trans ((below_call hb2).mono hz)⟩

theorem rfree_any (A : Option Addr) (n c : Nat) (xs : List Fu) (id : Int) (w : World) (hs : Fs w w.heap.size A n c xs) (hm : ∀ x ∈ xs, FuM x) :
    Calls Try.prog 16 #[.slice A n c, .int .i64 id] w fun e w' => e = .returned (.int .i64 (freeF (getF xs id).1)) ∧ Below w.heap.size w w' := by
  have hp := rget_any A n c xs id w hs
  have hM := getF_M hm id
  clear hm
  generalize getF xs id = r at hp hM
  obtain ⟨⟨i, p, b, e, s⟩, ok⟩ := r
  have hb := hM.b
  have he := hM.e
  have hs := hM.s
  simp only at hb he hs
  have HP := hide hp
  clear hp hM
  unfold fuV at HP
  simp only at HP
  go_enter Try.func16, Try.ntmps16
  go_wp2_with fail
  refine (HP.out).mono ?_
  rintro e w1 ⟨rfl, hb⟩
  have hz : w.heap.size ≤ w1.heap.size := hb.size
  go_wp2
  go_ret
  exact ⟨rfl, hb.alloc hz _⟩

theorem right1_any (x : Fu) (w : World) (hm : FuM x) :
    Calls Try.prog 53 #[fuV x] w fun e w' => e = .returned (.bool (decide (freeF x < 0))) ∧ Below w.heap.size w w' := by
  have hM := fun o => free_any x (w.alloc o) hm.b hm.e hm.s
  clear hm
  unfold fuV at hM ⊢
  have HM := hide hM
  clear hM
  go_enter Try.func53, Try.ntmps53
  go_wp2_with fail
  refine (HM.out _).mono ?_
  rintro e w2 ⟨rfl, hb2⟩
  go_wp2
  go_ret
  exact ⟨rfl, below_call hb2⟩

theorem fu_info : (Try.prog.info? 26).map (fun i => (i.zero, i.size, i.bytes)) = some (some (.agg #[.int .i64 0, .int .i64 0, .int .i64 0, .int .i64 0, .int .i64 0]), 5, 40) := by kernel_rfl

/-- A new row that reads as xs (nil where there is none). -/
abbrev Fo (w : World) (B : Nat) (v : Value) (xs : List Fu) : Prop := w.ownsRow B 26 5 v xs.length (xs.flatMap fuE)

theorem clone_any (A : Option Addr) (n c : Nat) (xs : List Fu) (w : World) (hs : Fs w w.heap.size A n c xs) (hn : n ≤ 1000) :
    Calls Try.prog 54 #[.slice A n c] w fun e w' => ∃ v, e = .returned v ∧ Fo w' w.heap.size v xs ∧ Below w.heap.size w w' := by
  obtain ⟨i0, hi, hz0, hz1, hz2⟩ := info_parts fu_info
  have HS := hide hs
  have hnl := hs.nl
  clear hs
  cases A with
  | none =>
    have hx : xs = [] := by
      have h1 := HS.out.len; have h2 := HS.out.nl rfl; have h3 := HS.out.le
      exact List.eq_nil_of_length_eq_zero (by omega)
    subst hx
    clear hnl
    have q22 : ∀ (w : World) (a : Option Addr) (n c n' c' : Nat), (binOp .eql 22 (.slice a n c) (.slice none n' c')).run Try.prog w = .ok (.bool a.isNone) w := fun w a n c n' c' => Lib.run_eql_slice_nil w _ _ a n c n' c' Try.underlying22
    go_enter Try.func54, Try.ntmps54
    go_wp2
    go_ret
    exact ⟨_, rfl, World.ownsRow_nil _ _ _ _, Below.refl _ _⟩
  | some ad =>
    clear hnl
    have q22 : ∀ (w : World) (a : Option Addr) (n c n' c' : Nat), (binOp .eql 22 (.slice a n c) (.slice none n' c')).run Try.prog w = .ok (.bool a.isNone) w := fun w a n c n' c' => Lib.run_eql_slice_nil w _ _ a n c n' c' Try.underlying22
    go_enter Try.func54, Try.ntmps54
    go_wp2_with (at_builtin; go_must (refine wpList_append_sl _ rfl _ _ 22 rfl w.heap.size 26 i0 _ 40 Try.underlying22 hi hz0 hz1 hz2 rfl (by decide) fuE_len fuE_one _ 0 [] rfl (World.ownsRow_made w #[] 0 (Nat.le_refl _) (Nat.zero_le _) rfl) (some ad) n c rfl (HS.out.alloc (Nat.le_refl _) _) (by unfold maxLen; omega) (by omega) (by simp) ?_))
    intro v' w1 hown hg hat
    go_wp2
    go_ret
    refine ⟨v', rfl, ?_, ((Below.refl _ w).alloc (Nat.le_refl _) _).grown hg (by simp) (by intro k hk; simp [Value.ownBlock] at hk; omega)⟩
    have hl := HS.out.len
    subst hl
    simpa using hown
end Go.Proofs.Ytbcapljiangjcaa
