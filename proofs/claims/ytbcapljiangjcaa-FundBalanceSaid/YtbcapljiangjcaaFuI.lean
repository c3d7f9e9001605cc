/- Walks: parents, Within, loop. -/
import Derived.Test.YtbcapljiangjcaaFuH2
namespace Go.Proofs.Ytbcapljiangjcaa
open Go.RowKit Go.Maps

theorem wf64 {a : Int} (h : I64 a) : (Lit.int .i64 a).wf = true := by
  obtain ⟨h1, h2⟩ := h
  exact WalkArith.wf_i64 (by omega)

/-- The parent of the last fund with an ID; 0 if there is none. -/
def upF (xs : List Fu) : Int → Int := xs.foldl (fun f x => fun y => if y = x.id then x.parent else f y) (fun _ => 0)
theorem upF_snoc (xs : List Fu) (x : Fu) (y : Int) : upF (xs ++ [x]) y = if y = x.id then x.parent else upF xs y := by
  simp [upF, List.foldl_append]
theorem upF_step {xs : List Fu} {k : Nat} {x : Fu} (h : xs[k]? = some x) (y : Int) : upF (xs.take (k + 1)) y = if y = x.id then x.parent else upF (xs.take k) y := by
  obtain ⟨hk, rfl⟩ := List.getElem?_eq_some_iff.1 h
  rw [List.take_succ_eq_append_getElem hk, upF_snoc]

theorem zero_int (w : World) : (zeroValue 3).run Try.prog w = .ok (.int .i64 0) w := by kernel_rfl
theorem zero_fund (w : World) : (zeroValue 26).run Try.prog w = .ok (fuV fu0) w := by kernel_rfl

set_option maxHeartbeats 400000 in
theorem parents_any (A : Option Addr) (n c : Nat) (xs : List Fu) (w : World) (hs : Fs w w.heap.size A n c xs) (hw : ∀ x ∈ xs, I64 x.id) :
    Calls Try.prog 40 #[.slice A n c] w fun e w' => ∃ b, e = .returned (.map (some b)) ∧ w.heap.size ≤ b ∧ MapI Try.prog 3 w' b n (.int .i64 0) (fun y => .int .i64 (upF xs y)) ∧ Below w.heap.size w w' := by
  have hle := hs.le
  have hbig := hs.big
  have HS := hide hs
  have HW := hide hw
  clear hs hw
  have hmm := @run_makeMap Try.prog
  go_enter Try.func40, Try.ntmps40
  go_wp2
  go_loopw [9] (fun i wr => ∃ k : Nat, k ≤ n ∧ i = .int .i64 k ∧ MapI Try.prog 3 wr w.heap.size k (.int .i64 0) (fun y => .int .i64 (upF (xs.take k) y)) ∧ Below w.heap.size w wr) (fun i _ => n - (intOf i).toNat)
  case atStart => exact ⟨0, Nat.zero_le _, rfl, MapI.made _ _ _ _, (Below.refl _ _).alloc (Nat.le_refl _) _⟩
  case round =>
    obtain ⟨k, hk, rfl, hmap, hb⟩ := hrel
    have HB := hide hb
    have HM := hide hmap
    have hz := hb.size
    clear hb hmap
    by_cases hlt : k < n
    · obtain ⟨b, off, x, rfl, hbB, hx, c0, c1, c2, c3, c4⟩ := Fs_at (HS.out.below HB.out) hlt
      have HX := hide hx
      have hwf := wf64 (HW.out x (List.mem_of_getElem? hx))
      have HWF := hide hwf
      clear hx hwf
      go_wp2_with (at_mapUpdate; go_must (refine wpList_updateI _ rfl _ _ _ 48 rfl 3 3 Try.underlying3 Try.underlying48 (.int .i64 0) w.heap.size k _ rfl (HM.out.alloc _) (by unfold maxLen; omega) _ _ rfl rfl HWF.out ?_))
      intro w1 hm1 hg1
      have HM1 := hide hm1
      have hb1 := (HB.out.alloc hz (.cells #[.int .i64 x.id, .int .i64 x.parent, .int .i64 x.budget, .int .i64 x.enc, .int .i64 x.spent] 26)).grown hg1 (by simp; omega) (fun j hj => by cases hj; exact Nat.le_refl _)
      have HB1 := hide hb1
      clear hm1 hg1 hb1
      go_wp2
      go_roundw
      case rel =>
        refine ⟨k + 1, by omega, by go_num, HM1.out.congr (fun y _ => ?_), HB1.out⟩
        rw [upF_step HX.out]
        by_cases e : y = x.id <;> simp [e]
      case measure => simp [intOf]; omega
    · obtain rfl : k = n := by omega
      go_wp2
      go_ret
      refine ⟨_, rfl, Nat.le_refl _, HM.out.congr (fun y _ => ?_), HB.out⟩
      rw [List.take_of_length_le (by have := HS.out.len; omega)]

/-- Whether a fund is another one or below it, looking at most f steps up. -/
def wiR (xs : List Fu) : Nat → Int → Int → Bool
  | 0, _, _ => false
  | f + 1, id, top => if id = top then true else if (getF xs id).2 = true then wiR xs f (getF xs id).1.parent top else false

set_option maxHeartbeats 400000 in
theorem within_any (A : Option Addr) (n c : Nat) (xs : List Fu) (id top : Int) (w : World) (B : Nat) (hs : Fs w B A n c xs) :
    Calls Try.prog 41 #[.slice A n c, .int .i64 id, .int .i64 top] w fun e w' => e = .returned (.bool (wiR xs (n + 1) id top)) ∧ w = w' := by
  have hle := hs.le
  have hbig := hs.big
  have HS := hide hs
  clear hs
  go_enter Try.func41, Try.ntmps41
  go_wp2
  go_loop [1, 7] (fun d i => ∃ (k : Nat) (id' : Int), k ≤ n + 1 ∧ i = .int .i64 k ∧ d = .int .i64 id' ∧ wiR xs (n + 1) id top = wiR xs (n + 1 - k) id' top) (fun _ i => n + 1 - (intOf i).toNat)
  case atStart => exact ⟨0, id, Nat.zero_le _, rfl, rfl, rfl⟩
  case round =>
    obtain ⟨k, id', hk, rfl, rfl, ha⟩ := hrel
    have HA := hide ha
    clear ha
    by_cases hlt : k ≤ n
    · have e1 : n + 1 - k = (n - k) + 1 := by omega
      by_cases hit : id' = top
      · have hit' : (id' == top) = true := by simpa using hit
        have HI := hide hit
        clear hit
        go_wp2
        go_ret
        exact ⟨ret_bool (by rw [HA.out, e1, wiR, if_pos HI.out]), rfl⟩
      · have hit' : (id' == top) = false := by simpa using hit
        have HI := hide hit
        clear hit
        have hp := fun w1 (_ : w = w1) => at_any A n c xs id' w _ HS.out
        rcases getF_at (xs := xs) (id := id') with ⟨h1, h2⟩ | ⟨i, x, h1, h2, h3, h4⟩
        · rw [h1] at hp
          have HP := hide hp
          have HG := hide h2
          clear hp h1 h2
          go_wp2_with fail
          refine (HP.out _ rfl).mono ?_
          rintro e w1 ⟨rfl, rfl⟩
          go_wp2
          go_ret
          exact ⟨ret_bool (by rw [HA.out, e1, wiR, if_neg HI.out, HG.out, if_neg (by decide)]), rfl⟩
        · rw [h1] at hp
          have hi : i < n := by have := (List.getElem?_eq_some_iff.1 h2).1; have := HS.out.len; omega
          obtain ⟨b, off, y, rfl, hbB, hy, c0, c1, c2, c3, c4⟩ := Fs_at HS.out hi
          obtain rfl : x = y := by rw [hy] at h2; exact (Option.some.inj h2).symm
          have HP := hide hp
          have HG := hide h4
          clear hp h1 h2 h3 h4 hy c0 c2 c3 c4
          go_wp2_with fail
          refine (HP.out _ rfl).mono ?_
          rintro e w1 ⟨rfl, rfl⟩
          go_wp2
          go_round
          case rel => exact ⟨k + 1, x.parent, by omega, by go_num, rfl, by rw [HA.out, e1, wiR, if_neg HI.out, HG.out, if_pos rfl, show n + 1 - (k + 1) = n - k from by omega]⟩
          case measure => simp [intOf]; omega
    · go_wp2
      go_ret
      exact ⟨ret_bool (by rw [HA.out, show n + 1 - k = 0 from by omega]; rfl), rfl⟩

/-- The program's way up: f steps at most until 0; true if it is not reached. -/
def lpR (up : Int → Int) : Nat → Int → Bool
  | 0, id => decide (id ≠ 0)
  | f + 1, id => if id = 0 then false else lpR up f (up id)
end Go.Proofs.Ytbcapljiangjcaa
