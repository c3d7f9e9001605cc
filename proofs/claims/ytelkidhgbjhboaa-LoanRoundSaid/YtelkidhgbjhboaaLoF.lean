/- Walks: Of and Late of both. -/
import Derived.Test.YtelkidhgbjhboaaLoE
import Derived.Maps.AppendAt
namespace Go.Proofs.Ytelkidhgbjhboaa
open Go.RowKit

theorem filter_snoc {α : Type} {p : α → Bool} {xs : List α} {k : Nat} {x : α} (h : xs[k]? = some x) : (xs.take (k + 1)).filter p = (xs.take k).filter p ++ (if p x = true then [x] else []) := by
  rw [take_step h, List.filter_append]
  congr 1
  cases h : p x <;> simp [h]

set_option maxHeartbeats 800000 in
theorem lof_any (A : Option Addr) (n c : Nat) (xs : List Lo) (pat : Int) (w : World) (hs : Los w w.heap.size A n c xs) (hn : n ≤ 1000) :
    Calls Try.prog 24 #[.slice A n c, .int .i64 pat] w fun e w' => ∃ v, e = .returned v ∧ Loo w' w.heap.size v (ofL xs pat) ∧ Below w.heap.size w w' := by
  obtain ⟨i0, hi, hz0, hz1, hz2⟩ := info_parts lo_info
  obtain rfl := hs.len
  have hle := hs.le
  have hbig := hs.big
  have HS := hide hs
  have HI := hide (And.intro hi (And.intro hz0 (And.intro hz1 hz2)))
  clear hs hi hz0 hz1 hz2
  go_enter Try.func24, Try.ntmps24
  go_wp2
  go_loopw [5, 10] (fun v s10 wr => ∃ k : Nat, k ≤ xs.length ∧ s10 = .int .i64 k ∧ Loo wr w.heap.size v (ofL (xs.take k) pat) ∧ Below w.heap.size w wr) (fun _ s10 _ => xs.length - (intOf s10).toNat)
  case atStart => exact ⟨0, Nat.zero_le _, rfl, World.ownsRow_nil _ _ _ _, Below.refl _ _⟩
  case round =>
    obtain ⟨k, hk, rfl, ho, hb⟩ := hrel
    have HO := hide ho
    have HB := hide hb
    have hz := hb.size
    clear ho hb
    by_cases hlt : k < xs.length
    · obtain ⟨b, off, x, rfl, hbB, hx, c0, c1, c2, c3, c4, c5⟩ := Los_at (HS.out.below HB.out) hlt
      have hst := filter_snoc (p := fun x => x.patron == pat) hx
      have HBW := hide (HB.out.alloc hz (.cells (loC x) 28))
      by_cases hp : x.patron = pat
      · have hpb : (x.patron == pat) = true := by simpa using hp
        rw [if_pos hpb] at hst
        have HST := hide hst
        have hlen : (ofL (xs.take k) pat).length ≤ k := Nat.le_trans (List.length_filter_le _ _) (List.length_take_le _ _)
        have hsrc : ∀ w', Box w' (wr.heap.size + 1) 28 (loC x) → Los w' (wr.heap.size + 1 + 1) (some ⟨wr.heap.size + 1, 0, none⟩) 1 1 [x] := fun w' h => lo_sl1 h
        have HSRC := hide hsrc
        have hown2 : ∀ o o', ((wr.alloc o).alloc o').ownsRow w.heap.size 28 6 u5 (ofL (xs.take k) pat).length ((ofL (xs.take k) pat).flatMap loE) := fun o o' => (HO.out.alloc o).alloc o'
        have HO2 := hide hown2
        clear hx hst hp hsrc hown2
        go_wp2_with (at_builtin; go_must (refine wpList_append_sl _ rfl _ _ 22 rfl w.heap.size 28 i0 _ 48 Try.underlying22 HI.out.1 HI.out.2.1 HI.out.2.2.1 HI.out.2.2.2 rfl (by decide) loE_len loE_one _ _ _ rfl (HO2.out _ _) _ 1 1 rfl (HSRC.out _ (by have := Box.new (wr.alloc (.cells (loC x) 28)) 28 (loC x); rwa [World.size_alloc] at this)) (by unfold maxLen; omega) (by omega) (by simp; omega) ?_))
        intro v' w1 hown hg hat
        have H1 := hide hown
        have H2 := hide (((HBW.out.alloc (by simp; omega) _).grown hg (by simp; omega) (by intro q hq; exact (HO.out.lt q hq).1)))
        clear hown hg hat
        go_wp2
        go_roundw
        case rel =>
          refine ⟨k + 1, by omega, by go_num, ?_, H2.out⟩
          unfold Loo ofL
          rw [HST.out, List.flatMap_append, List.length_append]
          exact H1.out
        case measure => simp [intOf]; omega
      · have hpb : (x.patron == pat) = false := by simpa using hp
        rw [if_neg (by rw [hpb]; decide), List.append_nil] at hst
        have HST := hide hst
        clear hx hst hp
        go_wp2
        go_roundw
        case rel =>
          refine ⟨k + 1, by omega, by go_num, ?_, HBW.out⟩
          unfold Loo ofL
          rw [HST.out]
          exact HO.out.alloc _
        case measure => simp [intOf]; omega
    · go_wp2
      go_ret
      refine ⟨u5, rfl, ?_, HB.out⟩
      have := HO.out
      rwa [List.take_of_length_le (by omega)] at this

set_option maxHeartbeats 800000 in
theorem rof_any (A : Option Addr) (n c : Nat) (xs : List Lo) (pat : Int) (w : World) (hs : Los w w.heap.size A n c xs) (hn : n ≤ 1000) :
    Calls Try.prog 25 #[.slice A n c, .int .i64 pat] w fun e w' => ∃ v, e = .returned v ∧ Loo w' w.heap.size v (ofL xs pat) ∧ Below w.heap.size w w' := by
  obtain ⟨i0, hi, hz0, hz1, hz2⟩ := info_parts lo_info
  obtain rfl := hs.len
  have hle := hs.le
  have hbig := hs.big
  have HS := hide hs
  have HI := hide (And.intro hi (And.intro hz0 (And.intro hz1 hz2)))
  have HM := hide (World.ownsRow_made (base := w.heap.size) (e := 28) (size := 6) w #[] 0 (Nat.le_refl _) (Nat.zero_le _) rfl)
  have HB0 := hide ((Below.refl w.heap.size w).alloc (Nat.le_refl _) (.cells #[] 28))
  clear hs hi hz0 hz1 hz2
  go_enter Try.func25, Try.ntmps25
  go_wp2
  go_loopw [5, 6] (fun v s10 wr => ∃ k : Nat, k ≤ xs.length ∧ s10 = .int .i64 k ∧ Loo wr w.heap.size v (ofL (xs.take k) pat) ∧ Below w.heap.size w wr) (fun _ s10 _ => xs.length - (intOf s10).toNat)
  case atStart => exact ⟨0, Nat.zero_le _, rfl, HM.out, HB0.out⟩
  case round =>
    obtain ⟨k, hk, rfl, ho, hb⟩ := hrel
    have HO := hide ho
    have HB := hide hb
    have hz := hb.size
    clear ho hb HM HB0
    by_cases hlt : k < xs.length
    · obtain ⟨b, off, x, rfl, hbB, hx, c0, c1, c2, c3, c4, c5⟩ := Los_at (HS.out.below HB.out) hlt
      have hst := filter_snoc (p := fun x => x.patron == pat) hx
      have HBW := hide (HB.out.alloc hz (.cells (loC x) 28))
      by_cases hp : x.patron = pat
      · have hpb : (x.patron == pat) = true := by simpa using hp
        rw [if_pos hpb] at hst
        have HST := hide hst
        have hlen : (ofL (xs.take k) pat).length ≤ k := Nat.le_trans (List.length_filter_le _ _) (List.length_take_le _ _)
        have HSRC := hide (lo_sl1 (Box.new wr 28 (loC x)))
        have hown2 : ∀ o, (wr.alloc o).ownsRow w.heap.size 28 6 u5 (ofL (xs.take k) pat).length ((ofL (xs.take k) pat).flatMap loE) := fun o => HO.out.alloc o
        have HO2 := hide hown2
        clear hx hst hp hown2
        go_wp2_with (at_builtin; go_must (refine wpList_append_sl _ rfl _ _ 22 rfl w.heap.size 28 i0 _ 48 Try.underlying22 HI.out.1 HI.out.2.1 HI.out.2.2.1 HI.out.2.2.2 rfl (by decide) loE_len loE_one _ _ _ rfl (HO2.out _) _ 1 1 rfl HSRC.out (by unfold maxLen; omega) (by omega) (by simp; omega) ?_))
        intro v' w1 hown hg hat
        have H1 := hide hown
        have H2 := hide ((HBW.out.grown hg (by simp; omega) (by intro q hq; exact (HO.out.lt q hq).1)))
        clear hown hg hat
        go_wp2
        go_roundw
        case rel =>
          refine ⟨k + 1, by omega, by go_num, ?_, H2.out⟩
          unfold Loo ofL
          rw [HST.out, List.flatMap_append, List.length_append]
          exact H1.out
        case measure => simp [intOf]; omega
      · have hpb : (x.patron == pat) = false := by simpa using hp
        rw [if_neg (by rw [hpb]; decide), List.append_nil] at hst
        have HST := hide hst
        clear hx hst hp
        go_wp2
        go_roundw
        case rel =>
          refine ⟨k + 1, by omega, by go_num, ?_, HB.out⟩
          unfold Loo ofL
          rw [HST.out]
          exact HO.out
        case measure => simp [intOf]; omega
    · go_wp2
      go_ret
      refine ⟨u5, rfl, ?_, HB.out⟩
      have := HO.out
      rwa [List.take_of_length_le (by omega)] at this

/-- How many elements of a list there are for which a test holds. -/
def cnt {α : Type} (p : α → Bool) (xs : List α) : Nat := (xs.filter p).length
theorem cnt_snoc {α : Type} {p : α → Bool} {xs : List α} {k : Nat} {x : α} (h : xs[k]? = some x) : cnt p (xs.take (k + 1)) = cnt p (xs.take k) + if p x = true then 1 else 0 := by
  unfold cnt
  rw [filter_snoc h, List.length_append]
  split <;> rfl
theorem cnt_le {α : Type} {p : α → Bool} {xs : List α} {k : Nat} : cnt p (xs.take k) ≤ k := Nat.le_trans (List.length_filter_le _ _) (List.length_take_le _ _)

set_option maxHeartbeats 800000 in
theorem llate_any (A : Option Addr) (n c : Nat) (xs : List Lo) (pat day : Int) (w : World) (hs : Los w w.heap.size A n c xs) (hn : n ≤ 1000) :
    Calls Try.prog 26 #[.slice A n c, .int .i64 pat, .int .i64 day] w fun e w' => e = .returned (.int .i64 (lateL xs pat day)) ∧ Below w.heap.size w w' := by
  obtain rfl := hs.len
  have HC := hide (lof_any A xs.length c xs pat w hs hn)
  have hel : lateL xs pat day = (cnt (fun x => decide (x.due < day)) (ofL xs pat) : Nat) := rfl
  have hml : (ofL xs pat).length ≤ xs.length := List.length_filter_le _ _
  rw [hel]
  clear hel hs
  generalize ofL xs pat = ys at HC hml
  go_enter Try.func26, Try.ntmps26
  go_wp2_with fail
  refine HC.out.mono ?_
  rintro e w1 ⟨v, rfl, hown, hb⟩
  obtain ⟨A1, c1, hv, hsl⟩ := Loo_sl hown (by omega)
  subst hv
  have HS := hide hsl
  have HB := hide hb
  have hle := hsl.le
  clear HC hown hsl hb
  go_wp2
  go_loopw [7, 14] (fun s7 s14 wr => ∃ k : Nat, k ≤ ys.length ∧ s14 = .int .i64 k ∧ s7 = .int .i64 (cnt (fun x => decide (x.due < day)) (ys.take k) : Nat) ∧ Below w.heap.size w wr ∧ Below w1.heap.size w1 wr) (fun _ s14 _ => ys.length - (intOf s14).toNat)
  case atStart => exact ⟨0, Nat.zero_le _, rfl, rfl, HB.out, Below.refl _ _⟩
  case round =>
    obtain ⟨k, hk, rfl, rfl, hb, hb1⟩ := hrel
    have HB1 := hide hb
    have HB2 := hide hb1
    have hz := hb.size
    have hz1 := hb1.size
    have hcl := cnt_le (p := fun x : Lo => decide (x.due < day)) (xs := ys) (k := k)
    clear hb hb1 HB
    by_cases hlt : k < ys.length
    · obtain ⟨b, off, x, rfl, hbB, hx, c0, c1, c2, c3, c4, c5⟩ := Los_at (HS.out.below HB2.out) hlt
      have hst := cnt_snoc (p := fun x : Lo => decide (x.due < day)) hx
      have HBW := hide (HB1.out.alloc hz (.cells (loC x) 28))
      have HBX := hide (HB2.out.alloc hz1 (.cells (loC x) 28))
      have HST := hide hst
      clear hx hst
      generalize hq : cnt (fun x : Lo => decide (x.due < day)) (ys.take k) = q at hcl
      have HQ := hide hq
      clear hq
      by_cases hd : x.due < day
      · go_wp2
        go_roundw
        case rel =>
          refine ⟨k + 1, by omega, by go_num, ?_, HBW.out, HBX.out⟩
          rw [HST.out, HQ.out, if_pos (by simpa using hd)]
          go_num
        case measure => simp [intOf]; omega
      · go_wp2
        go_roundw
        case rel =>
          refine ⟨k + 1, by omega, by go_num, ?_, HBW.out, HBX.out⟩
          rw [HST.out, HQ.out, if_neg (by simpa using hd)]
          go_num
        case measure => simp [intOf]; omega
    · obtain rfl : k = ys.length := by omega
      go_wp2
      go_ret
      exact ⟨ret_int (by rw [List.take_length]), HB1.out⟩

set_option maxHeartbeats 800000 in
theorem rlate_any (A : Option Addr) (n c : Nat) (xs : List Lo) (pat day : Int) (w : World) (B : Nat) (hs : Los w B A n c xs) :
    Calls Try.prog 27 #[.slice A n c, .int .i64 pat, .int .i64 day] w fun e w' => e = .returned (.int .i64 (lateL xs pat day)) ∧ w = w' := by
  obtain rfl := hs.len
  have hle := hs.le
  have hbig := hs.big
  have hel : lateL xs pat day = (cnt (fun x => (x.patron == pat) && decide (x.due < day)) xs : Nat) := by
    unfold lateL cnt
    rw [List.filter_filter]
    congr 3
    funext x
    rw [Bool.and_comm]
  rw [hel]
  clear hel
  have HS := hide hs
  clear hs
  go_enter Try.func27, Try.ntmps27
  go_wp2
  go_loop [7, 8] (fun s7 s14 => ∃ k : Nat, k ≤ xs.length ∧ s14 = .int .i64 k ∧ s7 = .int .i64 (cnt (fun x => (x.patron == pat) && decide (x.due < day)) (xs.take k) : Nat)) (fun _ s14 => xs.length - (intOf s14).toNat)
  case atStart => exact ⟨0, Nat.zero_le _, rfl, rfl⟩
  case round =>
    obtain ⟨k, hk, rfl, rfl⟩ := hrel
    have hcl := cnt_le (p := fun x : Lo => (x.patron == pat) && decide (x.due < day)) (xs := xs) (k := k)
    by_cases hlt : k < xs.length
    · obtain ⟨b, off, x, rfl, hbB, hx, c0, c1, c2, c3, c4, c5⟩ := Los_at HS.out hlt
      have hst := cnt_snoc (p := fun x : Lo => (x.patron == pat) && decide (x.due < day)) hx
      have HST := hide hst
      clear hx hst
      generalize hq : cnt (fun x : Lo => (x.patron == pat) && decide (x.due < day)) (xs.take k) = q at hcl
      have HQ := hide hq
      clear hq
      by_cases hp : x.patron = pat
      · have hpb : (x.patron == pat) = true := by simpa using hp
        have HP := hide hp
        clear hp
        by_cases hd : x.due < day
        · go_wp2
          go_round
          case rel =>
            refine ⟨k + 1, by omega, by go_num, ?_⟩
            rw [HST.out, HQ.out, if_pos (by simpa using And.intro HP.out hd)]
            go_num
          case measure => simp [intOf]; omega
        · go_wp2
          go_round
          case rel =>
            refine ⟨k + 1, by omega, by go_num, ?_⟩
            rw [HST.out, HQ.out, if_neg (by simp [hd])]
            go_num
          case measure => simp [intOf]; omega
      · have hpb : (x.patron == pat) = false := by simpa using hp
        go_wp2
        go_round
        case rel =>
          refine ⟨k + 1, by omega, by go_num, ?_⟩
          rw [HST.out, HQ.out, if_neg (by simp [hp])]
          go_num
        case measure => simp [intOf]; omega
    · obtain rfl : k = xs.length := by omega
      go_wp2
      go_ret
      exact ⟨rfl, rfl⟩
end Go.Proofs.Ytelkidhgbjhboaa
