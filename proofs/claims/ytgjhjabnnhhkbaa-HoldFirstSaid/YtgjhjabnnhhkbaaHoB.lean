/- Walks: twice and its comparing functions; find, Get; put. -/
import Derived.Test.YtgjhjabnnhhkbaaHoA
namespace Go.Proofs.Ytgjhjabnnhhkbaa
open Go.RowKit

theorem alk1_any (a b : Ho) (w : World) : Calls Try.prog 40 #[hoV a, hoV b] w fun e w' => e = .returned (.bool (alk1 a b)) ∧ Below w.heap.size w w' := by
  have B2 := hide (((Below.refl w.heap.size w).alloc (Nat.le_refl _) (.cells (hoC a) 47)).alloc (by simp) (.cells (hoC b) 47))
  unfold hoV
  by_cases h1 : a.pat = b.pat
  · have e1 : (a.pat == b.pat) = true := by simpa using h1
    have e : alk1 a b = (a.rcd == b.rcd) := by unfold alk1; rw [e1]; rfl
    rw [e]
    clear e h1
    go_enter Try.func40, Try.ntmps40
    go_wp2
    go_ret
    exact ⟨rfl, B2.out⟩
  · have e1 : (a.pat == b.pat) = false := by simpa using h1
    have e : alk1 a b = false := by unfold alk1; rw [e1]; rfl
    rw [e]
    clear e h1
    go_enter Try.func40, Try.ntmps40
    go_wp2
    go_ret
    exact ⟨rfl, B2.out⟩
theorem alk2_any (a b : Ho) (w : World) : Calls Try.prog 41 #[hoV a, hoV b] w fun e w' => e = .returned (.bool (alk2 a b)) ∧ Below w.heap.size w w' := by
  have B2 := hide (((Below.refl w.heap.size w).alloc (Nat.le_refl _) (.cells (hoC a) 47)).alloc (by simp) (.cells (hoC b) 47))
  unfold hoV
  by_cases h1 : a.got = b.got
  · have e1 : (a.got == b.got) = true := by simpa using h1
    have e : alk2 a b = decide (0 < a.got) := by unfold alk2; rw [e1]; rfl
    rw [e]
    clear e h1
    go_enter Try.func41, Try.ntmps41
    go_wp2
    go_ret
    exact ⟨rfl, B2.out⟩
  · have e1 : (a.got == b.got) = false := by simpa using h1
    have e : alk2 a b = false := by unfold alk2; rw [e1]; rfl
    rw [e]
    clear e h1
    go_enter Try.func41, Try.ntmps41
    go_wp2
    go_ret
    exact ⟨rfl, B2.out⟩
theorem e_alk1 : ∀ args w, (callFunc 40 args).run Try.prog w = .ok (.enter 40 args) w := enters_of Try.func40 (by kernel_rfl) rfl
theorem e_alk2 : ∀ args w, (callFunc 41 args).run Try.prog w = .ok (.enter 41 args) w := enters_of Try.func41 (by kernel_rfl) rfl

set_option maxRecDepth 100000 in
set_option maxHeartbeats 4000000 in
theorem twice_any (f : Nat) (p : Ho → Ho → Bool) (eg : ∀ args w, (callFunc f args).run Try.prog w = .ok (.enter f args) w) (A : Option Addr) (n c : Nat) (xs : List Ho) (w : World) (hs : Hos w w.heap.size A n c xs)
    (hp : ∀ W a b, Calls Try.prog f #[hoV a, hoV b] W fun e w' => e = .returned (.bool (p a b)) ∧ Below W.heap.size W w') :
    Calls Try.prog 39 #[.slice A n c, .func (.func f) #[] #[]] w fun e w' => e = .returned (.bool (tw p [] xs)) ∧ Below w.heap.size w w' := by
  obtain rfl := hs.len
  have hle := hs.le
  have hbig := hs.big
  have HS := hide hs
  have HP := hide hp
  clear hs hp
  go_enter Try.func39, Try.ntmps39
  go_wp2
  go_loopw [9] (fun s9 wr => ∃ k : Nat, k ≤ xs.length ∧ s9 = .int .i64 k ∧ Below w.heap.size w wr ∧ tw p [] xs = tw p (xs.take k) (xs.drop k)) (fun s9 _ => xs.length - (intOf s9).toNat)
  case atStart => exact ⟨0, Nat.zero_le _, rfl, Below.refl _ _, rfl⟩
  case round =>
    obtain ⟨k, hk, rfl, hb, ha⟩ := hrel
    have HA := hide ha
    have HB := hide hb
    clear hb ha
    by_cases hlt : k < xs.length
    · obtain ⟨b, off, x, hA, hbB, hx, c0⟩ := HS.out.at_ hlt
      have HX := hide hx
      have HST := hide (tw_step (p := p) hx)
      have hkz : (k : Int) < (xs.length : Int) := by omega
      clear hx c0
      go_wp2
      go_loopw [13] (fun s13 wi => ∃ j : Nat, j ≤ k ∧ s13 = .int .i64 j ∧ Below w.heap.size w wi ∧ (xs.take k).any (fun y => p y x) = ((xs.take k).drop j).any (fun y => p y x)) (fun s13 _ => k - (intOf s13).toNat)
      case atStart => exact ⟨0, Nat.zero_le _, rfl, HB.out, rfl⟩
      case round =>
        obtain ⟨j, hj, rfl, hb, ha⟩ := hrel
        clear HB
        have HB := hide hb
        have HY := hide ha
        clear hb ha
        by_cases hjt : j < k
        · obtain ⟨b1, off1, x1, hA1, hbB1, hx1, c0, c1, c2, c3, c4, c5, c6, c7, c8, c9, c10⟩ := Hos_at (HS.out.below HB.out) hlt
          obtain ⟨b2, off2, y, hA2, hbB2, hy, d0, d1, d2, d3, d4, d5, d6, d7, d8, d9, d10⟩ := Hos_at (HS.out.below HB.out) (k := j) (by omega)
          obtain rfl : x = x1 := by have := HX.out; rw [hx1] at this; exact (Option.some.inj this).symm
          cases hA1.symm.trans hA2
          have htk : (xs.take k)[j]? = some y := by rw [List.getElem?_take, if_pos hjt]; exact hy
          have hst := any_step (p := fun y => p y x) htk
          rw [← HY.out] at hst
          have hcall := fun W => HP.out W y x
          generalize hq : p y x = q at hcall hst
          have HQ := hide hst
          unfold hoV at hcall
          have HCA := hide hcall
          have hjz : (j : Int) < (k : Int) := by omega
          have hjz2 : (j : Int) < (xs.length : Int) := by omega
          have HA1 := hide hA
          subst hA1
          clear hx1 hy htk hst hq hcall hA hA2
          have f0 := Grn.cell c0
          have f1 := Grn.cell c1
          have f2 := Grn.cell c2
          have f3 := Grn.cell c3
          have f4 := Grn.cell c4
          have f5 := Grn.cell c5
          have f6 := Grn.cell c6
          have f7 := Grn.cell c7
          have f8 := Grn.cell c8
          have f9 := Grn.cell c9
          have f10 := Grn.cell c10
          have g0 := Grn.cell d0
          have g1 := Grn.cell d1
          have g2 := Grn.cell d2
          have g3 := Grn.cell d3
          have g4 := Grn.cell d4
          have g5 := Grn.cell d5
          have g6 := Grn.cell d6
          have g7 := Grn.cell d7
          have g8 := Grn.cell d8
          have g9 := Grn.cell d9
          have g10 := Grn.cell d10
          cases q with
          | true =>
            go_wp2_with fail
            refine wp_region_grn (by kernel_rfl) (by kernel_rfl) ?_
            repeat (go_big_quiet_step ((go_at_fn f; exact Calls_grn (HCA.out _))))
            refine wpQuiet_nil ?_
            rintro _ ⟨pp, rfl⟩
            have hb2 := hide (HB.out.trans (pp.h.mono HB.out.size))
            go_wp2
            go_ret
            exact ⟨ret_bool (by rw [HA.out, HST.out, HQ.out]; rfl), hb2.out⟩
          | false =>
            go_wp2_with fail
            refine wp_region_grn (by kernel_rfl) (by kernel_rfl) ?_
            repeat (go_big_quiet_step ((go_at_fn f; exact Calls_grn (HCA.out _))))
            refine wpQuiet_nil ?_
            rintro _ ⟨pp, rfl⟩
            have hb2 := hide (HB.out.trans (pp.h.mono HB.out.size))
            go_wp2
            go_roundw
            case rel => exact ⟨j + 1, by omega, by go_num, hb2.out, by rw [HQ.out, Bool.false_or]⟩
            case measure => simp [intOf]; omega
        · obtain rfl : j = k := by omega
          have hjz : ¬ (j : Int) < (j : Int) := by omega
          go_wp2
          go_roundw
          case rel => exact ⟨j + 1, by omega, by go_num, HB.out, by rw [HA.out, HST.out, HY.out, List.drop_eq_nil_of_le (by rw [List.length_take]; omega)]; rfl⟩
          case measure => simp [intOf]; omega
    · obtain rfl : k = xs.length := by omega
      go_wp2
      go_ret
      exact ⟨ret_bool (by rw [HA.out, List.drop_length]; rfl), HB.out⟩
end Go.Proofs.Ytgjhjabnnhhkbaa
