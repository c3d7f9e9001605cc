/- Walks: Place of the reference. Printed by gen_ho_rplace.py. -/
import Derived.Test.YtgjhjabnnhhkbaaHoI
import Derived.Test.YtgjhjabnnhhkbaaHoA3
namespace Go.Proofs.Ytgjhjabnnhhkbaa
open Go.RowKit

set_option maxRecDepth 100000 in
set_option maxHeartbeats 2000000 in
theorem hrplace_any (A : Option Addr) (n c : Nat) (xs : List Ho) (x : Ho) (w : World) (hs : Hos w w.heap.size A n c xs) (hn : n ≤ 60) :
    Calls Try.prog 34 #[.slice A n c, hoV x] w (ResH w (placeH xs x)) := by
  obtain ⟨i0, hi0, hz0, hz1, hz2⟩ := info_parts ho_info
  obtain rfl := hs.len
  have HI := hide (And.intro hi0 (And.intro hz0 (And.intro hz1 hz2)))
  have hle := hs.le
  have hbig := hs.big
  have HBW := hide ((Below.refl w.heap.size w).alloc (Nat.le_refl _) (.cells (hoC x) 47))
  have HBX := hide (Box.new w 47 (hoC x))
  obtain ⟨_, d0, d1, d2, d3, d4, d5, d6, d7, d8, d9, d10⟩ := ho_box HBX.out (Below.refl _ _)
  clear hi0 hz0 hz1 hz2
  by_cases hg : x.st = 1 ∧ x.got = 0 ∧ x.unt = 0
  · rw [hpl_ok hg]
    obtain ⟨g1, g2, g3⟩ := hg
    have hR : ∀ W A1 n1 c1, Below w.heap.size w W → Hos W W.heap.size A1 n1 c1 (xs ++ [x]) → Calls Try.prog 13 #[.slice A1 n1 c1] W fun e w' => e = .returned (.int .i64 (rightH (xs ++ [x]))) ∧ Below W.heap.size W w' :=
      fun W A1 n1 c1 hW h => r32right_any A1 n1 c1 (xs ++ [x]) W h
    have hyl : (xs ++ [x]).length = xs.length + 1 := by simp
    have HYL := hide hyl
    have b1 : (x.st != 1) = false := by simpa using g1
    have b2 : (x.got != 0) = false := by simpa using g2
    have b3 : (x.unt != 0) = false := by simpa using g3
    have HS := hide hs
    clear hs hyl d0 d1 d2 d3 d4 d5 d9 d10 g1 g2 g3
    unfold hoV
    obtain ⟨post, hpost⟩ : ∃ p, p = ResH w (if rightH (xs ++ [x]) = 0 then (0, xs ++ [x]) else (rightH (xs ++ [x]), [])) := ⟨_, rfl⟩
    rw [← hpost]
    have HPOST := hide hpost
    clear hpost
    go_enter Try.func34, Try.ntmps34
    go_wp2
    go_loopw [6, 7] (fun v s7 wr => ∃ k : Nat, k ≤ xs.length ∧ s7 = .int .i64 k ∧ Hoo wr (w.heap.size + 1) v (xs.take k) ∧ Below (w.heap.size + 1) (w.alloc (.cells (hoC x) 47)) wr) (fun _ s7 _ => xs.length - (intOf s7).toNat)
    case atStart => exact ⟨0, Nat.zero_le _, rfl, World.ownsRow_nil _ _ _ _, Below.refl _ _⟩
    case round =>
      obtain ⟨k, hk, rfl, ho, hb⟩ := hrel
      have hbw : Below w.heap.size w wr := below_call (o := .cells (hoC x) 47) (by rw [World.size_alloc]; exact hb)
      have HO := hide ho
      have HB := hide hb
      clear HBW
      have HBW := hide hbw
      have hz : w.heap.size + 1 ≤ wr.heap.size := by have := hb.size; simpa using this
      clear d6 d7 d8
      obtain ⟨_, d0, d1, d2, d3, d4, d5, d6, d7, d8, d9, d10⟩ := ho_box HBX.out hb
      clear ho hb hbw
      have hlen : (xs.take k).length = k := by rw [List.length_take]; omega
      have HLEN := hide hlen
      have HSRC := hide (fun w' z g (h : Box w' g 47 (hoC z)) => ho_sl1 h)
      have hown2 : ∀ o, (wr.alloc o).ownsRow (w.heap.size + 1) 47 11 u6 (xs.take k).length ((xs.take k).flatMap hoE) := fun o => HO.out.alloc o
      have HO2 := hide hown2
      by_cases hlt : k < xs.length
      · obtain ⟨b, off, y, rfl, hbB, hy, c0, c1, c2, c3, c4, c5, c6, c7, c8, c9, c10⟩ := Hos_at (HS.out.below HBW.out) hlt
        have HST := hide (take_step hy)
        clear hy hown2 hlen d0 d1 d2 d3 d4 d5 d6 d7 d8 d9 d10
        go_wp2_with (at_builtin; go_must (refine wpList_append_sl _ rfl _ _ 22 rfl (w.heap.size + 1) 47 i0 _ 88 Try.underlying22 HI.out.1 HI.out.2.1 HI.out.2.2.1 HI.out.2.2.2 rfl (by decide) hoE_len hoE_one _ _ _ rfl (HO2.out _) _ 1 1 rfl (HSRC.out _ y _ (Box.new _ _ _)) (by rw [HLEN.out]; unfold maxLen; omega) (by rw [HLEN.out]; omega) (by simp; omega) ?_))
        intro v' w1 hown hg hat
        have H1 := hide hown
        have H2 := hide ((HB.out.alloc (by simpa using hz) _).grown hg (by simp; omega) (by intro q hq; exact (HO.out.lt q hq).1))
        clear hown hg hat
        go_wp2
        go_roundw
        case rel =>
          refine ⟨k + 1, by omega, by go_num, ?_, H2.out⟩
          unfold Hoo
          rw [HST.out, List.flatMap_append, List.length_append, HLEN.out]
          simpa using H1.out
        case measure => simp [intOf]; omega
      · have hkx : xs.take k = xs := List.take_of_length_le (by omega)
        rw [hkx] at hown2 hlen
        have HO3 := hide hown2
        have HOw := HO.out
        rw [hkx] at HOw
        have HO4 := hide HOw
        clear hown2 HO2 HLEN HO HOw hkx
        have hkl := hide hlen
        clear hlen
        go_wp2_with (at_builtin; go_must (refine wpList_append_sl _ rfl _ _ 22 rfl (w.heap.size + 1) 47 i0 _ 88 Try.underlying22 HI.out.1 HI.out.2.1 HI.out.2.2.1 HI.out.2.2.2 rfl (by decide) hoE_len hoE_one _ _ _ rfl (HO3.out _) _ 1 1 rfl (HSRC.out _ x _ (Box.new _ _ _)) (by unfold maxLen; omega) (by omega) (by simp; omega) ?_))
        intro v1 w5 hown hg hat
        have ho : Hoo w5 (w.heap.size + 1) v1 (xs ++ [x]) := by unfold Hoo; rw [HYL.out, List.flatMap_append]; exact hown
        have B5 := hide (below_call (o := .cells (hoC x) 47) (by rw [World.size_alloc]; exact (HB.out.alloc (by simpa using hz) _).grown hg (by simp; omega) (by intro q hq; exact (HO4.out.lt q hq).1)) : Below w.heap.size w w5)
        obtain ⟨A1, c1, hv, hsl⟩ := Hoo_sl ho (by rw [HYL.out]; omega)
        subst hv
        have HS6 := hide hsl
        have HR6 := hide (hR w5 A1 _ c1 B5.out hsl)
        generalize hm : (xs ++ [x]).length = m at HS6 HR6
        have HM := hide hm
        clear ho hsl hm hown hg hat hR d0 d1 d2 d3 d4 d5 d6 d7 d8 d9 d10 HO3 HO4
        by_cases hr0 : rightH (xs ++ [x]) = 0
        · have hp := HPOST.out
          rw [if_pos hr0] at hp
          rw [hr0] at HR6
          have HP := hide hp
          clear hp hr0
          go_wp2_with fail
          refine HR6.out.mono ?_
          rintro e w6 ⟨rfl, hb6⟩
          have HB6 := hide hb6
          clear hb6
          go_wp2
          rw [HP.out]
          exact ⟨_, _, _, rfl, (HS6.out.below HB6.out).more HB6.out.size, B5.out.trans (HB6.out.mono B5.out.size)⟩
        · have hp := HPOST.out
          rw [if_neg hr0] at hp
          have hrb : (rightH (xs ++ [x]) != 0) = true := by simpa using hr0
          clear hr0
          generalize rightH (xs ++ [x]) = r at HR6 hrb hp
          have HP := hide hp
          clear hp HPOST
          go_wp2_with fail
          refine HR6.out.mono ?_
          rintro e w6 ⟨rfl, hb6⟩
          have HB6 := hide hb6
          clear hb6
          go_wp2
          rw [HP.out]
          exact ResH.nil (B5.out.trans (HB6.out.mono B5.out.size))
  · rw [hpl_err hg]
    clear hs hn HI
    unfold hoV
    by_cases h1 : x.st = 1
    · have b1 : (x.st != 1) = false := by simpa using h1
      by_cases h2 : x.got = 0
      · have b2 : (x.got != 0) = false := by simpa using h2
        have b3 : (x.unt != 0) = true := by simp only [bne_iff_ne]; intro h; exact hg ⟨h1, h2, h⟩
        clear hg h1 h2
        go_enter Try.func34, Try.ntmps34
        go_wp2
        go_ret2
        exact ResH.nil HBW.out
      · have b2 : (x.got != 0) = true := by simpa using h2
        clear hg h1 h2
        go_enter Try.func34, Try.ntmps34
        go_wp2
        go_ret2
        exact ResH.nil HBW.out
    · have b1 : (x.st != 1) = true := by simpa using h1
      clear hg h1
      go_enter Try.func34, Try.ntmps34
      go_wp2
      go_ret2
      exact ResH.nil HBW.out
end Go.Proofs.Ytgjhjabnnhhkbaa
