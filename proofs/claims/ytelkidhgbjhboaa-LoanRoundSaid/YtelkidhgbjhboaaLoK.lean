/- Walks: Back of the reference. -/
import Derived.Test.YtelkidhgbjhboaaLoG
import Derived.Test.YtelkidhgbjhboaaStep
namespace Go.Proofs.Ytelkidhgbjhboaa
open Go.RowKit

set_option maxRecDepth 100000 in
set_option maxHeartbeats 2000000 in
theorem rback_any (A : Option Addr) (n c : Nat) (xs : List Lo) (item : Int) (w : World) (hs : Los w w.heap.size A n c xs) (hn : n ≤ 1000) :
    Calls Try.prog 30 #[.slice A n c, .int .i64 item] w (ResB w (backL xs item)) := by
  obtain ⟨i0, hi0, hz0, hz1, hz2⟩ := info_parts lo_info
  obtain rfl := hs.len
  have hle := hs.le
  have hp := fun o => lat_any A xs.length c xs item (w.alloc o) _ (hs.alloc (Nat.le_refl _) o)
  have hbig := hs.big
  have HS := hide hs
  have HI := hide (And.intro hi0 (And.intro hz0 (And.intro hz1 hz2)))
  have HX := hide (Box.new w 28 (loC lo0))
  unfold atL at hp
  rcases fst_cases (fun x => x.item == item) xs with ⟨h1, h2, _⟩ | ⟨i, x, h1, h2, h3, h4, _⟩
  · have e1 : backL xs item = (9, [], lo0) := by unfold backL atL; rw [if_pos h1]
    rw [e1]
    rw [h1] at hp
    have HP := hide hp
    clear hp h1 h2 e1 hs hi0 hz0 hz1 hz2
    go_enter Try.func30, Try.ntmps30
    go_wp2_with fail
    refine (HP.out _).mono ?_
    rintro e w1 ⟨rfl, rfl⟩
    go_wp2
    refine bodyPost_ret (v := .tuple #[.slice none 0 0, loV lo0, .int .i64 9]) ?_ ?_ ?_
    · simp [results, Try.results30, go_sem, loV, lo0]
    · rfl
    · exact ResB.of (r := (9, [], lo0)) Sl.none_ ((Below.refl _ _).alloc (Nat.le_refl _) _)
  · have hi : i < xs.length := (List.getElem?_eq_some_iff.1 h2).1
    have hne : ¬ (atL xs item = -1) := by unfold atL; rw [h1]; omega
    have hat : (atL xs item).toNat = i := by unfold atL; rw [h1]; rfl
    have e1 : backL xs item = (0, xs.take i ++ xs.drop (i + 1), x) := by unfold backL; rw [if_neg hne, hat, h4]
    rw [e1]
    rw [h1] at hp
    obtain ⟨b, off, y, rfl, hbB, hy, c0, c1, c2, c3, c4, c5⟩ := Los_at hs hi
    obtain rfl : x = y := by rw [hy] at h2; exact (Option.some.inj h2).symm
    have HP := hide hp
    have HXY := hide hy
    clear hp h1 h2 h4 e1 hne hat hi0 hz0 hz1 hz2 hy hs
    obtain ⟨x0, x1, x2, x3, x4, x5⟩ := x
    simp only at c0 c1 c2 c3 c4 c5
    have hw1 : IntKind.i64.wrap ((i : Int) + 1) = (i : Int) + 1 := by rw [IntKind.wrap_i64]; omega
    have hb1 : (0 : Int) ≤ (i : Int) + 1 := by omega
    have htn : ((i : Int) + 1).toNat = i + 1 := by omega
    have hb5 : i ≤ c := by omega
    have hb6 : i + 1 ≤ c := by omega
    have hb7 : (i : Int) ≤ (c : Int) := by omega
    have hb8 : (i : Int) + 1 ≤ (xs.length : Int) := by omega
    have HT := hide (fun W (hW : Below w.heap.size w W) => (HS.out.below hW).take (m := i) (by omega))
    have HD := hide (fun W (hW : Below w.heap.size w W) => (HS.out.below hW).drop (i := i + 1) (by omega) (by omega))
    have B0 := hide ((Below.refl w.heap.size w).alloc (Nat.le_refl _) (.cells #[.int .i64 0, .int .i64 0, .int .i64 0, .int .i64 0, .int .i64 0, .bool false] 28))
    have B0e := hide (B0.out.alloc (by simp) (.cells #[] 28))
    have C0e := hide ((Below.refl (w.heap.size + 1) (w.alloc (.cells #[.int .i64 0, .int .i64 0, .int .i64 0, .int .i64 0, .int .i64 0, .bool false] 28))).alloc (by simp) (.cells #[] 28))
    have B0e := hide (B0.out.alloc (by simp) (.cells #[] 28))
    have C0e := hide ((Below.refl (w.heap.size + 1) (w.alloc (.cells #[.int .i64 0, .int .i64 0, .int .i64 0, .int .i64 0, .int .i64 0, .bool false] 28))).alloc (by simp) (.cells #[] 28))
    have B0e := hide (B0.out.alloc (by simp) (.cells #[] 28))
    have C0e := hide ((Below.refl (w.heap.size + 1) (w.alloc (.cells #[.int .i64 0, .int .i64 0, .int .i64 0, .int .i64 0, .int .i64 0, .bool false] 28))).alloc (by simp) (.cells #[] 28))
    have B0e := hide (B0.out.alloc (by simp) (.cells #[] 28))
    have C0e := hide ((Below.refl (w.heap.size + 1) (w.alloc (.cells #[.int .i64 0, .int .i64 0, .int .i64 0, .int .i64 0, .int .i64 0, .bool false] 28))).alloc (by simp) (.cells #[] 28))
    have B0e := hide (B0.out.alloc (by simp) (.cells #[] 28))
    have C0e := hide ((Below.refl (w.heap.size + 1) (w.alloc (.cells #[.int .i64 0, .int .i64 0, .int .i64 0, .int .i64 0, .int .i64 0, .bool false] 28))).alloc (by simp) (.cells #[] 28))
    have B0e := hide (B0.out.alloc (by simp) (.cells #[] 28))
    have C0e := hide ((Below.refl (w.heap.size + 1) (w.alloc (.cells #[.int .i64 0, .int .i64 0, .int .i64 0, .int .i64 0, .int .i64 0, .bool false] 28))).alloc (by simp) (.cells #[] 28))
    have B0e := hide (B0.out.alloc (by simp) (.cells #[] 28))
    have C0e := hide ((Below.refl (w.heap.size + 1) (w.alloc (.cells #[.int .i64 0, .int .i64 0, .int .i64 0, .int .i64 0, .int .i64 0, .bool false] 28))).alloc (by simp) (.cells #[] 28))
    by_cases hcj : c = i + 1
    · have HD1 := hide (fun W hW => (HD.out W hW).1 hcj)
      clear HD
      subst hcj
      have hb9 : (i : Int) ≤ (i : Int) + 1 := by omega
      go_enter Try.func30, Try.ntmps30
      go_wp2_with fail
      refine (HP.out _).mono ?_
      rintro e w1 ⟨rfl, rfl⟩
      go_wp2_with fail
      go_region_law (first
        | (refine step_append_sl rfl (.tmp 14) (.tmp 17) 22 rfl (w.heap.size + 1) 28 i0 _ 48 Try.underlying22 HI.out.1 HI.out.2.1 HI.out.2.2.1 HI.out.2.2.2 rfl (by decide) loE_len loE_one _ 0 [] (by simp [Act.eval, Act.put]) (World.ownsRow_made _ #[] 0 (by simp) (Nat.zero_le _) rfl) _ _ _ (by first | (simp [Act.eval, Act.put]; done) | (simp [Act.eval, Act.put]; omega)) (HT.out _ B0e.out.drew) (by unfold maxLen; omega) (by omega) (by first | (simp; done) | (simp; omega) | omega) ?_; intro v1 w2 hown1 hg1 hat1; have B1 := hide ((B0e.out.drew).grown hg1 (by simp; omega) (by intro q hq; simp [Value.ownBlock] at hq; omega)); have C1 := hide ((C0e.out.drew).grown hg1 (by simp) (by intro q hq; simp [Value.ownBlock] at hq; omega)); have hz2 := C1.out.size; simp only [World.size_alloc] at hz2; have HO1 := hide hown1; have HG1 := hide (And.intro hg1 hat1); clear hown1 hg1 hat1; have k0 := ((B1).out.cell (p := ⟨b, off + i * 6, none⟩) hbB).trans c0; have k1 := ((B1).out.cell (p := ⟨b, off + i * 6 + 1, none⟩) hbB).trans c1; have k2 := ((B1).out.cell (p := ⟨b, off + i * 6 + 2, none⟩) hbB).trans c2; have k3 := ((B1).out.cell (p := ⟨b, off + i * 6 + 3, none⟩) hbB).trans c3; have k4 := ((B1).out.cell (p := ⟨b, off + i * 6 + 4, none⟩) hbB).trans c4; have k5 := ((B1).out.cell (p := ⟨b, off + i * 6 + 5, none⟩) hbB).trans c5; have rb := HX.out.below (C1).out (by omega); have r0 := rb.cell 0; have r1 := rb.cell 1; have r2 := rb.cell 2; have r3 := rb.cell 3; have r4 := rb.cell 4; have r5 := rb.cell 5; have rz := fun j => rb.frz j; clear rb; simp [lo0] at r0 r1 r2 r3 r4 r5)
        | (refine step_append_sl rfl (.tmp 18) (.tmp 22) 22 rfl (w.heap.size + 1) 28 i0 _ 48 Try.underlying22 HI.out.1 HI.out.2.1 HI.out.2.2.1 HI.out.2.2.2 rfl (by decide) loE_len loE_one _ _ _ (by simp [Act.eval, Act.put]) HO1.out _ _ _ (by first | (simp [Act.eval, Act.put]; done) | (simp [Act.eval, Act.put]; omega)) (HD1.out _ B1.out) (by unfold maxLen; omega) (by omega) (by first | (simp; done) | (simp; omega) | omega) ?_; intro v2 w3 hown2 hg2 hat2; have B2 := hide (B1.out.grown hg2 (by omega) (by intro q hq; have := (HO1.out.lt q hq).1; omega)); have C2 := hide (C1.out.grown hg2 (by omega) (by intro q hq; exact (HO1.out.lt q hq).1)); have HO2 := hide hown2; clear hown2 hg2 hat2; have l0 := ((B2).out.cell (p := ⟨b, off + i * 6, none⟩) hbB).trans c0; have l1 := ((B2).out.cell (p := ⟨b, off + i * 6 + 1, none⟩) hbB).trans c1; have l2 := ((B2).out.cell (p := ⟨b, off + i * 6 + 2, none⟩) hbB).trans c2; have l3 := ((B2).out.cell (p := ⟨b, off + i * 6 + 3, none⟩) hbB).trans c3; have l4 := ((B2).out.cell (p := ⟨b, off + i * 6 + 4, none⟩) hbB).trans c4; have l5 := ((B2).out.cell (p := ⟨b, off + i * 6 + 5, none⟩) hbB).trans c5; have sb := HX.out.below (C2).out (by omega); have s0 := sb.cell 0; have s1 := sb.cell 1; have s2 := sb.cell 2; have s3 := sb.cell 3; have s4 := sb.cell 4; have s5 := sb.cell 5; have sz := fun j => sb.frz j; clear sb; simp [lo0] at s0 s1 s2 s3 s4 s5))
      all_goals
        have hl : (xs.take i ++ xs.drop (i + 1)).length = i + (xs.length - (i + 1)) := by simp; omega
        have ho : Loo w3 (w.heap.size + 1) v2 (xs.take i ++ xs.drop (i + 1)) := by
          unfold Loo; rw [hl, List.flatMap_append]; simpa using HO2.out
        have ho := own_far ho (p := ⟨w.heap.size, 0, none⟩) (by simp) (.int .i64 x0)
        have ho := own_far ho (p := ⟨w.heap.size, 1, none⟩) (by simp) (.int .i64 x1)
        have ho := own_far ho (p := ⟨w.heap.size, 2, none⟩) (by simp) (.int .i64 x2)
        have ho := own_far ho (p := ⟨w.heap.size, 3, none⟩) (by simp) (.int .i64 x3)
        have ho := own_far ho (p := ⟨w.heap.size, 4, none⟩) (by simp) (.int .i64 x4)
        have ho := own_far ho (p := ⟨w.heap.size, 5, none⟩) (by simp) (.bool x5)
        obtain ⟨A1, q1, hv, hsl⟩ := Loo_sl ho (by rw [hl]; omega)
        subst hv
        have HS2 := hide hsl
        have HB3 := hide (below_lo B2.out (Nat.le_refl _) (.int .i64 x0) (.int .i64 x1) (.int .i64 x2) (.int .i64 x3) (.int .i64 x4) (.bool x5))
        have HL := hide hl
        generalize hys : xs.take i ++ xs.drop (i + 1) = ys at HS2 HL ⊢
        generalize ys.length = m at HS2
        have HYS := hide hys
        clear hsl ho HO2 hys hl
        go_wp2
        refine bodyPost_ret (v := .tuple #[.slice A1 m q1, loV ⟨x0, x1, x2, x3, x4, x5⟩, .int .i64 0]) ?_ ?_ ?_
        · simp [results, Try.results30, go_sem, s0, s1, s2, s3, s4, s5, loV]
        · rfl
        · first | (rw [HYS.out]; exact ResB.of (r := (0, ys, ⟨x0, x1, x2, x3, x4, x5⟩)) HS2.out HB3.out) | exact ResB.of (r := (0, ys, ⟨x0, x1, x2, x3, x4, x5⟩)) HS2.out HB3.out
    · have HD1 := hide (fun W hW => (HD.out W hW).2 hcj)
      clear HD
      go_enter Try.func30, Try.ntmps30
      go_wp2_with fail
      refine (HP.out _).mono ?_
      rintro e w1 ⟨rfl, rfl⟩
      go_wp2_with fail
      go_region_law (first
        | (refine step_append_sl rfl (.tmp 14) (.tmp 17) 22 rfl (w.heap.size + 1) 28 i0 _ 48 Try.underlying22 HI.out.1 HI.out.2.1 HI.out.2.2.1 HI.out.2.2.2 rfl (by decide) loE_len loE_one _ 0 [] (by simp [Act.eval, Act.put]) (World.ownsRow_made _ #[] 0 (by simp) (Nat.zero_le _) rfl) _ _ _ (by first | (simp [Act.eval, Act.put]; done) | (simp [Act.eval, Act.put]; omega)) (HT.out _ B0e.out.drew) (by unfold maxLen; omega) (by omega) (by first | (simp; done) | (simp; omega) | omega) ?_; intro v1 w2 hown1 hg1 hat1; have B1 := hide ((B0e.out.drew).grown hg1 (by simp; omega) (by intro q hq; simp [Value.ownBlock] at hq; omega)); have C1 := hide ((C0e.out.drew).grown hg1 (by simp) (by intro q hq; simp [Value.ownBlock] at hq; omega)); have hz2 := C1.out.size; simp only [World.size_alloc] at hz2; have HO1 := hide hown1; have HG1 := hide (And.intro hg1 hat1); clear hown1 hg1 hat1; have k0 := ((B1).out.cell (p := ⟨b, off + i * 6, none⟩) hbB).trans c0; have k1 := ((B1).out.cell (p := ⟨b, off + i * 6 + 1, none⟩) hbB).trans c1; have k2 := ((B1).out.cell (p := ⟨b, off + i * 6 + 2, none⟩) hbB).trans c2; have k3 := ((B1).out.cell (p := ⟨b, off + i * 6 + 3, none⟩) hbB).trans c3; have k4 := ((B1).out.cell (p := ⟨b, off + i * 6 + 4, none⟩) hbB).trans c4; have k5 := ((B1).out.cell (p := ⟨b, off + i * 6 + 5, none⟩) hbB).trans c5; have rb := HX.out.below (C1).out (by omega); have r0 := rb.cell 0; have r1 := rb.cell 1; have r2 := rb.cell 2; have r3 := rb.cell 3; have r4 := rb.cell 4; have r5 := rb.cell 5; have rz := fun j => rb.frz j; clear rb; simp [lo0] at r0 r1 r2 r3 r4 r5)
        | (refine step_append_sl rfl (.tmp 18) (.tmp 22) 22 rfl (w.heap.size + 1) 28 i0 _ 48 Try.underlying22 HI.out.1 HI.out.2.1 HI.out.2.2.1 HI.out.2.2.2 rfl (by decide) loE_len loE_one _ _ _ (by simp [Act.eval, Act.put]) HO1.out _ _ _ (by first | (simp [Act.eval, Act.put]; done) | (simp [Act.eval, Act.put]; omega)) (HD1.out _ B1.out) (by unfold maxLen; omega) (by omega) (by first | (simp; done) | (simp; omega) | omega) ?_; intro v2 w3 hown2 hg2 hat2; have B2 := hide (B1.out.grown hg2 (by omega) (by intro q hq; have := (HO1.out.lt q hq).1; omega)); have C2 := hide (C1.out.grown hg2 (by omega) (by intro q hq; exact (HO1.out.lt q hq).1)); have HO2 := hide hown2; clear hown2 hg2 hat2; have l0 := ((B2).out.cell (p := ⟨b, off + i * 6, none⟩) hbB).trans c0; have l1 := ((B2).out.cell (p := ⟨b, off + i * 6 + 1, none⟩) hbB).trans c1; have l2 := ((B2).out.cell (p := ⟨b, off + i * 6 + 2, none⟩) hbB).trans c2; have l3 := ((B2).out.cell (p := ⟨b, off + i * 6 + 3, none⟩) hbB).trans c3; have l4 := ((B2).out.cell (p := ⟨b, off + i * 6 + 4, none⟩) hbB).trans c4; have l5 := ((B2).out.cell (p := ⟨b, off + i * 6 + 5, none⟩) hbB).trans c5; have sb := HX.out.below (C2).out (by omega); have s0 := sb.cell 0; have s1 := sb.cell 1; have s2 := sb.cell 2; have s3 := sb.cell 3; have s4 := sb.cell 4; have s5 := sb.cell 5; have sz := fun j => sb.frz j; clear sb; simp [lo0] at s0 s1 s2 s3 s4 s5))
      all_goals
        have hl : (xs.take i ++ xs.drop (i + 1)).length = i + (xs.length - (i + 1)) := by simp; omega
        have ho : Loo w3 (w.heap.size + 1) v2 (xs.take i ++ xs.drop (i + 1)) := by
          unfold Loo; rw [hl, List.flatMap_append]; simpa using HO2.out
        have ho := own_far ho (p := ⟨w.heap.size, 0, none⟩) (by simp) (.int .i64 x0)
        have ho := own_far ho (p := ⟨w.heap.size, 1, none⟩) (by simp) (.int .i64 x1)
        have ho := own_far ho (p := ⟨w.heap.size, 2, none⟩) (by simp) (.int .i64 x2)
        have ho := own_far ho (p := ⟨w.heap.size, 3, none⟩) (by simp) (.int .i64 x3)
        have ho := own_far ho (p := ⟨w.heap.size, 4, none⟩) (by simp) (.int .i64 x4)
        have ho := own_far ho (p := ⟨w.heap.size, 5, none⟩) (by simp) (.bool x5)
        obtain ⟨A1, q1, hv, hsl⟩ := Loo_sl ho (by rw [hl]; omega)
        subst hv
        have HS2 := hide hsl
        have HB3 := hide (below_lo B2.out (Nat.le_refl _) (.int .i64 x0) (.int .i64 x1) (.int .i64 x2) (.int .i64 x3) (.int .i64 x4) (.bool x5))
        have HL := hide hl
        generalize hys : xs.take i ++ xs.drop (i + 1) = ys at HS2 HL ⊢
        generalize ys.length = m at HS2
        have HYS := hide hys
        clear hsl ho HO2 hys hl
        go_wp2
        refine bodyPost_ret (v := .tuple #[.slice A1 m q1, loV ⟨x0, x1, x2, x3, x4, x5⟩, .int .i64 0]) ?_ ?_ ?_
        · simp [results, Try.results30, go_sem, s0, s1, s2, s3, s4, s5, loV]
        · rfl
        · first | (rw [HYS.out]; exact ResB.of (r := (0, ys, ⟨x0, x1, x2, x3, x4, x5⟩)) HS2.out HB3.out) | exact ResB.of (r := (0, ys, ⟨x0, x1, x2, x3, x4, x5⟩)) HS2.out HB3.out
end Go.Proofs.Ytelkidhgbjhboaa
