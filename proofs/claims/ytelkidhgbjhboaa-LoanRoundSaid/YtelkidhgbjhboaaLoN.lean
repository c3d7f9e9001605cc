/- Walks: Out of the reference. Printed by gen_lo_n.py. -/
import Derived.Test.YtelkidhgbjhboaaLoH
import Derived.Test.YtelkidhgbjhboaaStep
namespace Go.Proofs.Ytelkidhgbjhboaa
open Go.RowKit

set_option maxRecDepth 100000 in
set_option maxHeartbeats 2000000 in
theorem rout_any (A : Option Addr) (n c : Nat) (xs : List Lo) (y : Lo) (w : World) (hs : Los w w.heap.size A n c xs) (hn : n ≤ 1000) :
    Calls Try.prog 16 #[.slice A n c, loV y] w (ResL w (outL xs y)) := by
  obtain ⟨i0, hi0, hz0, hz1, hz2⟩ := info_parts lo_info
  obtain rfl := hs.len
  have hle := hs.le
  have hbig := hs.big
  have hnl := hs.nl
  have hp := fun o => lat_any A xs.length c xs y.item (w.alloc o) _ (hs.alloc (Nat.le_refl _) o)
  have hsl : ∀ W, Below w.heap.size w W → Los W w.heap.size A xs.length c xs := fun W hW => hs.below hW
  have HSL := hide hsl
  have HI := hide (And.intro hi0 (And.intro hz0 (And.intro hz1 hz2)))
  have HX := hide (Box.new w 28 (loC y))
  have B0 := hide ((Below.refl w.heap.size w).alloc (Nat.le_refl _) (.cells (loC y) 28))
  have C0 := hide (Below.refl (w.heap.size + 1) (w.alloc (.cells (loC y) 28)))
  unfold atL at hp
  obtain ⟨y', hy'⟩ : ∃ y', y' = y := ⟨_, rfl⟩
  have HY' := hide hy'
  rcases fst_cases (fun x => x.item == y.item) xs with ⟨h1, h2, h3⟩ | ⟨i, x, h1, h2, h3, h4, _⟩
  · have e1 : outL xs y = chd (xs.take (plcL xs y') ++ y' :: xs.drop (plcL xs y')) := by rw [hy']; unfold outL atL; rw [h1, if_neg (by omega)]
    rw [e1]
    rw [h1] at hp
    have HP := hide hp
    have HNE := hide h3
    have hplc : ∀ k, (∀ z ∈ xs.take k, decide (y.item < z.item) = false) → (k = xs.length ∨ ∃ x, xs[k]? = some x ∧ ¬ x.item < y.item) → plcL xs y' = k := by
      intro k h5 h6
      rw [hy']
      rcases h6 with rfl | ⟨x, hx, hlt⟩
      · exact plc_none (by rwa [List.take_length] at h5)
      · have := h3 x (List.mem_of_getElem? hx)
        simp at this
        exact plc_some hx (by simp; omega) h5
    have HPLC := hide hplc
    clear hp h1 h2 h3 e1 hs hsl hi0 hz0 hz1 hz2 hplc hy'
    obtain ⟨y0, y1, y2, y3, y4, y5⟩ := y
    unfold loV
    simp only at HP ⊢
    go_enter Try.func16, Try.ntmps16
    go_wp2_with fail
    refine (HP.out _).mono ?_
    rintro e w1 ⟨rfl, rfl⟩
    go_wp2
    go_loopw [6] (fun s6 wr => ∃ k : Nat, k ≤ xs.length ∧ s6 = .int .i64 k ∧ Below w.heap.size w wr ∧ Below (w.heap.size + 1) (w.alloc (.cells (loC ⟨y0, y1, y2, y3, y4, y5⟩) 28)) wr ∧ ∀ z ∈ xs.take k, decide (y0 < z.item) = false) (fun s6 _ => xs.length - (intOf s6).toNat)
    case atStart => exact ⟨0, Nat.zero_le _, rfl, B0.out, C0.out, by simp⟩
    case round =>
      obtain ⟨k, hk, rfl, hb, hc, ha⟩ := hrel
      have BW := hide hb
      have CW := hide hc
      have HA := hide ha
      obtain ⟨_, q0, _⟩ := lo_box HX.out hc
      simp only at q0
      clear hb hc ha B0 C0
      by_cases hlt : k < xs.length
      · obtain ⟨b, off, x, rfl, hbB, hx, c0, c1, c2, c3, c4, c5⟩ := Los_at (HSL.out _ BW.out) hlt
        have HXX := hide hx
        have hkk : (k : Int) < (xs.length : Int) := by omega
        clear c1 c2 c3 c4 c5 hx
        by_cases hxy : x.item < y0
        · have hd : decide (x.item < y0) = true := by simpa using hxy
          go_wp2
          go_quiet (fail)
          go_wp2
          go_roundw
          case rel =>
            refine ⟨k + 1, by omega, by go_num, below_drewN BW.out _, below_drewN CW.out _, ?_⟩
            intro z hz
            rw [take_step HXX.out] at hz
            rcases List.mem_append.1 hz with hz | hz
            · exact HA.out z hz
            · simp at hz; subst hz; simp; omega
          case measure => simp [intOf]; omega
        · have hd : decide (x.item < y0) = false := by simpa using hxy
          have hpl := HPLC.out k HA.out (.inr ⟨x, HXX.out, by omega⟩)
          have hkc : ¬ (c = k) := by omega
          have hb5 : k ≤ c := by omega
          have hb7 : (k : Int) ≤ (c : Int) := by omega
          have hb8 : (k : Int) ≤ (xs.length : Int) := by omega
          go_wp2
          go_quiet (fail)
          obtain ⟨wr', hwr⟩ : ∃ wr', wr' = wr.drewN nq := ⟨_, rfl⟩
          have BL := hide (below_drewN BW.out nq)
          have CL := hide (below_drewN CW.out nq)
          rw [← hwr] at BL CL ⊢
          clear hwr BW CW q0 c0
          have hz := BL.out.size
          have hz1 := CL.out.size
          simp only [World.size_alloc] at hz1
          have HPL := hide hpl
          have HTK := hide ((HSL.out _ BL.out).take (m := k) (by omega))
          have BLe := hide (BL.out.alloc hz (.cells #[] 28))
          have CLe := hide (CL.out.alloc hz1 (.cells #[] 28))
          have HTKe := hide (HTK.out.alloc hz (.cells #[] 28))
          have HMD := hide (World.ownsRow_made (base := w.heap.size) (e := 28) (size := 6) wr' #[] 0 hz (Nat.zero_le _) rfl)
          clear hpl
          go_wp2_with (at_builtin; go_must (refine wpList_append_sl _ rfl _ _ 22 rfl w.heap.size 28 i0 _ 48 Try.underlying22 HI.out.1 HI.out.2.1 HI.out.2.2.1 HI.out.2.2.2 rfl (by decide) loE_len loE_one _ 0 [] rfl HMD.out _ _ _ rfl HTKe.out (by unfold maxLen; omega) (by omega) (by first | omega | (simp; omega)) ?_))
          intro v1 w1 hown hg hat
          have B1 := hide (BLe.out.grown hg (by simp; omega) (by intro q hq; simp [Value.ownBlock] at hq; omega))
          have C1 := hide (CLe.out.grown hg (by simp; omega) (by intro q hq; simp [Value.ownBlock] at hq; omega))
          have hz2 := B1.out.size
          have hz3 := C1.out.size
          simp only [World.size_alloc] at hz3
          have HO1 := hide hown
          obtain ⟨_, r0, r1, r2, r3, r4, r5⟩ := lo_box HX.out C1.out
          simp only at r0 r1 r2 r3 r4 r5
          have HOa := hide (HO1.out.alloc (.cells (loC ⟨y0, y1, y2, y3, y4, y5⟩) 28))
          have HSa := hide (lo_sl1 (Box.new w1 28 (loC ⟨y0, y1, y2, y3, y4, y5⟩)))
          have B1a := hide (B1.out.alloc hz2 (.cells (loC ⟨y0, y1, y2, y3, y4, y5⟩) 28))
          clear hown hg hat HMD HTK HTKe BLe CLe
          go_wp2_with (at_builtin; go_must (refine wpList_append_sl _ rfl _ _ 22 rfl w.heap.size 28 i0 _ 48 Try.underlying22 HI.out.1 HI.out.2.1 HI.out.2.2.1 HI.out.2.2.2 rfl (by decide) loE_len loE_one _ _ _ rfl HOa.out _ 1 1 rfl HSa.out (by unfold maxLen; omega) (by omega) (by first | omega | (simp; omega)) ?_))
          intro v2 w2 hown hg hat
          have B2 := hide (B1a.out.grown hg (by simp; omega) (by intro q hq; exact (HO1.out.lt q hq).1))
          have hz4 := B2.out.size
          have HO2 := hide hown
          clear hown hg hat r0 r1 r2 r3 r4 r5 HOa HSa B1a
          have HD := hide (((HSL.out _ B2.out).drop (i := k) (by omega) (by omega)).2 hkc)
          go_wp2_with (at_builtin; go_must (refine wpList_append_sl _ rfl _ _ 22 rfl w.heap.size 28 i0 _ 48 Try.underlying22 HI.out.1 HI.out.2.1 HI.out.2.2.1 HI.out.2.2.2 rfl (by decide) loE_len loE_one _ _ _ rfl HO2.out _ _ _ rfl HD.out (by unfold maxLen; omega) (by omega) (by first | omega | (simp; omega)) ?_))
          intro v3 w3 hown hg hat
          have B3 := hide (B2.out.grown hg hz4 (by intro q hq; exact (HO2.out.lt q hq).1))
          have hl : (xs.take k ++ y' :: xs.drop k).length = k + 1 + (xs.length - k) := by simp <;> omega
          have ho : Loo w3 w.heap.size v3 (xs.take k ++ y' :: xs.drop k) := by
            unfold Loo; rw [hl]
            have := hown
            simpa [List.flatMap_append, List.flatMap_cons, List.append_assoc, HY'.out] using this
          obtain ⟨A1, q1, hv, hsl⟩ := Loo_sl ho (by rw [hl]; omega)
          subst hv
          have HC := hide (rchecked_any _ _ _ _ _ hsl)
          generalize hys : xs.take k ++ y' :: xs.drop k = ys at HC hl
          have HYS := hide hys
          generalize ys.length = m at HC
          clear hown hg hat ho hsl hl hys
          go_wp2_with fail
          refine HC.out.mono ?_
          rintro e w4 ⟨A2, n2, c2, rfl, hsl2, hb⟩
          go_wp2
          go_ret2
          rw [HPL.out, HYS.out]
          exact ⟨A2, n2, c2, rfl, hsl2, B3.out.trans (hb.mono B3.out.size)⟩
      · skip
        obtain rfl : k = xs.length := by omega
        have hpl := HPLC.out xs.length HA.out (.inl rfl)
        go_wp2
        go_quiet (fail)
        obtain ⟨wr', hwr⟩ : ∃ wr', wr' = wr.drewN nq := ⟨_, rfl⟩
        have BL := hide (below_drewN BW.out nq)
        have CL := hide (below_drewN CW.out nq)
        rw [← hwr] at BL CL ⊢
        clear hwr BW CW q0
        have hz := BL.out.size
        have hz1 := CL.out.size
        simp only [World.size_alloc] at hz1
        by_cases hx0 : 0 < xs.length
        · obtain ⟨b, off, _, rfl, _, _, _⟩ := (HSL.out _ BL.out).at_ hx0
          have hb7 : (xs.length : Int) ≤ (c : Int) := by omega
          by_cases hkc : c = xs.length
          · subst hkc
            have HPL := hide hpl
            have HTK := hide ((HSL.out _ BL.out).take (m := xs.length) (by omega))
            have BLe := hide (BL.out.alloc hz (.cells #[] 28))
            have CLe := hide (CL.out.alloc hz1 (.cells #[] 28))
            have HTKe := hide (HTK.out.alloc hz (.cells #[] 28))
            have HMD := hide (World.ownsRow_made (base := w.heap.size) (e := 28) (size := 6) wr' #[] 0 hz (Nat.zero_le _) rfl)
            clear hpl
            go_wp2_with (at_builtin; go_must (refine wpList_append_sl _ rfl _ _ 22 rfl w.heap.size 28 i0 _ 48 Try.underlying22 HI.out.1 HI.out.2.1 HI.out.2.2.1 HI.out.2.2.2 rfl (by decide) loE_len loE_one _ 0 [] rfl HMD.out _ _ _ rfl HTKe.out (by unfold maxLen; omega) (by omega) (by first | omega | (simp; omega)) ?_))
            intro v1 w1 hown hg hat
            have B1 := hide (BLe.out.grown hg (by simp; omega) (by intro q hq; simp [Value.ownBlock] at hq; omega))
            have C1 := hide (CLe.out.grown hg (by simp; omega) (by intro q hq; simp [Value.ownBlock] at hq; omega))
            have hz2 := B1.out.size
            have hz3 := C1.out.size
            simp only [World.size_alloc] at hz3
            have HO1 := hide hown
            obtain ⟨_, r0, r1, r2, r3, r4, r5⟩ := lo_box HX.out C1.out
            simp only at r0 r1 r2 r3 r4 r5
            have HOa := hide (HO1.out.alloc (.cells (loC ⟨y0, y1, y2, y3, y4, y5⟩) 28))
            have HSa := hide (lo_sl1 (Box.new w1 28 (loC ⟨y0, y1, y2, y3, y4, y5⟩)))
            have B1a := hide (B1.out.alloc hz2 (.cells (loC ⟨y0, y1, y2, y3, y4, y5⟩) 28))
            clear hown hg hat HMD HTK HTKe BLe CLe
            go_wp2_with (at_builtin; go_must (refine wpList_append_sl _ rfl _ _ 22 rfl w.heap.size 28 i0 _ 48 Try.underlying22 HI.out.1 HI.out.2.1 HI.out.2.2.1 HI.out.2.2.2 rfl (by decide) loE_len loE_one _ _ _ rfl HOa.out _ 1 1 rfl HSa.out (by unfold maxLen; omega) (by omega) (by first | omega | (simp; omega)) ?_))
            intro v2 w2 hown hg hat
            have B2 := hide (B1a.out.grown hg (by simp; omega) (by intro q hq; exact (HO1.out.lt q hq).1))
            have hz4 := B2.out.size
            have HO2 := hide hown
            clear hown hg hat r0 r1 r2 r3 r4 r5 HOa HSa B1a
            go_wp2_with (at_builtin; go_must (refine wpList_append_sl _ rfl _ _ 22 rfl w.heap.size 28 i0 _ 48 Try.underlying22 HI.out.1 HI.out.2.1 HI.out.2.2.1 HI.out.2.2.2 rfl (by decide) loE_len loE_one _ _ _ rfl HO2.out _ _ _ rfl (Sl.empty _ w.heap.size _ _ (by first | (intro e; cases e; done) | (intro _; rfl))) (by unfold maxLen; omega) (by omega) (by first | omega | (simp; omega)) ?_))
            intro v3 w3 hown hg hat
            have B3 := hide (B2.out.grown hg hz4 (by intro q hq; exact (HO2.out.lt q hq).1))
            have hl : (xs.take xs.length ++ y' :: xs.drop xs.length).length = xs.length + 1 + (xs.length - xs.length) := by simp <;> omega
            have ho : Loo w3 w.heap.size v3 (xs.take xs.length ++ y' :: xs.drop xs.length) := by
              unfold Loo; rw [hl]
              have := hown
              simpa [List.flatMap_append, List.flatMap_cons, List.append_assoc, HY'.out] using this
            obtain ⟨A1, q1, hv, hsl⟩ := Loo_sl ho (by rw [hl]; omega)
            subst hv
            have HC := hide (rchecked_any _ _ _ _ _ hsl)
            generalize hys : xs.take xs.length ++ y' :: xs.drop xs.length = ys at HC hl
            have HYS := hide hys
            generalize ys.length = m at HC
            clear hown hg hat ho hsl hl hys
            go_wp2_with fail
            refine HC.out.mono ?_
            rintro e w4 ⟨A2, n2, c2, rfl, hsl2, hb⟩
            go_wp2
            go_ret2
            rw [HPL.out, HYS.out]
            exact ⟨A2, n2, c2, rfl, hsl2, B3.out.trans (hb.mono B3.out.size)⟩
          · skip
            have HPL := hide hpl
            have HTK := hide ((HSL.out _ BL.out).take (m := xs.length) (by omega))
            have BLe := hide (BL.out.alloc hz (.cells #[] 28))
            have CLe := hide (CL.out.alloc hz1 (.cells #[] 28))
            have HTKe := hide (HTK.out.alloc hz (.cells #[] 28))
            have HMD := hide (World.ownsRow_made (base := w.heap.size) (e := 28) (size := 6) wr' #[] 0 hz (Nat.zero_le _) rfl)
            clear hpl
            go_wp2_with (at_builtin; go_must (refine wpList_append_sl _ rfl _ _ 22 rfl w.heap.size 28 i0 _ 48 Try.underlying22 HI.out.1 HI.out.2.1 HI.out.2.2.1 HI.out.2.2.2 rfl (by decide) loE_len loE_one _ 0 [] rfl HMD.out _ _ _ rfl HTKe.out (by unfold maxLen; omega) (by omega) (by first | omega | (simp; omega)) ?_))
            intro v1 w1 hown hg hat
            have B1 := hide (BLe.out.grown hg (by simp; omega) (by intro q hq; simp [Value.ownBlock] at hq; omega))
            have C1 := hide (CLe.out.grown hg (by simp; omega) (by intro q hq; simp [Value.ownBlock] at hq; omega))
            have hz2 := B1.out.size
            have hz3 := C1.out.size
            simp only [World.size_alloc] at hz3
            have HO1 := hide hown
            obtain ⟨_, r0, r1, r2, r3, r4, r5⟩ := lo_box HX.out C1.out
            simp only at r0 r1 r2 r3 r4 r5
            have HOa := hide (HO1.out.alloc (.cells (loC ⟨y0, y1, y2, y3, y4, y5⟩) 28))
            have HSa := hide (lo_sl1 (Box.new w1 28 (loC ⟨y0, y1, y2, y3, y4, y5⟩)))
            have B1a := hide (B1.out.alloc hz2 (.cells (loC ⟨y0, y1, y2, y3, y4, y5⟩) 28))
            clear hown hg hat HMD HTK HTKe BLe CLe
            go_wp2_with (at_builtin; go_must (refine wpList_append_sl _ rfl _ _ 22 rfl w.heap.size 28 i0 _ 48 Try.underlying22 HI.out.1 HI.out.2.1 HI.out.2.2.1 HI.out.2.2.2 rfl (by decide) loE_len loE_one _ _ _ rfl HOa.out _ 1 1 rfl HSa.out (by unfold maxLen; omega) (by omega) (by first | omega | (simp; omega)) ?_))
            intro v2 w2 hown hg hat
            have B2 := hide (B1a.out.grown hg (by simp; omega) (by intro q hq; exact (HO1.out.lt q hq).1))
            have hz4 := B2.out.size
            have HO2 := hide hown
            clear hown hg hat r0 r1 r2 r3 r4 r5 HOa HSa B1a
            go_wp2_with (at_builtin; go_must (refine wpList_append_sl _ rfl _ _ 22 rfl w.heap.size 28 i0 _ 48 Try.underlying22 HI.out.1 HI.out.2.1 HI.out.2.2.1 HI.out.2.2.2 rfl (by decide) loE_len loE_one _ _ _ rfl HO2.out _ _ _ rfl (Sl.empty _ w.heap.size _ _ (by first | (intro e; cases e; done) | (intro _; rfl))) (by unfold maxLen; omega) (by omega) (by first | omega | (simp; omega)) ?_))
            intro v3 w3 hown hg hat
            have B3 := hide (B2.out.grown hg hz4 (by intro q hq; exact (HO2.out.lt q hq).1))
            have hl : (xs.take xs.length ++ y' :: xs.drop xs.length).length = xs.length + 1 + (xs.length - xs.length) := by simp <;> omega
            have ho : Loo w3 w.heap.size v3 (xs.take xs.length ++ y' :: xs.drop xs.length) := by
              unfold Loo; rw [hl]
              have := hown
              simpa [List.flatMap_append, List.flatMap_cons, List.append_assoc, HY'.out] using this
            obtain ⟨A1, q1, hv, hsl⟩ := Loo_sl ho (by rw [hl]; omega)
            subst hv
            have HC := hide (rchecked_any _ _ _ _ _ hsl)
            generalize hys : xs.take xs.length ++ y' :: xs.drop xs.length = ys at HC hl
            have HYS := hide hys
            generalize ys.length = m at HC
            clear hown hg hat ho hsl hl hys
            go_wp2_with fail
            refine HC.out.mono ?_
            rintro e w4 ⟨A2, n2, c2, rfl, hsl2, hb⟩
            go_wp2
            go_ret2
            rw [HPL.out, HYS.out]
            exact ⟨A2, n2, c2, rfl, hsl2, B3.out.trans (hb.mono B3.out.size)⟩
        · obtain rfl : xs = [] := List.eq_nil_of_length_eq_zero (by omega)
          have hpl : plcL ([] : List Lo) y' = 0 := hpl
          cases A with
          | none =>
            obtain rfl := hnl rfl
            have HPL := hide hpl
            have HTK := hide ((HSL.out _ BL.out).take (m := 0) (by omega))
            have BLe := hide (BL.out.alloc hz (.cells #[] 28))
            have CLe := hide (CL.out.alloc hz1 (.cells #[] 28))
            have HTKe := hide (HTK.out.alloc hz (.cells #[] 28))
            have HMD := hide (World.ownsRow_made (base := w.heap.size) (e := 28) (size := 6) wr' #[] 0 hz (Nat.zero_le _) rfl)
            clear hpl
            go_wp2_with (at_builtin; go_must (refine wpList_append_sl _ rfl _ _ 22 rfl w.heap.size 28 i0 _ 48 Try.underlying22 HI.out.1 HI.out.2.1 HI.out.2.2.1 HI.out.2.2.2 rfl (by decide) loE_len loE_one _ 0 [] rfl HMD.out _ _ _ rfl HTKe.out (by unfold maxLen; omega) (by omega) (by first | omega | (simp; omega)) ?_))
            intro v1 w1 hown hg hat
            have B1 := hide (BLe.out.grown hg (by simp; omega) (by intro q hq; simp [Value.ownBlock] at hq; omega))
            have C1 := hide (CLe.out.grown hg (by simp; omega) (by intro q hq; simp [Value.ownBlock] at hq; omega))
            have hz2 := B1.out.size
            have hz3 := C1.out.size
            simp only [World.size_alloc] at hz3
            have HO1 := hide hown
            obtain ⟨_, r0, r1, r2, r3, r4, r5⟩ := lo_box HX.out C1.out
            simp only at r0 r1 r2 r3 r4 r5
            have HOa := hide (HO1.out.alloc (.cells (loC ⟨y0, y1, y2, y3, y4, y5⟩) 28))
            have HSa := hide (lo_sl1 (Box.new w1 28 (loC ⟨y0, y1, y2, y3, y4, y5⟩)))
            have B1a := hide (B1.out.alloc hz2 (.cells (loC ⟨y0, y1, y2, y3, y4, y5⟩) 28))
            clear hown hg hat HMD HTK HTKe BLe CLe
            go_wp2_with (at_builtin; go_must (refine wpList_append_sl _ rfl _ _ 22 rfl w.heap.size 28 i0 _ 48 Try.underlying22 HI.out.1 HI.out.2.1 HI.out.2.2.1 HI.out.2.2.2 rfl (by decide) loE_len loE_one _ _ _ rfl HOa.out _ 1 1 rfl HSa.out (by unfold maxLen; omega) (by omega) (by first | omega | (simp; omega)) ?_))
            intro v2 w2 hown hg hat
            have B2 := hide (B1a.out.grown hg (by simp; omega) (by intro q hq; exact (HO1.out.lt q hq).1))
            have hz4 := B2.out.size
            have HO2 := hide hown
            clear hown hg hat r0 r1 r2 r3 r4 r5 HOa HSa B1a
            go_wp2_with (at_builtin; go_must (refine wpList_append_sl _ rfl _ _ 22 rfl w.heap.size 28 i0 _ 48 Try.underlying22 HI.out.1 HI.out.2.1 HI.out.2.2.1 HI.out.2.2.2 rfl (by decide) loE_len loE_one _ _ _ rfl HO2.out _ _ _ rfl (Sl.empty _ w.heap.size _ _ (by first | (intro e; cases e; done) | (intro _; rfl))) (by unfold maxLen; omega) (by omega) (by first | omega | (simp; omega)) ?_))
            intro v3 w3 hown hg hat
            have B3 := hide (B2.out.grown hg hz4 (by intro q hq; exact (HO2.out.lt q hq).1))
            have hl : (([] : List Lo).take 0 ++ y' :: ([] : List Lo).drop 0).length = 0 + 1 + (0 - 0) := by simp <;> omega
            have ho : Loo w3 w.heap.size v3 (([] : List Lo).take 0 ++ y' :: ([] : List Lo).drop 0) := by
              unfold Loo; rw [hl]
              have := hown
              simpa [List.flatMap_append, List.flatMap_cons, List.append_assoc, HY'.out] using this
            obtain ⟨A1, q1, hv, hsl⟩ := Loo_sl ho (by rw [hl]; omega)
            subst hv
            have HC := hide (rchecked_any _ _ _ _ _ hsl)
            generalize hys : ([] : List Lo).take 0 ++ y' :: ([] : List Lo).drop 0 = ys at HC hl
            have HYS := hide hys
            generalize ys.length = m at HC
            clear hown hg hat ho hsl hl hys
            go_wp2_with fail
            refine HC.out.mono ?_
            rintro e w4 ⟨A2, n2, c2, rfl, hsl2, hb⟩
            go_wp2
            go_ret2
            rw [HPL.out, HYS.out]
            exact ⟨A2, n2, c2, rfl, hsl2, B3.out.trans (hb.mono B3.out.size)⟩
          | some ad =>
            have HPL := hide hpl
            have HTK := hide ((HSL.out _ BL.out).take (m := 0) (by omega))
            have BLe := hide (BL.out.alloc hz (.cells #[] 28))
            have CLe := hide (CL.out.alloc hz1 (.cells #[] 28))
            have HTKe := hide (HTK.out.alloc hz (.cells #[] 28))
            have HMD := hide (World.ownsRow_made (base := w.heap.size) (e := 28) (size := 6) wr' #[] 0 hz (Nat.zero_le _) rfl)
            clear hpl
            go_wp2_with (at_builtin; go_must (refine wpList_append_sl _ rfl _ _ 22 rfl w.heap.size 28 i0 _ 48 Try.underlying22 HI.out.1 HI.out.2.1 HI.out.2.2.1 HI.out.2.2.2 rfl (by decide) loE_len loE_one _ 0 [] rfl HMD.out _ _ _ rfl HTKe.out (by unfold maxLen; omega) (by omega) (by first | omega | (simp; omega)) ?_))
            intro v1 w1 hown hg hat
            have B1 := hide (BLe.out.grown hg (by simp; omega) (by intro q hq; simp [Value.ownBlock] at hq; omega))
            have C1 := hide (CLe.out.grown hg (by simp; omega) (by intro q hq; simp [Value.ownBlock] at hq; omega))
            have hz2 := B1.out.size
            have hz3 := C1.out.size
            simp only [World.size_alloc] at hz3
            have HO1 := hide hown
            obtain ⟨_, r0, r1, r2, r3, r4, r5⟩ := lo_box HX.out C1.out
            simp only at r0 r1 r2 r3 r4 r5
            have HOa := hide (HO1.out.alloc (.cells (loC ⟨y0, y1, y2, y3, y4, y5⟩) 28))
            have HSa := hide (lo_sl1 (Box.new w1 28 (loC ⟨y0, y1, y2, y3, y4, y5⟩)))
            have B1a := hide (B1.out.alloc hz2 (.cells (loC ⟨y0, y1, y2, y3, y4, y5⟩) 28))
            clear hown hg hat HMD HTK HTKe BLe CLe
            go_wp2_with (at_builtin; go_must (refine wpList_append_sl _ rfl _ _ 22 rfl w.heap.size 28 i0 _ 48 Try.underlying22 HI.out.1 HI.out.2.1 HI.out.2.2.1 HI.out.2.2.2 rfl (by decide) loE_len loE_one _ _ _ rfl HOa.out _ 1 1 rfl HSa.out (by unfold maxLen; omega) (by omega) (by first | omega | (simp; omega)) ?_))
            intro v2 w2 hown hg hat
            have B2 := hide (B1a.out.grown hg (by simp; omega) (by intro q hq; exact (HO1.out.lt q hq).1))
            have hz4 := B2.out.size
            have HO2 := hide hown
            clear hown hg hat r0 r1 r2 r3 r4 r5 HOa HSa B1a
            go_wp2_with (at_builtin; go_must (refine wpList_append_sl _ rfl _ _ 22 rfl w.heap.size 28 i0 _ 48 Try.underlying22 HI.out.1 HI.out.2.1 HI.out.2.2.1 HI.out.2.2.2 rfl (by decide) loE_len loE_one _ _ _ rfl HO2.out _ _ _ rfl (Sl.empty _ w.heap.size _ _ (by first | (intro e; cases e; done) | (intro _; rfl))) (by unfold maxLen; omega) (by omega) (by first | omega | (simp; omega)) ?_))
            intro v3 w3 hown hg hat
            have B3 := hide (B2.out.grown hg hz4 (by intro q hq; exact (HO2.out.lt q hq).1))
            have hl : (([] : List Lo).take 0 ++ y' :: ([] : List Lo).drop 0).length = 0 + 1 + (0 - 0) := by simp <;> omega
            have ho : Loo w3 w.heap.size v3 (([] : List Lo).take 0 ++ y' :: ([] : List Lo).drop 0) := by
              unfold Loo; rw [hl]
              have := hown
              simpa [List.flatMap_append, List.flatMap_cons, List.append_assoc, HY'.out] using this
            obtain ⟨A1, q1, hv, hsl⟩ := Loo_sl ho (by rw [hl]; omega)
            subst hv
            have HC := hide (rchecked_any _ _ _ _ _ hsl)
            generalize hys : ([] : List Lo).take 0 ++ y' :: ([] : List Lo).drop 0 = ys at HC hl
            have HYS := hide hys
            generalize ys.length = m at HC
            clear hown hg hat ho hsl hl hys
            go_wp2_with fail
            refine HC.out.mono ?_
            rintro e w4 ⟨A2, n2, c2, rfl, hsl2, hb⟩
            go_wp2
            go_ret2
            rw [HPL.out, HYS.out]
            exact ⟨A2, n2, c2, rfl, hsl2, B3.out.trans (hb.mono B3.out.size)⟩
  · have e1 : outL xs y = (7, []) := by unfold outL atL; rw [h1, if_pos (by omega)]
    rw [e1]
    rw [h1] at hp
    have HP := hide hp
    clear hp h1 h2 e1 h4 hs hsl hy'
    obtain ⟨y0, y1, y2, y3, y4, y5⟩ := y
    unfold loV
    simp only at HP ⊢
    go_enter Try.func16, Try.ntmps16
    go_wp2_with fail
    refine (HP.out _).mono ?_
    rintro e w1 ⟨rfl, rfl⟩
    go_wp2
    go_ret2
    exact ResL.nil B0.out
end Go.Proofs.Ytelkidhgbjhboaa
