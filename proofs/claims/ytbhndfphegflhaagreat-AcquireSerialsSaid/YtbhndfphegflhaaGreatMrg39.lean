/- Texts laid together by merge.py: AqK. -/
import Derived.Test.YtbhndfphegflhaaGreatMrg38
set_option linter.unusedSimpArgs false
set_option linter.unusedVariables false
/- Walks: Right of the program. Printed by gen_aq_k.py. -/
namespace Go.Proofs.YtbhndfphegflhaaGreat
open Go.RowKit

/-! ### the plain part -/
theorem sumB_nn {g : Bl → Int} : ∀ (bs : List Bl) (id : Int), (∀ c ∈ bs, 0 ≤ g c) → 0 ≤ sumB g bs id
  | [], _, _ => by simp [sumB]
  | c :: r, id, h => by
    have h1 := h c (by simp)
    have h2 := sumB_nn r id (fun d hd => h d (by simp [hd]))
    rw [sumB]; split <;> omega
theorem sumB_le {g : Bl → Int} : ∀ {bs : List Bl} {b : Bl} {id : Int}, (∀ c ∈ bs, 0 ≤ g c) → b ∈ bs → b.ord = id → g b ≤ sumB g bs id
  | [], _, _, _, h, _ => by cases h
  | c :: r, b, id, hn, h, hi => by
    have h1 := hn c (by simp)
    have h2 := sumB_nn r id (fun d hd => hn d (by simp [hd]))
    rw [sumB]
    rcases List.mem_cons.1 h with rfl | h
    · rw [if_pos hi]; omega
    · have h3 := sumB_le (fun d hd => hn d (by simp [hd])) h hi
      split <;> omega
theorem okBlP_eq {os : List Od} (hv : VldO os) {bs : List Bl} (hs : os.all (okOB bs) = true) (hb : ∀ b ∈ bs, 1 ≤ b.cop) : ∀ (P xs : List Bl), P ++ xs = bs → okBlsP os P xs = okBls os P xs
  | _, [], _ => rfl
  | P, b :: r, e => by
    rw [okBlsP, okBls, okBlP_eq hv hs hb (P ++ [b]) r (by rw [← e]; simp)]
    congr 1
    obtain ⟨o, g, hog⟩ : ∃ o g, getO os b.ord = (o, g) := ⟨_, _, rfl⟩
    rw [okBlP_split hog, okBl_split hog]
    cases g with
    | false => rfl
    | true =>
      have hid : o ∈ os ∧ o.id = b.ord := by
        rcases getO_cases os b.ord with ⟨_, h2, _⟩ | ⟨i, y, _, h2, h3, h4, _⟩
        · rw [hog] at h2; cases h2
        · rw [hog] at h4; cases h4; exact ⟨List.mem_of_getElem? h2, h3⟩
      have hM := hv.M o hid.1
      have h1 := List.all_eq_true.1 hs o hid.1
      unfold okOB at h1
      rw [Bool.and_eq_true] at h1
      have h2 : sumB (·.cop) bs o.id = o.bil := by simpa using h1.1
      have h3 : b.cop ≤ sumB (·.cop) bs o.id := by
        rw [hid.2]
        exact sumB_le (g := (·.cop)) (fun c hc => by have := hb c hc; show 0 ≤ c.cop; omega) (show b ∈ bs by rw [← e]; simp) rfl
      have h4 := hM.bil
      have h5 := hM.rcv
      have h6 := hM.cop
      have d1 : decide (b.cop ≤ o.cop) = true := by rw [decide_eq_true_eq]; omega
      have d2 : decide (b.cop ≤ 100000000) = true := by rw [decide_eq_true_eq]; omega
      rw [d1, d2]
theorem okBlsP_M {os : List Od} : ∀ (bs P : List Bl), okBlsP os P bs = true → ∀ b ∈ bs, 1 ≤ b.cop
  | [], _, _, b, hb => by simp at hb
  | c :: r, P, h, b, hb => by
    rw [okBlsP, Bool.and_eq_true] at h
    rcases List.mem_cons.1 hb with rfl | hb
    · have h1 := h.1
      unfold okBlP winB at h1
      simp only [Bool.and_eq_true, decide_eq_true_eq] at h1
      exact h1.1.1.1.2.1
    · exact okBlsP_M r _ h.2 b hb
theorem okBillsP_eq {os : List Od} (hv : VldO os) (bs : List Bl) : okBillsP os bs = okBills os bs := by
  unfold okBillsP okBills
  cases hs : os.all (okOB bs) with
  | false => simp
  | true =>
    by_cases h1 : ∀ b ∈ bs, 1 ≤ b.cop
    · rw [okBlP_eq hv hs h1 [] bs rfl]
    · have e1 : okBls os [] bs = false := by
        rw [← Bool.not_eq_true]; intro h; exact h1 (fun b hb => (okBls_M bs [] h b hb).cop.1)
      have e2 : okBlsP os [] bs = false := by
        rw [← Bool.not_eq_true]; intro h; exact h1 (okBlsP_M bs [] h)
      rw [e1, e2]

set_option maxRecDepth 100000 in
set_option maxHeartbeats 16000000 in
theorem pright40_any (a : Aq) (w : World) (hs : AqS w w.heap.size a) (er : Se → Int) (her : ∀ x, (er x == 0) = (seErr x == 0))
    (hsr : ∀ x ∈ a.s, ∀ W, Below w.heap.size w W → Calls Tryz.prog 55 #[seV x] W fun e w' => e = .returned (.int .i64 (er x)) ∧ Below W.heap.size W w') :
    Calls Tryz.prog 16 #[aqV a] w fun e w' => e = .returned (.bool (okA (aqP a))) ∧ Below w.heap.size w w' := by
  have B0 := hide ((Below.refl w.heap.size w).alloc (Nat.le_refl _) (.cells (aqC a) 27))
  have Z0 := hide (Below.refl (w.heap.size + 1) (w.alloc (.cells (aqC a) 27)))
  have X0 := hide (Box.new w 27 (aqC a))
  have hl4 := hs.s.len
  have hb4 := hs.s.big
  have HL4 := hide hl4
  have HSR := hide hsr
  have HER := hide her
  have HS := hide hs
  clear hs hsr her
  unfold aqV
  by_cases hyr : 1900 ≤ a.yr ∧ a.yr ≤ 2199 ∧ a.sn ≤ 16
  · obtain ⟨y1, y2, y3⟩ := hyr
    have y1' : ¬ a.yr < 1900 := by omega
    have y2' : ¬ 2199 < a.yr := by omega
    have y3' : ¬ (16 : Int) < (a.sn : Int) := by omega
    have HOV := hide (pov_any a _ ((HS.out.below B0.out).more B0.out.size))
    unfold aqV at HOV
    obtain ⟨ov, hov⟩ : ∃ ov, okOv (aqP a) = ov := ⟨_, rfl⟩
    have HOK := hide (show okA (aqP a) = (okOv (aqP a) && okSes none a.s && okBills a.o a.b) by
      unfold okA ok1 okOv aqP
      rw [winB_iff.2 ⟨y1, y2⟩, decide_eq_true (show a.s.length ≤ 16 by omega)]
      simp only [Bool.true_and, Bool.and_true]
      cases winB a.nx 1 10000 <;> cases (rightR a.f == 0) <;> cases (rightO a.o == 0) <;> simp)
    have HVO := hide (show okOv (aqP a) = true → VldO a.o by
      intro h
      unfold okOv aqP at h
      simp only [Bool.and_eq_true, beq_iff_eq] at h
      exact VldO.of h.1.1.2)
    rw [hov] at HOV HOK HVO
    clear hov y1 y2 y3 hl4
    go_enter Tryz.func16, Tryz.ntmps16
    go_wp2_with fail
    refine HOV.out.mono ?_
    rintro e w1 ⟨rfl, hb⟩
    have B1 := hide (B0.out.trans (hb.mono B0.out.size))
    have Z1 := hide (hb.mono (show w.heap.size + 1 ≤ _ by simp))
    have X1 := hide (X0.out.below hb (by simp))
    clear hb HOV
    cases ov with
    | false =>
      have HR := hide (show okA (aqP a) = false by rw [HOK.out]; rfl)
      go_wp2
      go_ret
      exact ⟨ret_bool HR.out.symm, B1.out⟩
    | true =>
      have HV := hide (HVO.out rfl)
      have HPB := hide (pbills_any a w1 ((HS.out.o.below B1.out).more B1.out.size) ((HS.out.b.below B1.out).more B1.out.size) HV.out)
      rw [okBillsP_eq HV.out] at HPB
      unfold aqV at HPB
      obtain ⟨ob, hob⟩ : ∃ ob, okBills a.o a.b = ob := ⟨_, rfl⟩
      rw [hob] at HPB HOK
      have q0 := X1.out.cell 0
      have q1 := X1.out.cell 1
      have q2 := X1.out.cell 2
      have q3 := X1.out.cell 3
      have q4 := X1.out.cell 4
      have q5 := X1.out.cell 5
      simp at q0 q1 q2 q3 q4 q5
      clear hob
      go_wp2_with fail
      refine HPB.out.mono ?_
      rintro e w2 ⟨rfl, hb⟩
      have B2 := hide (B1.out.trans (hb.mono B1.out.size))
      have Z2 := hide (Z1.out.trans (hb.mono (show w.heap.size + 1 ≤ _ from Nat.lt_of_lt_of_le (Nat.lt_succ_self _) (Nat.le_trans (by simp) Z1.out.size))))
      have X2 := hide (X1.out.below hb X1.out.lt)
      clear hb HPB q0 q1 q2 q3 q4 q5 X1 B1 Z1
      cases ob with
      | false =>
        have HR := hide (show okA (aqP a) = false by rw [HOK.out]; simp)
        go_wp2
        go_ret
        exact ⟨ret_bool HR.out.symm, B2.out⟩
      | true =>
        have HW6 := hide (show okA (aqP a) = okSes none a.s by rw [HOK.out]; simp)
        have q4 := X2.out.cell 4
        simp at q4
        clear HOK
        go_wp2
        clear y1' y2' y3' q4 X2 B2
        go_loopw [32] (fun s9 wr => ∃ k : Nat, k ≤ a.sn ∧ s9 = .int .i64 k ∧ okSes none a.s = okSes (prevS a.s k) (a.s.drop k) ∧ Below (w.heap.size + 1) (w.alloc (.cells (aqC a) 27)) wr) (fun s9 _ => a.sn - (intOf s9).toNat)
        case atStart => exact ⟨0, Nat.zero_le _, rfl, rfl, Z2.out⟩
        case round =>
          clear Z2
          obtain ⟨k, hk, rfl, ha, hb⟩ := hrel
          have HAK := hide ha
          have Z1 := hide hb
          have X1 := hide (X0.out.below hb (by omega))
          have hz1 : w.heap.size + 1 ≤ wr.heap.size := by have := hb.size; simpa using this
          have B1 := hide (B0.out.trans (hb.mono (by omega)))
          clear ha hb
          by_cases hlt : k < a.sn
          · have hkz : (k : Int) < (a.sn : Int) := by omega
            obtain ⟨b, off, x, hA, hbB, hx, c0, c1, c2, c3, c4, c5, c6, c7, c8⟩ := Ses_at (HS.out.s.below B1.out) hlt
            have HX := hide hx
            have HST := hide (show okSes none a.s = ((er x == 0) && !((prevS a.s k).any (fun q => decide (x.rcd ≤ q))) && okSes (prevS a.s (k + 1)) (a.s.drop (k + 1))) by rw [HAK.out, okSes_step hx, HER.out])
            have H37 := hide (fun W (hW : Below w.heap.size w W) => HSR.out x (List.mem_of_getElem? hx) W hW)
            obtain ⟨ex, hex⟩ : ∃ ex, er x = ex := ⟨_, rfl⟩
            rw [hex] at H37 HST
            unfold seV at H37
            have HA := hide hA
            rw [hA]
            clear hx hex
            go_wp2_with fail
            obtain ⟨W2, hW2⟩ : ∃ W2, W2 = wr.alloc (.cells (seC x) 76) := ⟨_, rfl⟩
            have Y2 := Box.new wr 76 (seC x)
            have B2 := hide (B1.out.alloc B1.out.size (.cells (seC x) 76))
            have Z2 := hide (Z1.out.alloc hz1 (.cells (seC x) 76))
            have X2 := X1.out.alloc (.cells (seC x) 76)
            rw [← hW2] at Y2 B2 Z2 X2 ⊢
            clear hW2 c0 c1 c2 c3 c4 c5 c6 c7 c8 hA
            have l0 := Y2.cell 0
            have l1 := Y2.cell 1
            have l2 := Y2.cell 2
            have l3 := Y2.cell 3
            have l4 := Y2.cell 4
            have l5 := Y2.cell 5
            have l6 := Y2.cell 6
            have l7 := Y2.cell 7
            have l8 := Y2.cell 8
            have q4 := X2.cell 4
            simp at l0 l1 l2 l3 l4 l5 l6 l7 l8 q4
            rw [HA.out] at q4
            have f4 := Grn.cell q4
            have g0 := Grn.cell l0
            have g1 := Grn.cell l1
            have g2 := Grn.cell l2
            have g3 := Grn.cell l3
            have g4 := Grn.cell l4
            have g5 := Grn.cell l5
            have g6 := Grn.cell l6
            have g7 := Grn.cell l7
            have g8 := Grn.cell l8
            have hz2 : w.heap.size + 1 ≤ W2.heap.size := by have := Z2.out.size; simpa using this
            clear Y2 X2 q4 l0 l1 l2 l3 l4 l5 l6 l7 l8
            by_cases hz1e : (ex != 0) = true
            · have HR := hide (show okA (aqP a) = false by rw [HW6.out, HST.out, show (ex == 0) = false by simpa using hz1e]; rfl)
              refine wp_region_grn (by kernel_rfl) (by kernel_rfl) ?_
              repeat (go_big_quiet_step ((go_at_call 55; exact Calls_grn (H37.out _ (B2.out.trans ((Grn.h _).mono B2.out.size))))))
              refine wpQuiet_nil ?_
              rintro _ ⟨q, rfl⟩
              have B4 := hide (B2.out.trans (q.h.mono B2.out.size))
              go_wp2
              go_ret
              exact ⟨ret_bool HR.out.symm, B4.out⟩
            have hz1' : (ex != 0) = false := by simpa using hz1e
            have HST2 := hide (show okSes none a.s = (!((prevS a.s k).any (fun q => decide (x.rcd ≤ q))) && okSes (prevS a.s (k + 1)) (a.s.drop (k + 1))) by rw [HST.out, show (ex == 0) = true by simpa using hz1e]; rfl)
            clear hz1e HST
            cases k with
            | zero =>
              have HN := hide (show okSes none a.s = okSes (prevS a.s (0 + 1)) (a.s.drop (0 + 1)) by rw [HST2.out]; rfl)
              refine wp_region_grn (by kernel_rfl) (by kernel_rfl) ?_
              repeat (go_big_quiet_step ((go_at_call 55; exact Calls_grn (H37.out _ (B2.out.trans ((Grn.h _).mono B2.out.size))))))
              refine wpQuiet_nil ?_
              rintro _ ⟨q, rfl⟩
              have Z4 := hide (Z2.out.trans (q.h.mono hz2))
              go_wp2
              go_roundw
              case rel => exact ⟨0 + 1, by omega, by go_num, HN.out, Z4.out⟩
              case measure => simp [intOf]; omega
            | succ i =>
              obtain ⟨b', off', y, hA', hbB', hy, d0, _⟩ := Ses_at (HS.out.s.below B2.out) (k := i) (by omega)
              have hbo : b' = b ∧ off' = off := by have h1 := HA.out; rw [hA'] at h1; cases h1; exact ⟨rfl, rfl⟩
              obtain ⟨rfl, rfl⟩ := hbo
              have h0 := Grn.cell d0
              have e1 : IntKind.i64.wrap ((i : Int) + 1 - 1) = (i : Int) := by rw [IntKind.wrap_i64]; omega
              have e2 : ((i : Int) + 1).toNat = i + 1 := by omega
              have e7 : ((i : Int) + 1 - 1) = (i : Int) := by omega
              have e3 : (0 : Int) ≤ (i : Int) + 1 := by omega
              have e5 : (0 : Int) < (i : Int) + 1 := by omega
              have HPV := hide (show prevS a.s (i + 1) = some y.rcd by rw [prevS, hy]; rfl)
              clear hy hA' d0
              by_cases hle : x.rcd ≤ y.rcd
              · have HR := hide (show okA (aqP a) = false by rw [HW6.out, HST2.out, HPV.out]; simp [hle])
                have hd : decide (x.rcd ≤ y.rcd) = true := by simpa using hle
                clear hle
                refine wp_region_grn (by kernel_rfl) (by kernel_rfl) ?_
                repeat (go_big_quiet_step ((go_at_call 55; exact Calls_grn (H37.out _ (B2.out.trans ((Grn.h _).mono B2.out.size))))))
                refine wpQuiet_nil ?_
                rintro _ ⟨q, rfl⟩
                have B4 := hide (B2.out.trans (q.h.mono B2.out.size))
                go_wp2
                go_ret
                exact ⟨ret_bool HR.out.symm, B4.out⟩
              · have HN := hide (show okSes none a.s = okSes (prevS a.s (i + 1 + 1)) (a.s.drop (i + 1 + 1)) by rw [HST2.out, HPV.out]; simp [hle])
                have hd : decide (x.rcd ≤ y.rcd) = false := by simpa using hle
                clear hle
                refine wp_region_grn (by kernel_rfl) (by kernel_rfl) ?_
                repeat (go_big_quiet_step ((go_at_call 55; exact Calls_grn (H37.out _ (B2.out.trans ((Grn.h _).mono B2.out.size))))))
                refine wpQuiet_nil ?_
                rintro _ ⟨q, rfl⟩
                have Z4 := hide (Z2.out.trans (q.h.mono hz2))
                go_wp2
                go_roundw
                case rel => exact ⟨i + 1 + 1, by omega, by go_num, HN.out, Z4.out⟩
                case measure => simp [intOf]; omega
          · have hkz : ¬ (k : Int) < (a.sn : Int) := by omega
            have HR := hide (show okA (aqP a) = true by rw [HW6.out, HAK.out, List.drop_of_length_le (by rw [HL4.out]; omega), okSes])
            go_wp2
            go_ret
            exact ⟨ret_bool HR.out.symm, B1.out⟩
  · have HR := hide (show okA (aqP a) = false by
      unfold okA ok1 aqP
      cases h1 : winB a.yr 1900 2199 with
      | false => rfl
      | true =>
        rw [show decide (a.s.length ≤ 16) = false by rw [decide_eq_false_iff_not]; intro h; exact hyr ⟨(winB_iff.1 h1).1, (winB_iff.1 h1).2, by omega⟩]
        simp)
    go_enter Tryz.func16, Tryz.ntmps16
    go_wp2
    all_goals first | (exfalso; omega) | (go_ret; exact ⟨ret_bool HR.out.symm, B0.out⟩)
end Go.Proofs.YtbhndfphegflhaaGreat
