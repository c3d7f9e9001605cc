/- Texts laid together by merge.py: AqC. -/
import Derived.Test.YtbhndfphegflhaaGreatMrg19
set_option linter.unusedSimpArgs false
set_option linter.unusedVariables false
/- Walks: billsRight of the reference. Printed by gen_aq_c.py. -/
namespace Go.Proofs.YtbhndfphegflhaaGreat
open Go.RowKit

set_option maxRecDepth 100000 in
set_option maxHeartbeats 16000000 in
theorem rbills_any (a : Aq) (w : World) (ho : Ods w w.heap.size a.oA a.on a.oc a.o) (hbs : Bls w w.heap.size a.bA a.bn a.bc a.b) :
    Calls Tryz.prog 59 #[aqV a] w fun e w' => e = .returned (.bool (okBills a.o a.b)) ∧ Below w.heap.size w w' := by
  have B0 := hide ((Below.refl w.heap.size w).alloc (Nat.le_refl _) (.cells (aqC a) 27))
  have Z0 := hide (Below.refl (w.heap.size + 1) (w.alloc (.cells (aqC a) 27)))
  have X0 := hide (Box.new w 27 (aqC a))
  have hl1 := ho.len
  have hl2 := hbs.len
  have hb1 := ho.big
  have hb2 := hbs.big
  have HO := hide ho
  have HB := hide hbs
  clear ho hbs
  have HL1 := hide hl1
  have HL2 := hide hl2
  unfold aqV
  by_cases h128 : 128 < a.bn
  · have HR := hide (show okBills a.o a.b = false by unfold okBills; rw [show decide (a.b.length ≤ 128) = false by rw [decide_eq_false_iff_not]; omega]; rfl)
    have hz : (128 : Int) < (a.bn : Int) := by omega
    clear hl1 hl2
    go_enter Tryz.func59, Tryz.ntmps59
    go_wp2
    go_ret
    exact ⟨ret_bool HR.out.symm, B0.out⟩
  have hz : ¬ (128 : Int) < (a.bn : Int) := by omega
  have h128' : a.bn ≤ 128 := by omega
  have HK := hide (show okBills a.o a.b = (okBls a.o [] a.b && a.o.all (okOB a.b)) by unfold okBills; rw [show decide (a.b.length ≤ 128) = true by rw [decide_eq_true_eq]; omega]; rfl)
  clear h128 hl1 hl2
  go_enter Tryz.func59, Tryz.ntmps59
  go_wp2
  clear hz
  go_loopw [3] (fun s3 wr => ∃ k : Nat, k ≤ a.bn ∧ s3 = .int .i64 k ∧ okBls a.o [] a.b = okBls a.o (a.b.take k) (a.b.drop k) ∧ Below (w.heap.size + 1) (w.alloc (.cells (aqC a) 27)) wr) (fun s3 _ => a.bn - (intOf s3).toNat)
  case atStart => exact ⟨0, Nat.zero_le _, rfl, rfl, Z0.out⟩
  case round =>
    obtain ⟨k, hk, rfl, ha, hb⟩ := hrel
    have HAK := hide ha
    have Z1 := hide hb
    have X1 := hide (X0.out.below hb (by omega))
    have hz1 : w.heap.size + 1 ≤ wr.heap.size := by have := hb.size; simpa using this
    have B1 := hide (B0.out.trans (hb.mono (by omega)))
    have q2 := X1.out.cell 2
    have q3 := X1.out.cell 3
    simp at q2 q3
    clear ha hb
    by_cases hlt : k < a.bn
    · have hkz : (k : Int) < (a.bn : Int) := by omega
      obtain ⟨b, off, x, hA, hbB, hx, c0, c1, c2, c3, c4⟩ := Bls_at (HB.out.below B1.out) hlt
      have HA := hide hA
      have q3' := q3
      rw [hA] at q3
      have HST := hide (show okBls a.o [] a.b = (okBl a.o (a.b.take k) x && okBls a.o (a.b.take (k + 1)) (a.b.drop (k + 1))) by rw [HAK.out, okBls_step hx])
      have HG := hide (fun W (hW : Below w.heap.size w W) => rget_any a.oA a.on a.oc a.o x.ord W ((HO.out.below hW).more hW.size))
      obtain ⟨o, g, hog⟩ : ∃ o g, getO a.o x.ord = (o, g) := ⟨_, _, rfl⟩
      have HBL := hide (okBl_split (P := a.b.take k) hog)
      rw [hog] at HG
      have B2 := hide (B1.out.alloc B1.out.size (.cells (blC x) 43))
      have Z2 := hide (Z1.out.alloc hz1 (.cells (blC x) 43))
      have X2 := hide (X1.out.alloc (.cells (blC x) 43))
      have Y2 := hide (Box.new wr 43 (blC x))
      have hgl := Y2.out.lt
      have HG2 := hide (HG.out _ B2.out)
      have a2 := fun o => (World.cell?_alloc_lt wr o ⟨w.heap.size, 2, none⟩ (by show w.heap.size < _; omega)).trans q2
      have HXX := hide hx
      unfold odV at HG2
      clear hx hog HG hA q2 q3'
      go_wp2_with fail
      refine HG2.out.mono ?_
      rintro e w2 ⟨rfl, hb⟩
      have B3 := hide (B2.out.trans (hb.mono B2.out.size))
      have Z3 := hide (Z2.out.trans (hb.mono (Nat.le_trans hz1 (by simp))))
      have X3 := hide (X2.out.below hb X2.out.lt)
      have Y3 := hide (Y2.out.below hb Y2.out.lt)
      obtain ⟨gx, hgx⟩ : ∃ gx, gx = wr.heap.size := ⟨_, rfl⟩
      rw [← hgx] at Y3 ⊢
      have l0 := Y3.out.cell 0
      have l1 := Y3.out.cell 1
      have l3 := Y3.out.cell 3
      have l4 := Y3.out.cell 4
      simp at l0 l1 l3 l4
      have p0 := fun o => (World.cell?_alloc_lt w2 o ⟨gx, 0, none⟩ Y3.out.lt).trans l0
      have p1 := fun o => (World.cell?_alloc_lt w2 o ⟨gx, 1, none⟩ Y3.out.lt).trans l1
      have p3 := fun o => (World.cell?_alloc_lt w2 o ⟨gx, 3, none⟩ Y3.out.lt).trans l3
      have p4 := fun o => (World.cell?_alloc_lt w2 o ⟨gx, 4, none⟩ Y3.out.lt).trans l4
      have B4 := hide (B3.out.alloc B3.out.size (.cells (odC o) 35))
      clear hb HG2 c0 c1 c2 c3 c4 a2 q3 B2 Z2 X2 Y2 hgl hgx Z1 B1 X1
      cases g with
      | false =>
        have HR := hide (show okBills a.o a.b = false by rw [HK.out, HST.out, HBL.out]; rfl)
        clear HL1 HL2
        go_wp2
        go_ret
        exact ⟨ret_bool HR.out.symm, B4.out⟩
      | true =>
        by_cases hP : o.ven = x.ven ∧ 1 ≤ x.cop ∧ x.cop ≤ 100000000 ∧ 1 ≤ x.amt ∧ x.amt ≤ 100000000 ∧ 1 ≤ x.num ∧ x.num ≤ 99999
        · have HBT := hide (show okBl a.o (a.b.take k) x = !((a.b.take k).any (samB x)) by
            rw [HBL.out]
            obtain ⟨e1, e2, e3, e4, e5, e6, e7⟩ := hP
            simp [e1, e2, e3, e4, e5, e6, e7])
          obtain ⟨e1, e2, e3, e4, e5, e6, e7⟩ := hP
          have e1' : (o.ven != x.ven) = false := by simpa using e1
          clear e1
          go_wp2
          clear e1' e2 e3 e4 e5 e6 e7 l0 l1 l3 l4 p0 p1 p3 p4
          go_loopw [7] (fun s7 wr => ∃ j : Nat, j ≤ k ∧ s7 = .int .i64 j ∧ (∀ u ∈ a.b.take j, samB x u = false) ∧ Below w2.heap.size w2 wr) (fun s7 _ => k - (intOf s7).toNat)
          case atStart => exact ⟨0, Nat.zero_le _, rfl, by simp, (Below.refl _ _).alloc (Nat.le_refl _) _⟩
          case round =>
            obtain ⟨j, hj, rfl, ha, hb⟩ := hrel
            have HAJ := hide ha
            have B5 := hide (B3.out.trans (hb.mono B3.out.size))
            have Z5 := hide hb
            have X5 := hide (X3.out.below hb X3.out.lt)
            have Y5 := hide (Y3.out.below hb Y3.out.lt)
            clear ha hb
            by_cases hjk : j < k
            · have hjz : (j : Int) < (k : Int) := by omega
              obtain ⟨b', off', z, hA', hbB', hz, d0, d1, d2, d3, d4⟩ := Bls_at (HB.out.below B5.out) (k := j) (by omega)
              have hjn : (j : Int) < (a.bn : Int) := by omega
              have q3 := X5.out.cell 3
              have l0 := Y5.out.cell 0
              have l1 := Y5.out.cell 1
              simp at q3 l0 l1
              rw [hA'] at q3
              have f3 := Grn.cell q3
              have f0 := Grn.cell l0
              have f1 := Grn.cell l1
              have f4 := Grn.cell d0
              have f5 := Grn.cell d1
              have HZ := hide hz
              have HSB := hide (show samB x z = ((z.ven == x.ven) && (z.num == x.num)) from rfl)
              clear hz hA' d2 d3 d4
              cases s1 : (z.ven == x.ven) with
              | false =>
                have HN := hide (samN_step HZ.out HAJ.out (by rw [HSB.out, s1]; rfl))
                go_wp2_with fail
                refine wp_region_grn (by kernel_rfl) (by kernel_rfl) ?_
                repeat (go_big_quiet_step (fail))
                refine wpQuiet_nil ?_
                rintro _ ⟨q, rfl⟩
                have Z6 := hide (Z5.out.trans (q.h.mono Z5.out.size))
                go_wp2
                go_roundw
                case rel => exact ⟨j + 1, by omega, by go_num, HN.out, Z6.out⟩
                case measure => simp [intOf]; omega
              | true =>
                cases s2 : (z.num == x.num) with
                | false =>
                  have HN := hide (samN_step HZ.out HAJ.out (by rw [HSB.out, s1, s2]; rfl))
                  go_wp2_with fail
                  refine wp_region_grn (by kernel_rfl) (by kernel_rfl) ?_
                  repeat (go_big_quiet_step (fail))
                  refine wpQuiet_nil ?_
                  rintro _ ⟨q, rfl⟩
                  have Z6 := hide (Z5.out.trans (q.h.mono Z5.out.size))
                  go_wp2
                  go_roundw
                  case rel => exact ⟨j + 1, by omega, by go_num, HN.out, Z6.out⟩
                  case measure => simp [intOf]; omega
                | true =>
                  have HR := hide (show okBills a.o a.b = false by
                    rw [HK.out, HST.out, HBT.out, show (a.b.take k).any (samB x) = true from List.any_eq_true.2 ⟨z, List.mem_of_getElem? (show (a.b.take k)[j]? = some z by rw [List.getElem?_take, if_pos hjk]; exact HZ.out), by rw [HSB.out, s1, s2]; rfl⟩]; rfl)
                  go_wp2_with fail
                  refine wp_region_grn (by kernel_rfl) (by kernel_rfl) ?_
                  repeat (go_big_quiet_step (fail))
                  refine wpQuiet_nil ?_
                  rintro _ ⟨q, rfl⟩
                  have B6 := hide (B5.out.trans (q.h.mono B5.out.size))
                  go_wp2
                  go_ret
                  exact ⟨ret_bool HR.out.symm, B6.out⟩
            · have hjz : ¬ (j : Int) < (k : Int) := by omega
              have HNX := hide (show okBls a.o [] a.b = okBls a.o (a.b.take (k + 1)) (a.b.drop (k + 1)) by
                rw [HST.out, HBT.out, show (a.b.take k).any (samB x) = false by
                  rw [List.any_eq_false]
                  intro u hu h
                  have := HAJ.out u (by rwa [show j = k by omega])
                  rw [this] at h; cases h]; rfl)
              have Z7 := hide (Z3.out.trans (Z5.out.mono (Nat.le_trans (by simp) Z3.out.size)))
              go_wp2
              go_roundw
              case rel => exact ⟨k + 1, by omega, by go_num, HNX.out, Z7.out⟩
              case measure => simp [intOf]; omega
        · have HR := hide (show okBills a.o a.b = false by
            rw [HK.out, HST.out, HBL.out]
            by_cases e1 : o.ven = x.ven
            · by_cases e2 : 1 ≤ x.cop ∧ x.cop ≤ 100000000
              · by_cases e3 : 1 ≤ x.amt ∧ x.amt ≤ 100000000
                · have e4 : ¬ (1 ≤ x.num ∧ x.num ≤ 99999) := fun h => hP ⟨e1, e2.1, e2.2, e3.1, e3.2, h.1, h.2⟩
                  have e5 : (decide (1 ≤ x.num) && decide (x.num ≤ 99999)) = false := by simp; omega
                  rw [e5]; simp
                · have e5 : (decide (1 ≤ x.amt) && decide (x.amt ≤ 100000000)) = false := by simp; omega
                  rw [e5]; simp
              · have e5 : (decide (1 ≤ x.cop) && decide (x.cop ≤ 100000000)) = false := by simp; omega
                rw [e5]; simp
            · rw [show (o.ven == x.ven) = false by simpa using e1]; simp)
          clear HL1 HL2
          go_wp2
          all_goals first | (exfalso; omega) | (go_ret; exact ⟨ret_bool HR.out.symm, B3.out.alloc B3.out.size _⟩) | (exfalso; (try simp only [beq_eq_false_iff_ne, bne_eq_false_iff_eq, beq_iff_eq, bne_iff_ne, ne_eq] at *); omega)
    · have hkz : ¬ (k : Int) < (a.bn : Int) := by omega
      have H1 := hide (show okBls a.o [] a.b = true by rw [HAK.out, List.drop_of_length_le (by rw [HL2.out]; omega), okBls])
      have HM := hide (okBls_M a.b [] H1.out)
      have HK2 := hide (show okBills a.o a.b = a.o.all (okOB a.b) by rw [HK.out, H1.out]; rfl)
      clear HK HAK H1 q2
      go_wp2
      clear hkz q3
      go_loopw [8] (fun s8 wr => ∃ k : Nat, k ≤ a.on ∧ s8 = .int .i64 k ∧ (∀ u ∈ a.o.take k, okOB a.b u = true) ∧ Below (w.heap.size + 1) (w.alloc (.cells (aqC a) 27)) wr) (fun s8 _ => a.on - (intOf s8).toNat)
      case atStart => exact ⟨0, Nat.zero_le _, rfl, by simp, Z1.out⟩
      case round =>
        clear X1 B1 Z1 hz1 hk
        obtain ⟨k, hk, rfl, ha, hb⟩ := hrel
        have HAK := hide ha
        have Z1 := hide hb
        have X1 := hide (X0.out.below hb (by omega))
        have hz1 : w.heap.size + 1 ≤ wr.heap.size := by have := hb.size; simpa using this
        have B1 := hide (B0.out.trans (hb.mono (by omega)))
        have q2 := X1.out.cell 2
        simp at q2
        clear ha hb
        by_cases hlt2 : k < a.on
        · have hkz : (k : Int) < (a.on : Int) := by omega
          obtain ⟨o, ho⟩ : ∃ o, a.o[k]? = some o := ⟨_, List.getElem?_eq_getElem (by have := HL1.out; omega)⟩
          have HOX := hide ho
          obtain ⟨W0, hW0⟩ : ∃ W0, W0 = wr := ⟨_, rfl⟩
          clear ho
          go_wp2
          clear q2
          rw [← hW0] at B1 X1 Z1 hz1 ⊢
          clear hW0
          go_loopw [9, 10, 11] (fun s9 s10 s11 wr => ∃ j : Nat, j ≤ a.bn ∧ s11 = .int .i64 j ∧ s9 = .int .i64 (sumB (·.cop) (a.b.take j) o.id) ∧ s10 = .int .i64 (sumB (·.amt) (a.b.take j) o.id) ∧ Below W0.heap.size W0 wr) (fun _ _ s11 _ => a.bn - (intOf s11).toNat)
          case atStart => exact ⟨0, Nat.zero_le _, rfl, rfl, rfl, Below.refl _ _⟩
          case round =>
            obtain ⟨j, hj, rfl, rfl, rfl, hb⟩ := hrel
            have B5 := hide (B1.out.trans (hb.mono B1.out.size))
            have Z5 := hide hb
            have X5 := hide (X1.out.below hb X1.out.lt)
            have q2 := X5.out.cell 2
            have q3 := X5.out.cell 3
            simp at q2 q3
            clear hb
            obtain ⟨sc, hsc⟩ : ∃ s, sumB (·.cop) (a.b.take j) o.id = s := ⟨_, rfl⟩
            obtain ⟨sa, hsa⟩ : ∃ s, sumB (·.amt) (a.b.take j) o.id = s := ⟨_, rfl⟩
            have hbc : 0 ≤ sc ∧ sc ≤ 100000000 * 128 := by
              have h := sumB_bd (·.cop) (a.b.take j) o.id (fun b hb => (HM.out b (List.mem_of_mem_take hb)).cop)
              rw [hsc, List.length_take] at h
              omega
            have hba : 0 ≤ sa ∧ sa ≤ 100000000 * 128 := by
              have h := sumB_bd (·.amt) (a.b.take j) o.id (fun b hb => (HM.out b (List.mem_of_mem_take hb)).amt)
              rw [hsa, List.length_take] at h
              omega
            have HSC := hide hsc
            have HSA := hide hsa
            rw [hsc, hsa]
            clear hsc hsa
            obtain ⟨b, off, o', hA, hbB, ho', c0, c1, c2, c3, c4, c5, c6, c7, c8, c9⟩ := Ods_at (HO.out.below B5.out) hlt2
            obtain rfl : o' = o := by rw [HOX.out] at ho'; cases ho'; rfl
            rw [hA] at q2
            clear ho' hA c1 c2 c3 c4 c5 c8 c9
            by_cases hjn : j < a.bn
            · have hjz : (j : Int) < (a.bn : Int) := by omega
              obtain ⟨b', off', z, hA', hbB', hz, d0, d1, d2, d3, d4⟩ := Bls_at (HB.out.below B5.out) hjn
              rw [hA'] at q3
              have hm := HM.out z (List.mem_of_getElem? hz)
              have m1 := hm.cop
              have m2 := hm.amt
              have e1 : IntKind.i64.wrap (sc + z.cop) = sc + z.cop := by rw [IntKind.wrap_i64]; omega
              have e2 : IntKind.i64.wrap (sa + z.amt) = sa + z.amt := by rw [IntKind.wrap_i64]; omega
              have HSTc := hide (show sumB (·.cop) (a.b.take (j + 1)) o'.id = sc + (if z.ord = o'.id then z.cop else 0) by rw [take_step hz, sumB_snoc, HSC.out])
              have HSTa := hide (show sumB (·.amt) (a.b.take (j + 1)) o'.id = sa + (if z.ord = o'.id then z.amt else 0) by rw [take_step hz, sumB_snoc, HSA.out])
              have f2 := Grn.cell q2
              have f3 := Grn.cell q3
              have f0 := Grn.cell c0
              have f4 := Grn.cell d2
              have HZ := hide hz
              clear hz hm hA' d0 d1 c6 c7
              by_cases hq : z.ord = o'.id
              · have hq' : (z.ord == o'.id) = true := by simpa using hq
                have HN1 := hide (show sumB (·.cop) (a.b.take (j + 1)) o'.id = sc + z.cop by rw [HSTc.out, if_pos hq])
                have HN2 := hide (show sumB (·.amt) (a.b.take (j + 1)) o'.id = sa + z.amt by rw [HSTa.out, if_pos hq])
                clear hq
                go_wp2_with fail
                refine wp_region_grn (by kernel_rfl) (by kernel_rfl) ?_
                repeat (go_big_quiet_step (fail))
                refine wpQuiet_nil ?_
                rintro _ ⟨q, rfl⟩
                have Z6 := hide (Z5.out.trans (q.h.mono Z5.out.size))
                have B6 := hide (B5.out.trans (q.h.mono B5.out.size))
                have X6 := X5.out.below q.h X5.out.lt
                have r3 := X6.cell 3
                simp at r3
                obtain ⟨b2, off2, z2, hA2, hbB2, hz2, d0, d1, d2', d3', d4'⟩ := Bls_at (HB.out.below B6.out) hjn
                obtain rfl : z2 = z := by rw [HZ.out] at hz2; cases hz2; rfl
                rw [hA2] at r3
                clear hz2 hA2 d0 d1 d2' X6 f2 f3 f0 f4
                go_wp2
                go_roundw
                case rel => exact ⟨j + 1, by omega, by go_num, by rw [HN1.out], by rw [HN2.out], Z6.out⟩
                case measure => simp [intOf]; omega
              · have hq' : (z.ord == o'.id) = false := by simpa using hq
                have HN1 := hide (show sumB (·.cop) (a.b.take (j + 1)) o'.id = sc by rw [HSTc.out, if_neg hq]; omega)
                have HN2 := hide (show sumB (·.amt) (a.b.take (j + 1)) o'.id = sa by rw [HSTa.out, if_neg hq]; omega)
                clear hq
                go_wp2_with fail
                refine wp_region_grn (by kernel_rfl) (by kernel_rfl) ?_
                repeat (go_big_quiet_step (fail))
                refine wpQuiet_nil ?_
                rintro _ ⟨q, rfl⟩
                have Z6 := hide (Z5.out.trans (q.h.mono Z5.out.size))
                go_wp2
                go_roundw
                case rel => exact ⟨j + 1, by omega, by go_num, by rw [HN1.out], by rw [HN2.out], Z6.out⟩
                case measure => simp [intOf]; omega
            · have hjz : ¬ (j : Int) < (a.bn : Int) := by omega
              have HSC2 := hide (show sumB (·.cop) a.b o'.id = sc by rw [← HSC.out, List.take_of_length_le (by have := HL2.out; omega)])
              have HSA2 := hide (show sumB (·.amt) a.b o'.id = sa by rw [← HSA.out, List.take_of_length_le (by have := HL2.out; omega)])
              have HOO := hide (show okOB a.b o' = ((sc == o'.bil) && (sa == o'.paid)) by unfold okOB; rw [HSC2.out, HSA2.out])
              have Z7 := hide (Z1.out.trans (Z5.out.mono hz1))
              by_cases hP : sc = o'.bil ∧ sa = o'.paid
              · have HN := hide (okOB_step HOX.out HAK.out (by rw [HOO.out, hP.1, hP.2]; simp))
                obtain ⟨e1, e2⟩ := hP
                have e1' : (sc != o'.bil) = false := by simpa using e1
                have e2' : (sa != o'.paid) = false := by simpa using e2
                clear e1 e2
                go_wp2
                go_roundw
                case rel => exact ⟨k + 1, by omega, by go_num, HN.out, Z7.out⟩
                case measure => simp [intOf]; omega
              · have HR := hide (show okBills a.o a.b = false by
                  rw [HK2.out, List.all_eq_false]
                  refine ⟨o', List.mem_of_getElem? HOX.out, ?_⟩
                  rw [HOO.out]
                  intro h
                  rw [Bool.and_eq_true, beq_iff_eq, beq_iff_eq] at h
                  exact hP h)
                go_wp2
                all_goals first | (exfalso; omega) | (go_ret; exact ⟨ret_bool HR.out.symm, B5.out⟩) | (exfalso; (try simp only [beq_eq_false_iff_ne, bne_eq_false_iff_eq, beq_iff_eq, bne_iff_ne, ne_eq] at *); omega)
        · have hkz : ¬ (k : Int) < (a.on : Int) := by omega
          have HR := hide (show okBills a.o a.b = true by
            rw [HK2.out, List.all_eq_true]
            intro u hu
            exact HAK.out u (by rwa [List.take_of_length_le (by have := HL1.out; omega)]))
          go_wp2
          go_ret
          exact ⟨ret_bool HR.out.symm, B1.out⟩
end Go.Proofs.YtbhndfphegflhaaGreat
