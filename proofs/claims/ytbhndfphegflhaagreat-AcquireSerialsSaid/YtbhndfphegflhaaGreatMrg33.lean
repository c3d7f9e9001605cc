/- Texts laid together by merge.py: SeB. -/
import Derived.Test.YtbhndfphegflhaaGreatMrg31
set_option linter.unusedSimpArgs false
set_option linter.unusedVariables false
/- Walks: issues and Right of the reference (subscriptions). Printed by gen_se_b.py. -/
namespace Go.Proofs.YtbhndfphegflhaaGreat
open Go.RowKit

theorem iss_step {xs ys : List Iu} {k : Nat} {x y : Iu} (h : xs[k]? = some x) (h' : ys[k]? = some y) : okIs (xs.take k) ((xs.zip ys).drop k) = (okI (xs.take k) x y && okIs (xs.take (k + 1)) ((xs.zip ys).drop (k + 1))) := by
  have hz : (xs.zip ys)[k]? = some (x, y) := List.getElem?_zip_eq_some.2 ⟨h, h'⟩
  rw [take_step h]
  obtain ⟨hk, hg⟩ := List.getElem?_eq_some_iff.1 hz
  rw [List.drop_eq_getElem_cons hk, hg, okIs]
theorem okI_split {P : List Iu} {x y : Iu} : okI P x y = (lstI x y && (decide (1 ≤ x.st) && decide (x.st ≤ 5)) && (hasI x == decide (0 < x.itm)) && (decide (0 ≤ x.itm) && decide (x.itm ≤ 9999)) && !(P.any (twoI x))) := rfl
theorem seN_step {x z : Iu} {xs : List Iu} {k : Nat} (h : xs[k]? = some z) (ha : ∀ u ∈ xs.take k, twoI x u = false) (hz : twoI x z = false) : ∀ u ∈ xs.take (k + 1), twoI x u = false := by
  intro u hu
  rw [take_step h] at hu
  rcases List.mem_append.1 hu with hu | hu
  · exact ha u hu
  · rw [List.mem_singleton.1 hu]; exact hz

set_option maxRecDepth 100000 in
set_option maxHeartbeats 16000000 in
theorem rissB_any (s : Se) (m : Nat) (w : World) (hs : SeS w w.heap.size s) (hp : PtM (sePt s)) (hm : s.nx = (m : Int)) (hm5 : m ≤ 5000) :
    Calls Tryz.prog 116 #[seV s] w fun e w' => e = .returned (.bool (okSe s)) ∧ Below w.heap.size w w' := by
  have B0 := hide ((Below.refl w.heap.size w).alloc (Nat.le_refl _) (.cells (seC s) 76))
  have X0 := hide (Box.new w 76 (seC s))
  have HS := hide hs
  have HIS := hide (rissues_any (sePt s) 109572 m _ hp ((HS.out.pt.below B0.out).more B0.out.size) hm5)
  have HL := hide (show issN s = isL (sePt s) 109572 m (ps0 (sePt s)) by unfold issN; rw [hm]; rfl)
  have HLL := hide (show (isL (sePt s) 109572 m (ps0 (sePt s))).length ≤ 5000 from Nat.le_trans (isL_len _ _ _ _) hm5)
  obtain ⟨L, hL⟩ : ∃ L, isL (sePt s) 109572 m (ps0 (sePt s)) = L := ⟨_, rfl⟩
  rw [hL] at HIS HL HLL
  have hK := hide (show okSe s = (((s.iu.length : Int) == s.nx) && (((issN s).length : Int) == s.nx) && okIs [] (s.iu.zip (issN s))) from rfl)
  rw [HL.out] at hK
  have hlen := hs.iu.len
  have hbig := hs.iu.big
  rw [hlen] at hK
  clear hs hp hL HL
  unfold ptV sePt at HIS
  unfold seV
  rw [hm] at hK ⊢
  unfold seC at X0 B0 HIS
  rw [hm] at X0 B0 HIS
  have HLEN := hide hlen
  clear hm hlen
  go_enter Tryz.func116, Tryz.ntmps116
  go_wp2_with fail
  refine HIS.out.mono ?_
  rintro e w1 ⟨v, rfl, ho, hb⟩
  obtain ⟨A1, c1, hv, hsl⟩ := Iuo_sl ho (by have := HLL.out; omega)
  subst hv
  have HSL := hide hsl
  have B1 := hide (B0.out.trans (hb.mono B0.out.size))
  have X1 := hide (X0.out.below hb (by simp))
  have q7 := X1.out.cell 7
  have q8 := X1.out.cell 8
  simp at q7 q8
  have hL5 := HLL.out
  clear ho hb hsl HIS
  by_cases hn1 : ((s.iun : Int) != (m : Int)) = true
  · have HR := hide (show okSe s = false by
      rw [hK.out, show ((s.iun : Int) == (m : Int)) = false by simpa using hn1]; rfl)
    go_wp2
    go_ret
    exact ⟨ret_bool HR.out.symm, B1.out⟩
  have hn1' : ((s.iun : Int) != (m : Int)) = false := by simpa using hn1
  have hnm : s.iun = m := by simp at hn1; omega
  clear hn1
  by_cases hn2 : ((L.length : Int) != (m : Int)) = true
  · have HR := hide (show okSe s = false by
      rw [hK.out, show ((L.length : Int) == (m : Int)) = false by simpa using hn2]; simp)
    clear hnm
    go_wp2
    go_ret
    exact ⟨ret_bool HR.out.symm, B1.out⟩
  have hn2' : ((L.length : Int) != (m : Int)) = false := by simpa using hn2
  have hlm : L.length = m := by simp at hn2; omega
  have HK := hide (show okSe s = okIs [] (s.iu.zip L) by
    rw [hK.out, show ((s.iun : Int) == (m : Int)) = true by rw [hnm]; simp, show ((L.length : Int) == (m : Int)) = true by rw [hlm]; simp]; rfl)
  have HNM := hide hnm
  have HLM := hide hlm
  clear hn2 hnm hlm hK
  go_wp2
  clear hn1' hn2' q7 q8
  go_loopw [4] (fun s4 wr => ∃ k : Nat, k ≤ m ∧ s4 = .int .i64 k ∧ okIs [] (s.iu.zip L) = okIs (s.iu.take k) ((s.iu.zip L).drop k) ∧ Below w1.heap.size w1 wr) (fun s4 _ => m - (intOf s4).toNat)
  case atStart => exact ⟨0, Nat.zero_le _, rfl, rfl, Below.refl _ _⟩
  case round =>
    obtain ⟨k, hk, rfl, ha, hb⟩ := hrel
    have HAK := hide ha
    have Z1 := hide hb
    have BW := hide (B1.out.trans (hb.mono B1.out.size))
    have X2 := hide (X1.out.below hb X1.out.lt)
    clear ha hb
    by_cases hlt : k < m
    · have hkz : (k : Int) < (L.length : Int) := by have := HLM.out; omega
      obtain ⟨b, off, x, hA, hbB, hx, c0, c1', c2, c3, c4, c5⟩ := Ius_at (HS.out.iu.below BW.out) (k := k) (by have := HNM.out; omega)
      have hkn : (k : Int) < (s.iun : Int) := by have := HNM.out; omega
      have q8 := X2.out.cell 8
      simp at q8
      rw [hA] at q8
      have Z2 := hide (Z1.out.alloc Z1.out.size (.cells #[.int .i64 x.vol, .int .i64 x.num, .int .i64 x.last, .int .i64 x.day, .int .i64 x.st, .int .i64 x.itm] 122))
      have B2 := hide (BW.out.alloc BW.out.size (.cells #[.int .i64 x.vol, .int .i64 x.num, .int .i64 x.last, .int .i64 x.day, .int .i64 x.st, .int .i64 x.itm] 122))
      have X3 := hide (X2.out.alloc (.cells #[.int .i64 x.vol, .int .i64 x.num, .int .i64 x.last, .int .i64 x.day, .int .i64 x.st, .int .i64 x.itm] 122))
      have Y3 := hide (Box.new wr 122 #[.int .i64 x.vol, .int .i64 x.num, .int .i64 x.last, .int .i64 x.day, .int .i64 x.st, .int .i64 x.itm])
      have hyl := Y3.out.lt
      go_wp2_with fail
      obtain ⟨W2, hW2⟩ : ∃ W2, W2 = wr.alloc (.cells #[.int .i64 x.vol, .int .i64 x.num, .int .i64 x.last, .int .i64 x.day, .int .i64 x.st, .int .i64 x.itm] 122) := ⟨_, rfl⟩
      rw [← hW2] at Z2 B2 X3 Y3 hyl ⊢
      obtain ⟨b', off', y, hA', hbB', hy, d0, d1, d2, d3, d4, d5⟩ := Ius_at (HSL.out.below Z2.out) (k := k) (by have := HLM.out; omega)
      subst hA'
      have HST := hide (show okIs [] (s.iu.zip L) = (okI (s.iu.take k) x y && okIs (s.iu.take (k + 1)) ((s.iu.zip L).drop (k + 1))) by rw [HAK.out, iss_step hx hy])
      have HXX := hide hx
      have HKI := hide (okI_split (P := s.iu.take k) (x := x) (y := y))
      have HLS := hide (fun W => rlisted_any x y W)
      have HHS := hide (fun W => rhas_any x W)
      have l0 := Y3.out.cell 0
      have l1 := Y3.out.cell 1
      have l2 := Y3.out.cell 2
      have l3 := Y3.out.cell 3
      have l4 := Y3.out.cell 4
      have l5 := Y3.out.cell 5
      simp at l0 l1 l2 l3 l4 l5
      have g0 := Grn.cell l0
      have g1 := Grn.cell l1
      have g2 := Grn.cell l2
      have g3 := Grn.cell l3
      have g4 := Grn.cell l4
      have g5 := Grn.cell l5
      have e0 := Grn.cell d0
      have e1 := Grn.cell d1
      have e2 := Grn.cell d2
      have e3 := Grn.cell d3
      have e4 := Grn.cell d4
      have e5 := Grn.cell d5
      unfold iuV at HLS HHS
      obtain ⟨ql, hql⟩ : ∃ q, lstI x y = q := ⟨_, rfl⟩
      obtain ⟨qh, hqh⟩ : ∃ q, hasI x = q := ⟨_, rfl⟩
      obtain ⟨qi, hqi⟩ : ∃ q, decide (0 < x.itm) = q := ⟨_, rfl⟩
      rw [hql] at HLS HKI
      rw [hqh] at HHS HKI
      rw [hqi] at HKI
      have HQI := hide hqi
      clear hx hy hA hql hqh hqi c0 c1' c2 c3 c4 c5 q8 Z1 BW X2 hW2
      cases ql with
      | false =>
        have HR := hide (show okSe s = false by rw [HK.out, HST.out, HKI.out]; rfl)
        clear HLM HNM
        refine wp_region_grn (by kernel_rfl) (by kernel_rfl) ?_
        repeat (go_big_quiet_step (first | (go_at_call 165; exact Calls_grn (HLS.out _)) | (go_at_call 166; exact Calls_grn (HHS.out _))))
        refine wpQuiet_nil ?_
        rintro _ ⟨q, rfl⟩
        have B4 := hide (B2.out.trans (q.h.mono B2.out.size))
        go_wp2
        go_ret
        exact ⟨ret_bool HR.out.symm, B4.out⟩
      | true =>
        by_cases s1 : x.st < 1
        · have f1 : decide (x.st < 1) = true := by simpa using s1
          have f1n : ¬ 1 ≤ x.st := by omega
          have HR := hide (show okSe s = false by rw [HK.out, HST.out, HKI.out]; simp [f1n])
          clear HLM HNM
          refine wp_region_grn (by kernel_rfl) (by kernel_rfl) ?_
          repeat (go_big_quiet_step (first | (go_at_call 165; exact Calls_grn (HLS.out _)) | (go_at_call 166; exact Calls_grn (HHS.out _))))
          refine wpQuiet_nil ?_
          rintro _ ⟨q, rfl⟩
          have B4 := hide (B2.out.trans (q.h.mono B2.out.size))
          go_wp2
          go_ret
          exact ⟨ret_bool HR.out.symm, B4.out⟩
        have f1 : decide (x.st < 1) = false := by simpa using s1
        by_cases s2 : 5 < x.st
        · have f2 : decide (5 < x.st) = true := by simpa using s2
          have f2n : ¬ x.st ≤ 5 := by omega
          have HR := hide (show okSe s = false by rw [HK.out, HST.out, HKI.out]; simp [f2n])
          clear HLM HNM
          refine wp_region_grn (by kernel_rfl) (by kernel_rfl) ?_
          repeat (go_big_quiet_step (first | (go_at_call 165; exact Calls_grn (HLS.out _)) | (go_at_call 166; exact Calls_grn (HHS.out _))))
          refine wpQuiet_nil ?_
          rintro _ ⟨q, rfl⟩
          have B4 := hide (B2.out.trans (q.h.mono B2.out.size))
          go_wp2
          go_ret
          exact ⟨ret_bool HR.out.symm, B4.out⟩
        have f2 : decide (5 < x.st) = false := by simpa using s2
        cases qh with
        | false =>
          cases qi with
          | true =>
            have f3 := HQI.out
            have HR := hide (show okSe s = false by rw [HK.out, HST.out, HKI.out]; simp)
            clear HLM HNM
            refine wp_region_grn (by kernel_rfl) (by kernel_rfl) ?_
            repeat (go_big_quiet_step (first | (go_at_call 165; exact Calls_grn (HLS.out _)) | (go_at_call 166; exact Calls_grn (HHS.out _))))
            refine wpQuiet_nil ?_
            rintro _ ⟨q, rfl⟩
            have B4 := hide (B2.out.trans (q.h.mono B2.out.size))
            go_wp2
            go_ret
            exact ⟨ret_bool HR.out.symm, B4.out⟩
          | false =>
            have f3 := HQI.out
            by_cases s4 : x.itm < 0
            · have f4 : decide (x.itm < 0) = true := by simpa using s4
              have f4n : ¬ 0 ≤ x.itm := by omega
              have HR := hide (show okSe s = false by rw [HK.out, HST.out, HKI.out]; simp [f4n])
              clear HLM HNM
              refine wp_region_grn (by kernel_rfl) (by kernel_rfl) ?_
              repeat (go_big_quiet_step (first | (go_at_call 165; exact Calls_grn (HLS.out _)) | (go_at_call 166; exact Calls_grn (HHS.out _))))
              refine wpQuiet_nil ?_
              rintro _ ⟨q, rfl⟩
              have B4 := hide (B2.out.trans (q.h.mono B2.out.size))
              go_wp2
              go_ret
              exact ⟨ret_bool HR.out.symm, B4.out⟩
            have f4 : decide (x.itm < 0) = false := by simpa using s4
            have h0 : x.itm = 0 := by simp at f3; omega
            have f5 : decide (9999 < x.itm) = false := by rw [decide_eq_false_iff_not]; omega
            clear h0
            refine wp_region_grn (by kernel_rfl) (by kernel_rfl) ?_
            repeat (go_big_quiet_step (first | (go_at_call 165; exact Calls_grn (HLS.out _)) | (go_at_call 166; exact Calls_grn (HHS.out _))))
            refine wpQuiet_nil ?_
            rintro _ ⟨q, rfl⟩
            obtain ⟨W4, hW4⟩ : ∃ W4, W4 = q.W := ⟨_, rfl⟩
            have B4 := hide (B2.out.trans (q.h.mono B2.out.size))
            have Z4 := hide (Z2.out.trans (q.h.mono Z2.out.size))
            have X4 := hide (X3.out.below q.h X3.out.lt)
            have Y4 := hide (Y3.out.below q.h Y3.out.lt)
            rw [← hW4] at B4 Z4 X4 Y4 ⊢
            clear hW4 g0 g1 g2 g3 g4 g5 e0 e1 e2 e3 e4 e5 l0 l1 l2 l3 l4 l5 d0 d1 d2 d3 d4 d5 B2 Z2 X3 Y3 hyl HLS HHS q
            go_wp2
            go_loopw [6] (fun s6 wr => ∃ j : Nat, j ≤ k ∧ s6 = .int .i64 j ∧ (∀ u ∈ s.iu.take j, twoI x u = false) ∧ Below W4.heap.size W4 wr) (fun s6 _ => k - (intOf s6).toNat)
            case atStart => exact ⟨0, Nat.zero_le _, rfl, by simp, Below.refl _ _⟩
            case round =>
              obtain ⟨j, hj, rfl, ha, hb⟩ := hrel
              have HAJ := hide ha
              have B5 := hide (B4.out.trans (hb.mono B4.out.size))
              have Z5 := hide hb
              have X5 := hide (X4.out.below hb X4.out.lt)
              have Y5 := hide (Y4.out.below hb Y4.out.lt)
              clear ha hb
              by_cases hjk : j < k
              · have hjz : (j : Int) < (k : Int) := by omega
                obtain ⟨b, off, z, hA, hbB, hz, c0, c1', c2, c3, c4, c5⟩ := Ius_at (HS.out.iu.below B5.out) (k := j) (by have := HNM.out; omega)
                have hjn : (j : Int) < (s.iun : Int) := by have := HNM.out; omega
                have q8 := X5.out.cell 8
                simp at q8
                rw [hA] at q8
                have l0 := Y5.out.cell 0
                have l4 := Y5.out.cell 4
                have l5 := Y5.out.cell 5
                simp at l0 l4 l5
                have hg5 := Y5.out.lt
                have a0 := fun o => (World.cell?_alloc_lt wr o _ (show Addr.block ⟨_, 0, none⟩ < _ from hg5)).trans l0
                have a4 := fun o => (World.cell?_alloc_lt wr o _ (show Addr.block ⟨_, 4, none⟩ < _ from hg5)).trans l4
                have a5 := fun o => (World.cell?_alloc_lt wr o _ (show Addr.block ⟨_, 5, none⟩ < _ from hg5)).trans l5
                have B6 := hide (B5.out.alloc B5.out.size (.cells (iuC z) 122))
                have Z6 := hide (Z5.out.alloc Z5.out.size (.cells (iuC z) 122))
                have HZ := hide hz
                have HTW := hide (show twoI x z = (decide (0 < x.itm) && (z.itm == x.itm) && !((x.st == 4) && (z.st == 4) && (x.vol == z.vol))) from rfl)
                clear hz hA
                have HN := hide (seN_step HZ.out HAJ.out (by rw [HTW.out, HQI.out]; rfl))
                go_wp2
                go_roundw
                case rel => exact ⟨j + 1, by omega, by go_num, HN.out, Z5.out.alloc Z5.out.size _⟩
                case measure => simp [intOf]; omega
              · have hjz : ¬ (j : Int) < (k : Int) := by omega
                have HKO := hide (show okI (s.iu.take k) x y = true by
                  have k1 := f1
                  have k2 := f2
                  have k4 := f4
                  have k5 := f5
                  rw [decide_eq_false_iff_not] at k1 k2 k4 k5
                  rw [HKI.out, show (s.iu.take k).any (twoI x) = false by
                    rw [List.any_eq_false]
                    intro u hu h
                    have := HAJ.out u (by rwa [show j = k by omega])
                    rw [this] at h; cases h]
                  simp; omega)
                have HNX := hide (show okIs [] (s.iu.zip L) = okIs (s.iu.take (k + 1)) ((s.iu.zip L).drop (k + 1)) by rw [HST.out, HKO.out]; rfl)
                have Z7 := hide (Z4.out.trans (Z5.out.mono Z4.out.size))
                go_wp2
                go_roundw
                case rel => exact ⟨k + 1, by omega, by go_num, HNX.out, Z7.out⟩
                case measure => simp [intOf]; omega
        | true =>
          cases qi with
          | false =>
            have f3 := HQI.out
            have HR := hide (show okSe s = false by rw [HK.out, HST.out, HKI.out]; simp)
            clear HLM HNM
            refine wp_region_grn (by kernel_rfl) (by kernel_rfl) ?_
            repeat (go_big_quiet_step (first | (go_at_call 165; exact Calls_grn (HLS.out _)) | (go_at_call 166; exact Calls_grn (HHS.out _))))
            refine wpQuiet_nil ?_
            rintro _ ⟨q, rfl⟩
            have B4 := hide (B2.out.trans (q.h.mono B2.out.size))
            go_wp2
            go_ret
            exact ⟨ret_bool HR.out.symm, B4.out⟩
          | true =>
            have f3 := HQI.out
            have hpos : 0 < x.itm := by simpa using f3
            have f4 : decide (x.itm < 0) = false := by rw [decide_eq_false_iff_not]; omega
            by_cases s5 : 9999 < x.itm
            · have f5 : decide (9999 < x.itm) = true := by simpa using s5
              have f5n : ¬ x.itm ≤ 9999 := by omega
              have HR := hide (show okSe s = false by rw [HK.out, HST.out, HKI.out]; simp [f5n])
              clear HLM HNM
              refine wp_region_grn (by kernel_rfl) (by kernel_rfl) ?_
              repeat (go_big_quiet_step (first | (go_at_call 165; exact Calls_grn (HLS.out _)) | (go_at_call 166; exact Calls_grn (HHS.out _))))
              refine wpQuiet_nil ?_
              rintro _ ⟨q, rfl⟩
              have B4 := hide (B2.out.trans (q.h.mono B2.out.size))
              go_wp2
              go_ret
              exact ⟨ret_bool HR.out.symm, B4.out⟩
            have f5 : decide (9999 < x.itm) = false := by simpa using s5
            refine wp_region_grn (by kernel_rfl) (by kernel_rfl) ?_
            repeat (go_big_quiet_step (first | (go_at_call 165; exact Calls_grn (HLS.out _)) | (go_at_call 166; exact Calls_grn (HHS.out _))))
            refine wpQuiet_nil ?_
            rintro _ ⟨q, rfl⟩
            obtain ⟨W4, hW4⟩ : ∃ W4, W4 = q.W := ⟨_, rfl⟩
            have B4 := hide (B2.out.trans (q.h.mono B2.out.size))
            have Z4 := hide (Z2.out.trans (q.h.mono Z2.out.size))
            have X4 := hide (X3.out.below q.h X3.out.lt)
            have Y4 := hide (Y3.out.below q.h Y3.out.lt)
            rw [← hW4] at B4 Z4 X4 Y4 ⊢
            clear hW4 g0 g1 g2 g3 g4 g5 e0 e1 e2 e3 e4 e5 l0 l1 l2 l3 l4 l5 d0 d1 d2 d3 d4 d5 B2 Z2 X3 Y3 hyl HLS HHS q
            go_wp2
            go_loopw [6] (fun s6 wr => ∃ j : Nat, j ≤ k ∧ s6 = .int .i64 j ∧ (∀ u ∈ s.iu.take j, twoI x u = false) ∧ Below W4.heap.size W4 wr) (fun s6 _ => k - (intOf s6).toNat)
            case atStart => exact ⟨0, Nat.zero_le _, rfl, by simp, Below.refl _ _⟩
            case round =>
              obtain ⟨j, hj, rfl, ha, hb⟩ := hrel
              have HAJ := hide ha
              have B5 := hide (B4.out.trans (hb.mono B4.out.size))
              have Z5 := hide hb
              have X5 := hide (X4.out.below hb X4.out.lt)
              have Y5 := hide (Y4.out.below hb Y4.out.lt)
              clear ha hb
              by_cases hjk : j < k
              · have hjz : (j : Int) < (k : Int) := by omega
                obtain ⟨b, off, z, hA, hbB, hz, c0, c1', c2, c3, c4, c5⟩ := Ius_at (HS.out.iu.below B5.out) (k := j) (by have := HNM.out; omega)
                have hjn : (j : Int) < (s.iun : Int) := by have := HNM.out; omega
                have q8 := X5.out.cell 8
                simp at q8
                rw [hA] at q8
                have l0 := Y5.out.cell 0
                have l4 := Y5.out.cell 4
                have l5 := Y5.out.cell 5
                simp at l0 l4 l5
                have hg5 := Y5.out.lt
                have a0 := fun o => (World.cell?_alloc_lt wr o _ (show Addr.block ⟨_, 0, none⟩ < _ from hg5)).trans l0
                have a4 := fun o => (World.cell?_alloc_lt wr o _ (show Addr.block ⟨_, 4, none⟩ < _ from hg5)).trans l4
                have a5 := fun o => (World.cell?_alloc_lt wr o _ (show Addr.block ⟨_, 5, none⟩ < _ from hg5)).trans l5
                have B6 := hide (B5.out.alloc B5.out.size (.cells (iuC z) 122))
                have Z6 := hide (Z5.out.alloc Z5.out.size (.cells (iuC z) 122))
                have HZ := hide hz
                have HTW := hide (show twoI x z = (decide (0 < x.itm) && (z.itm == x.itm) && !((x.st == 4) && (z.st == 4) && (x.vol == z.vol))) from rfl)
                clear hz hA
                cases s1 : (z.itm == x.itm) with
                | false =>
                  have HN := hide (seN_step HZ.out HAJ.out (by rw [HTW.out, HQI.out, s1]; rfl))
                  go_wp2
                  go_roundw
                  case rel => exact ⟨j + 1, by omega, by go_num, HN.out, Z5.out.alloc Z5.out.size _⟩
                  case measure => simp [intOf]; omega
                | true =>
                  cases s2 : (x.st == 4) with
                  | false =>
                    have HR := hide (show okSe s = false by
                      rw [HK.out, HST.out, HKI.out, show (s.iu.take k).any (twoI x) = true from List.any_eq_true.2 ⟨z, List.mem_of_getElem? (show (s.iu.take k)[j]? = some z by rw [List.getElem?_take, if_pos hjk]; exact HZ.out), by rw [HTW.out, HQI.out, s1, s2]; rfl⟩]; simp)
                    go_wp2
                    go_ret
                    exact ⟨ret_bool HR.out.symm, B5.out.alloc B5.out.size _⟩
                  | true =>
                    cases s3 : (z.st == 4) with
                    | false =>
                      have HR := hide (show okSe s = false by
                        rw [HK.out, HST.out, HKI.out, show (s.iu.take k).any (twoI x) = true from List.any_eq_true.2 ⟨z, List.mem_of_getElem? (show (s.iu.take k)[j]? = some z by rw [List.getElem?_take, if_pos hjk]; exact HZ.out), by rw [HTW.out, HQI.out, s1, s2, s3]; rfl⟩]; simp)
                      go_wp2
                      go_ret
                      exact ⟨ret_bool HR.out.symm, B5.out.alloc B5.out.size _⟩
                    | true =>
                      cases s4 : (x.vol == z.vol) with
                      | false =>
                        have HR := hide (show okSe s = false by
                          rw [HK.out, HST.out, HKI.out, show (s.iu.take k).any (twoI x) = true from List.any_eq_true.2 ⟨z, List.mem_of_getElem? (show (s.iu.take k)[j]? = some z by rw [List.getElem?_take, if_pos hjk]; exact HZ.out), by rw [HTW.out, HQI.out, s1, s2, s3, s4]; rfl⟩]; simp)
                        go_wp2
                        go_ret
                        exact ⟨ret_bool HR.out.symm, B5.out.alloc B5.out.size _⟩
                      | true =>
                        have HN := hide (seN_step HZ.out HAJ.out (by rw [HTW.out, HQI.out, s1, s2, s3, s4]; rfl))
                        go_wp2
                        go_roundw
                        case rel => exact ⟨j + 1, by omega, by go_num, HN.out, Z5.out.alloc Z5.out.size _⟩
                        case measure => simp [intOf]; omega
              · have hjz : ¬ (j : Int) < (k : Int) := by omega
                have HKO := hide (show okI (s.iu.take k) x y = true by
                  have k1 := f1
                  have k2 := f2
                  have k4 := f4
                  have k5 := f5
                  rw [decide_eq_false_iff_not] at k1 k2 k4 k5
                  rw [HKI.out, show (s.iu.take k).any (twoI x) = false by
                    rw [List.any_eq_false]
                    intro u hu h
                    have := HAJ.out u (by rwa [show j = k by omega])
                    rw [this] at h; cases h]
                  simp; omega)
                have HNX := hide (show okIs [] (s.iu.zip L) = okIs (s.iu.take (k + 1)) ((s.iu.zip L).drop (k + 1)) by rw [HST.out, HKO.out]; rfl)
                have Z7 := hide (Z4.out.trans (Z5.out.mono Z4.out.size))
                go_wp2
                go_roundw
                case rel => exact ⟨k + 1, by omega, by go_num, HNX.out, Z7.out⟩
                case measure => simp [intOf]; omega
    · have hkz : ¬ (k : Int) < (L.length : Int) := by have := HLM.out; omega
      have HR := hide (show okSe s = true by
        rw [HK.out, HAK.out, List.drop_of_length_le (by rw [List.length_zip, HLM.out]; omega)]; rfl)
      go_wp2
      go_ret
      exact ⟨ret_bool HR.out.symm, BW.out⟩
end Go.Proofs.YtbhndfphegflhaaGreat
