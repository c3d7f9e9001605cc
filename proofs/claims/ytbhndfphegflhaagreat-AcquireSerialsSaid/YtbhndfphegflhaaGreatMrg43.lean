/- Texts laid together by merge.py: SeD. -/
import Derived.Test.YtbhndfphegflhaaGreatMrg34
import Derived.BigGuardPart
set_option linter.unusedSimpArgs false
set_option linter.unusedVariables false
/- Right of a subscription (program). Printed by gen_se_d.py. -/
namespace Go.Proofs.YtbhndfphegflhaaGreat
open Go.RowKit

set_option maxRecDepth 100000 in
set_option maxHeartbeats 16000000 in
theorem sright_any (s : Se) (w : World) (hs : SeS w w.heap.size s) :
    Calls Tryz.prog 55 #[seV s] w fun e w' => e = .returned (.int .i64 (seErr s)) ∧ Below w.heap.size w w' := by
  have B0 := hide ((Below.refl w.heap.size w).alloc (Nat.le_refl _) (.cells (seC s) 76))
  have X0 := hide (Box.new w 76 (seC s))
  have HS := hide hs
  have hlen := hs.iu.len
  have hbig := hs.iu.big
  have hcap := hs.iu.le
  have HP := hide (pright36_any (sePt s) _ ((hs.pt.below B0.out).more B0.out.size))
  have HRC := hide (fun W => swin_any s.rcd 1 9999 W)
  unfold ptV sePt at HP
  clear hs
  cases h1 : winB s.rcd 1 9999 with
  | false =>
    have HR := hide (show seErr s = 2 by unfold seErr; rw [if_pos h1])
    rw [h1] at HRC
    unfold seV
    go_enter Tryz.func55, Tryz.ntmps55
    go_wp2_with (go_at_call 110; refine (HRC.out _).mono ?_; rintro e w' ⟨rfl, rfl⟩)
    go_ret
    exact ⟨ret_int HR.out.symm, B0.out⟩
  | true =>
  have H1 := hide h1
  rw [h1] at HRC
  clear h1
  obtain ⟨m1, hm1⟩ : ∃ m, ptErr (sePt s) = m := ⟨_, rfl⟩
  have HM1 := hide hm1
  unfold sePt at hm1
  rw [hm1] at HP
  clear hm1
  unfold seV
  go_enter Tryz.func55, Tryz.ntmps55
  go_wp2_with (go_at_call 110; refine (HRC.out _).mono ?_; rintro e w' ⟨rfl, rfl⟩)
  refine HP.out.mono ?_
  rintro e w1 ⟨rfl, hb⟩
  have B1 := hide (B0.out.trans (hb.mono B0.out.size))
  have X1 := hide (X0.out.below hb (by simp))
  have q0 := X1.out.cell 0
  have q1 := X1.out.cell 1
  have q2 := X1.out.cell 2
  have q3 := X1.out.cell 3
  have q4 := X1.out.cell 4
  have q5 := X1.out.cell 5
  have q6 := X1.out.cell 6
  have q7 := X1.out.cell 7
  have q8 := X1.out.cell 8
  simp at q0 q1 q2 q3 q4 q5 q6 q7 q8
  clear hb HP HRC
  by_cases hz1 : (m1 != 0) = true
  · have HR := hide (show seErr s = m1 by
      unfold seErr
      rw [H1.out, if_neg (by decide), HM1.out, if_pos hz1])
    go_wp2
    go_ret
    exact ⟨ret_int HR.out.symm, B1.out⟩
  have hz1' : (m1 != 0) = false := by simpa using hz1
  have hM : PtM (sePt s) := ptErr_M (by rw [HM1.out]; simpa using hz1)
  have HM := hide hM
  have HE := hide (show seErr s = if 128 < s.iu.length then 13 else if winB s.nx 0 5000 = false then 2 else if okSe s = true then 0 else 1 by
    unfold seErr
    rw [H1.out, if_neg (by decide), HM1.out, hz1', if_neg (by decide)])
  clear hz1 hM
  by_cases h128 : 128 < s.iun
  · have HR := hide (show seErr s = 13 by rw [HE.out, if_pos (by omega)])
    have hz : (128 : Int) < (s.iun : Int) := by omega
    clear HE hlen
    go_wp2
    go_ret
    exact ⟨ret_int HR.out.symm, B1.out⟩
  have hz : ¬ (128 : Int) < (s.iun : Int) := by omega
  have HE2 := hide (show seErr s = if winB s.nx 0 5000 = false then 2 else if okSe s = true then 0 else 1 by rw [HE.out, if_neg (by omega)])
  have h128 : s.iun ≤ 128 := by omega
  have H128 := hide h128
  have HLEN := hide hlen
  have HNXW := hide (fun W => swin_any s.nx 0 5000 W)
  clear HE h128 hlen
  cases hnx : winB s.nx 0 5000 with
  | false =>
    have HR := hide (show seErr s = 2 by rw [HE2.out, if_pos hnx])
    rw [hnx] at HNXW
    clear HE2 hnx
    go_wp2_with (go_at_call 110; refine (HNXW.out _).mono ?_; rintro e w' ⟨rfl, rfl⟩)
    go_ret
    exact ⟨ret_int HR.out.symm, B1.out⟩
  | true =>
  have HE3 := hide (show seErr s = if okSe s = true then 0 else 1 by rw [HE2.out, hnx, if_neg (by decide)])
  have HKE := hide (show okSe s = false → seErr s = 1 from fun h => by rw [HE3.out, h]; rfl)
  obtain ⟨m, hm⟩ : ∃ m : Nat, s.nx = (m : Int) := ⟨s.nx.toNat, by unfold winB at hnx; simp at hnx; omega⟩
  have HM5 := hide (show m ≤ 5000 by unfold winB at hnx; simp at hnx; omega)
  rw [hnx] at HNXW
  clear HE2 hnx
  have HIS := hide (slist_any (sePt s) s.iun w1 HM.out ((HS.out.pt.below B1.out).more B1.out.size) (by have := H128.out; omega))
  have HLT := hide (show s.iun = m → (isL (sePt s) 109572 5000 (ps0 (sePt s))).take s.iun = issN s by
    intro h
    unfold issN
    rw [hm, h, Int.toNat_natCast, ← isL_take _ _ _ _ _ HM5.out])
  have HNEW := hide (show ∀ y ∈ (isL (sePt s) 109572 5000 (ps0 (sePt s))).take s.iun, y.st = 1 ∧ y.itm = 0 from fun y hy => isL_new _ _ _ _ y (List.mem_of_mem_take hy))
  have HLL := hide (show ((isL (sePt s) 109572 5000 (ps0 (sePt s))).take s.iun).length ≤ s.iun by rw [List.length_take]; omega)
  obtain ⟨L, hL⟩ : ∃ L, (isL (sePt s) 109572 5000 (ps0 (sePt s))).take s.iun = L := ⟨_, rfl⟩
  rw [hL] at HIS HLT HNEW HLL
  have hK := hide (show okSe s = (((s.iu.length : Int) == s.nx) && (((issN s).length : Int) == s.nx) && okIs [] (s.iu.zip (issN s))) from rfl)
  clear hL
  unfold ptV sePt at HIS
  rw [hm] at hK HNXW q7
  rw [HLEN.out] at hK
  have HMX := hide hm
  clear hm HM HM1
  go_wp2_with (go_at_call 110; refine (HNXW.out _).mono ?_; rintro e w' ⟨rfl, rfl⟩)
  refine HIS.out.mono ?_
  rintro e w2 ⟨A1, c1, rfl, hsl, hb⟩
  have HSL := hide hsl
  have B2 := hide (B1.out.trans (hb.mono B1.out.size))
  have X2 := hide (X1.out.below hb X1.out.lt)
  clear hb hsl HIS B1 X1 q0 q1 q2 q3 q4 q5 q6 q7 q8 hz HNXW
  have q7 := X2.out.cell 7
  have q8 := X2.out.cell 8
  simp at q7 q8
  rw [HMX.out] at q7
  by_cases hn1 : ((s.iun : Int) != (m : Int)) = true
  · have HR := hide (show seErr s = 1 by
      rw [HKE.out (show okSe s = false by
        rw [hK.out, show ((s.iun : Int) == (m : Int)) = false by simpa using hn1]; rfl)])
    go_wp2
    go_ret
    exact ⟨ret_int HR.out.symm, B2.out⟩
  have hn1' : ((s.iun : Int) != (m : Int)) = false := by simpa using hn1
  have hnm : s.iun = m := by simp at hn1; omega
  rw [← HLT.out hnm] at hK
  clear hn1
  by_cases hn2 : ((L.length : Int) != (m : Int)) = true
  · have HR := hide (show seErr s = 1 by
      rw [HKE.out (show okSe s = false by
        rw [hK.out, show ((L.length : Int) == (m : Int)) = false by simpa using hn2]; simp)])
    clear hnm
    go_wp2
    go_ret
    exact ⟨ret_int HR.out.symm, B2.out⟩
  have hn2' : ((L.length : Int) != (m : Int)) = false := by simpa using hn2
  have hlm : L.length = m := by simp at hn2; omega
  have HK := hide (show okSe s = okIs [] (s.iu.zip L) by
    rw [hK.out, show ((s.iun : Int) == (m : Int)) = true by rw [hnm]; simp, show ((L.length : Int) == (m : Int)) = true by rw [hlm]; simp]; rfl)
  have HNM := hide hnm
  have HLM := hide hlm
  clear hn2 hnm hlm hK HLT
  go_wp2
  have HQ7 := hide hn1'
  clear hn1' hn2' q7 q8
  go_loopw [5, 6, 7, 9, 10, 51] (fun _ _ _ _ _ s51 wr => ∃ k : Nat, k ≤ m ∧ s51 = .int .i64 k ∧ okIs [] (s.iu.zip L) = okIs (s.iu.take k) ((s.iu.zip L).drop k) ∧ Below w2.heap.size w2 wr) (fun _ _ _ _ _ s51 _ => m - (intOf s51).toNat)
  case atStart => exact ⟨0, Nat.zero_le _, rfl, rfl, Below.refl _ _⟩
  case round =>
    obtain ⟨k, hk, rfl, ha, hb⟩ := hrel
    have HAK := hide ha
    have Z1 := hide hb
    have BW := hide (B2.out.trans (hb.mono B2.out.size))
    have X2 := hide (X2.out.below hb X2.out.lt)
    have q8 := X2.out.cell 8
    simp at q8
    clear ha hb B2
    by_cases hlt : k < m
    · have hkz : (k : Int) < (m : Int) := by omega
      obtain ⟨b, off, x, hA, hbB, hx, c0, c1', c2, c3, c4, c5⟩ := Ius_at (HS.out.iu.below BW.out) (k := k) (by have := HNM.out; omega)
      have hkn : (k : Int) < (s.iun : Int) := by have := HNM.out; omega
      have HAX := hide hA
      have Z2 := hide ((Z1.out.alloc Z1.out.size (.cells #[.int .i64 x.vol, .int .i64 x.num, .int .i64 x.last, .int .i64 x.day, .int .i64 x.st, .int .i64 x.itm] 122)).alloc (by simp; have := Z1.out.size; omega) (.cells #[.int .i64 x.vol, .int .i64 x.num, .int .i64 x.last, .int .i64 x.day, .int .i64 1, .int .i64 0] 122))
      have B2 := hide ((BW.out.alloc BW.out.size (.cells #[.int .i64 x.vol, .int .i64 x.num, .int .i64 x.last, .int .i64 x.day, .int .i64 x.st, .int .i64 x.itm] 122)).alloc (by simp; have := BW.out.size; omega) (.cells #[.int .i64 x.vol, .int .i64 x.num, .int .i64 x.last, .int .i64 x.day, .int .i64 1, .int .i64 0] 122))
      have hxl := X2.out.lt
      have Y1 := hide (Box.new wr 122 (iuC x))
      have V3 := hide (Box.new (wr.alloc (.cells #[.int .i64 x.vol, .int .i64 x.num, .int .i64 x.last, .int .i64 x.day, .int .i64 x.st, .int .i64 x.itm] 122)) 122 #[.int .i64 x.vol, .int .i64 x.num, .int .i64 x.last, .int .i64 x.day, .int .i64 1, .int .i64 0])
      have hv : (wr.alloc (.cells #[.int .i64 x.vol, .int .i64 x.num, .int .i64 x.last, .int .i64 x.day, .int .i64 x.st, .int .i64 x.itm] 122)).heap.size = wr.heap.size + 1 := by simp
      rw [hv] at V3
      have X3 := hide ((X2.out.alloc (.cells #[.int .i64 x.vol, .int .i64 x.num, .int .i64 x.last, .int .i64 x.day, .int .i64 x.st, .int .i64 x.itm] 122)).alloc (.cells #[.int .i64 x.vol, .int .i64 x.num, .int .i64 x.last, .int .i64 x.day, .int .i64 1, .int .i64 0] 122))
      have Y3 := hide (Y1.out.alloc (.cells #[.int .i64 x.vol, .int .i64 x.num, .int .i64 x.last, .int .i64 x.day, .int .i64 1, .int .i64 0] 122))
      rw [hA] at q8 ⊢
      clear hA
      go_upto_region 18 with fail
      obtain ⟨W2, hW2⟩ : ∃ W2, W2 = (wr.alloc (.cells #[.int .i64 x.vol, .int .i64 x.num, .int .i64 x.last, .int .i64 x.day, .int .i64 x.st, .int .i64 x.itm] 122)).alloc (.cells #[.int .i64 x.vol, .int .i64 x.num, .int .i64 x.last, .int .i64 x.day, .int .i64 1, .int .i64 0] 122) := ⟨_, rfl⟩
      rw [← hW2] at Z2 B2 X3 Y3 V3 ⊢
      obtain ⟨b', off', y, hA', hbB', hy, d0, d1, d2, d3, d4, d5⟩ := Ius_at (HSL.out.below Z2.out) (k := k) (by have := HLM.out; omega)
      subst hA'
      have HYN := hide (HNEW.out y (List.mem_of_getElem? hy))
      have HST := hide (show okIs [] (s.iu.zip L) = (okI (s.iu.take k) x y && okIs (s.iu.take (k + 1)) ((s.iu.zip L).drop (k + 1))) by rw [HAK.out, iss_step hx hy])
      have HKI := hide (okI_prog (P := s.iu.take k) (x := x) HYN.out)
      have HHS := hide (fun W => shas_any x W)
      have HST1 := hide (fun W => swin_any x.st 1 5 W)
      have HIT1 := hide (fun W => swin_any x.itm 1 9999 W)
      have hne := fun W => iu_neq (forI x) y W
      have l0 := V3.out.cell 0
      have l1 := V3.out.cell 1
      have l2 := V3.out.cell 2
      have l3 := V3.out.cell 3
      have l4 := V3.out.cell 4
      have l5 := V3.out.cell 5
      have k0 := Y3.out.cell 0
      have k1 := Y3.out.cell 1
      have k2 := Y3.out.cell 2
      have k3 := Y3.out.cell 3
      have k4 := Y3.out.cell 4
      have k5 := Y3.out.cell 5
      simp at l0 l1 l2 l3 l4 l5 k0 k1 k2 k3 k4 k5
      have v0 := Grn.cell l0
      have v1 := Grn.cell l1
      have v2 := Grn.cell l2
      have v3 := Grn.cell l3
      have v4 := Grn.cell l4
      have v5 := Grn.cell l5
      have g0 := Grn.cell k0
      have g1 := Grn.cell k1
      have g2 := Grn.cell k2
      have g3 := Grn.cell k3
      have g4 := Grn.cell k4
      have g5 := Grn.cell k5
      have e0 := Grn.cell d0
      have e1 := Grn.cell d1
      have e2 := Grn.cell d2
      have e3 := Grn.cell d3
      have e4 := Grn.cell d4
      have e5 := Grn.cell d5
      have hkl : (k : Int) < (L.length : Int) := by have := HLM.out; omega
      obtain ⟨qn, hqn⟩ : ∃ q, decide (forI x = y) = q := ⟨_, rfl⟩
      obtain ⟨qw, hqw⟩ : ∃ q, winB x.st 1 5 = q := ⟨_, rfl⟩
      rw [hqn, hqw] at HKI
      rw [hqw] at HST1
      simp only [hqn] at hne
      unfold iuV forI at hne
      unfold iuV at HHS
      clear hx hy hqn hqw c0 c1' c2 c3 c4 c5 q8 Z1 BW X2 hW2 l0 l1 l2 l3 l4 l5 k0 k1 k2 k3 k4 k5 d0 d1 d2 d3 d4 d5 Y1 V3 hv
      cases qn with
      | false =>
        have HR := hide (show seErr s = 1 by rw [HKE.out (show okSe s = false by rw [HK.out, HST.out, HKI.out]; simp)])
        clear HLM HNM
        refine wp_region_grn (by kernel_rfl) (by kernel_rfl) ?_
        repeat (go_big_quiet_step ((go_at_call 110; exact Calls_grn_same (HST1.out _))))
        refine wpQuiet_nil ?_
        rintro _ ⟨q, rfl⟩
        have B4 := hide (B2.out.trans (q.h.mono B2.out.size))
        go_wp2
        go_ret
        exact ⟨ret_int HR.out.symm, B4.out⟩
      | true =>
        cases qw with
        | false =>
          have HR := hide (show seErr s = 1 by rw [HKE.out (show okSe s = false by rw [HK.out, HST.out, HKI.out]; simp)])
          clear HLM HNM
          refine wp_region_grn (by kernel_rfl) (by kernel_rfl) ?_
          repeat (go_big_quiet_step ((go_at_call 110; exact Calls_grn_same (HST1.out _))))
          refine wpQuiet_nil ?_
          rintro _ ⟨q, rfl⟩
          have B4 := hide (B2.out.trans (q.h.mono B2.out.size))
          go_wp2
          go_ret
          exact ⟨ret_int HR.out.symm, B4.out⟩
        | true =>
          refine wp_region_grn (by kernel_rfl) (by kernel_rfl) ?_
          repeat (go_big_quiet_step ((go_at_call 110; exact Calls_grn_same (HST1.out _))))
          refine wpQuiet_nil ?_
          rintro _ ⟨q, rfl⟩
          obtain ⟨W3, hW3⟩ : ∃ W3, W3 = q.W := ⟨_, rfl⟩
          have B3 := hide (B2.out.trans (q.h.mono B2.out.size))
          have Z3 := hide (Z2.out.trans (q.h.mono Z2.out.size))
          have X3 := hide (X3.out.below q.h X3.out.lt)
          have Y3 := hide (Y3.out.below q.h Y3.out.lt)
          rw [← hW3] at B3 Z3 X3 Y3 ⊢
          clear hW3 v0 v1 v2 v3 v4 v5 g0 g1 g2 g3 g4 g5 e0 e1 e2 e3 e4 e5 B2 Z2 q
          have k0 := Y3.out.cell 0
          have k1 := Y3.out.cell 1
          have k2 := Y3.out.cell 2
          have k3 := Y3.out.cell 3
          have k4 := Y3.out.cell 4
          have k5 := Y3.out.cell 5
          simp at k0 k1 k2 k3 k4 k5
          have hy3 := Y3.out.lt
          have j0 := fun o => (World.cell?_alloc_lt W3 o _ (show Addr.block ⟨_, 0, none⟩ < _ from hy3)).trans k0
          have j1 := fun o => (World.cell?_alloc_lt W3 o _ (show Addr.block ⟨_, 1, none⟩ < _ from hy3)).trans k1
          have j2 := fun o => (World.cell?_alloc_lt W3 o _ (show Addr.block ⟨_, 2, none⟩ < _ from hy3)).trans k2
          have j3 := fun o => (World.cell?_alloc_lt W3 o _ (show Addr.block ⟨_, 3, none⟩ < _ from hy3)).trans k3
          have j4 := fun o => (World.cell?_alloc_lt W3 o _ (show Addr.block ⟨_, 4, none⟩ < _ from hy3)).trans k4
          have j5 := fun o => (World.cell?_alloc_lt W3 o _ (show Addr.block ⟨_, 5, none⟩ < _ from hy3)).trans k5
          have i5 := fun o o' => (World.cell?_alloc_lt (W3.alloc o) o' _ (show Addr.block ⟨_, 5, none⟩ < _ from (by simp; exact Nat.lt_succ_of_lt hy3))).trans (j5 o)
          go_upto_region 20 with fail
          obtain ⟨qh, hqh⟩ : ∃ q, hasI x = q := ⟨_, rfl⟩
          obtain ⟨qi, hqi⟩ : ∃ q, winB x.itm 1 9999 = q := ⟨_, rfl⟩
          have HIX := hide (show itmB x = ((qh && !qi) || (!qh && (x.itm != 0))) by rw [← hqh, ← hqi]; rfl)
          have HZW := hide (show qi = true → (x.itm != 0) = true by
            intro h; rw [h] at hqi; unfold winB at hqi; simp at hqi ⊢; omega)
          rw [hqh] at HHS
          rw [hqi] at HIT1
          clear hqh hqi
          obtain ⟨qz, hqz⟩ : ∃ q, (x.itm != 0) = q := ⟨_, rfl⟩
          have HQZ := hide hqz
          rw [hqz] at HIX HZW
          cases qh with
          | true =>
            cases qi with
            | true =>
              have e := HZW.out rfl
              subst e
              have HIX := hide (show itmB x = false from HIX.out)
              have HIB := hide (show itmB x = false from HIX.out)
              rw [HIB.out] at HKI
              go_upto_region 22 with (first | (go_at_call 110; refine (HIT1.out _).mono ?_; rintro e w' ⟨rfl, rfl⟩) | (go_at_call 113; refine (HHS.out _).mono ?_; rintro e w' ⟨rfl, rfl⟩))
              have B4 := hide ((B3.out.alloc B3.out.size (.cells #[.int .i64 x.vol, .int .i64 x.num, .int .i64 x.last, .int .i64 x.day, .int .i64 x.st, .int .i64 x.itm] 122)).alloc (by simp; have := B3.out.size; omega) (.cells #[.int .i64 x.vol, .int .i64 x.num, .int .i64 x.last, .int .i64 x.day, .int .i64 x.st, .int .i64 x.itm] 122))
              have Z4 := hide ((Z3.out.alloc Z3.out.size (.cells #[.int .i64 x.vol, .int .i64 x.num, .int .i64 x.last, .int .i64 x.day, .int .i64 x.st, .int .i64 x.itm] 122)).alloc (by simp; have := Z3.out.size; omega) (.cells #[.int .i64 x.vol, .int .i64 x.num, .int .i64 x.last, .int .i64 x.day, .int .i64 x.st, .int .i64 x.itm] 122))
              have X4 := hide ((X3.out.alloc (.cells #[.int .i64 x.vol, .int .i64 x.num, .int .i64 x.last, .int .i64 x.day, .int .i64 x.st, .int .i64 x.itm] 122)).alloc (.cells #[.int .i64 x.vol, .int .i64 x.num, .int .i64 x.last, .int .i64 x.day, .int .i64 x.st, .int .i64 x.itm] 122))
              have Y4 := hide ((Y3.out.alloc (.cells #[.int .i64 x.vol, .int .i64 x.num, .int .i64 x.last, .int .i64 x.day, .int .i64 x.st, .int .i64 x.itm] 122)).alloc (.cells #[.int .i64 x.vol, .int .i64 x.num, .int .i64 x.last, .int .i64 x.day, .int .i64 x.st, .int .i64 x.itm] 122))
              obtain ⟨W4, hW4⟩ : ∃ W4, W4 = (W3.alloc (.cells #[.int .i64 x.vol, .int .i64 x.num, .int .i64 x.last, .int .i64 x.day, .int .i64 x.st, .int .i64 x.itm] 122)).alloc (.cells #[.int .i64 x.vol, .int .i64 x.num, .int .i64 x.last, .int .i64 x.day, .int .i64 x.st, .int .i64 x.itm] 122) := ⟨_, rfl⟩
              rw [← hW4] at B4 Z4 X4 Y4 ⊢
              clear hW4 k0 k1 k2 k3 k4 k5 j0 j1 j2 j3 j4 j5 i5 B3 Z3 X3 Y3 HHS HST1 HIT1
              have q8 := X4.out.cell 8
              simp at q8
              rw [HAX.out] at q8
              go_wp2
              go_loopw [9, 10, 94] (fun _ _ s94 wr => ∃ j : Nat, j ≤ k ∧ s94 = .int .i64 j ∧ (∀ u ∈ s.iu.take j, twoI x u = false) ∧ Below W4.heap.size W4 wr) (fun _ _ s94 _ => k - (intOf s94).toNat)
              case atStart => exact ⟨0, Nat.zero_le _, rfl, by simp, Below.refl _ _⟩
              case round =>
                obtain ⟨j, hj, rfl, ha, hb⟩ := hrel
                have HAJ := hide ha
                have B5 := hide (B4.out.trans (hb.mono B4.out.size))
                have Z5 := hide hb
                have X5 := hide (X4.out.below hb X4.out.lt)
                have Y5 := hide (Y4.out.below hb Y4.out.lt)
                clear ha hb
                by_cases hjk : j < k
                · have hjz : (j : Int) < (k : Int) := by omega
                  obtain ⟨b3, off3, z, hA3, hbB, hz, c0, c1', c2, c3, c4, c5⟩ := Ius_at (HS.out.iu.below B5.out) (k := j) (by have := HNM.out; omega)
                  rw [HAX.out] at hA3
                  cases hA3
                  have l0 := Y5.out.cell 0
                  have l4 := Y5.out.cell 4
                  have l5 := Y5.out.cell 5
                  simp at l0 l4 l5
                  have hg5 := Y5.out.lt
                  have a0 := fun o => (World.cell?_alloc_lt wr o _ (show Addr.block ⟨_, 0, none⟩ < _ from hg5)).trans l0
                  have a4 := fun o => (World.cell?_alloc_lt wr o _ (show Addr.block ⟨_, 4, none⟩ < _ from hg5)).trans l4
                  have a5 := fun o => (World.cell?_alloc_lt wr o _ (show Addr.block ⟨_, 5, none⟩ < _ from hg5)).trans l5
                  have B6 := hide (B5.out.alloc B5.out.size (.cells (iuC z) 122))
                  have Z6 := hide (Z5.out.alloc Z5.out.size (.cells (iuC z) 122))
                  have HZ := hide hz
                  have HZT := hide (show (s.iu.take k)[j]? = some z by rw [List.getElem?_take_of_lt hjk]; exact hz)
                  have HTW := hide (show twoI x z = (true && (x.itm == z.itm) && !((x.st == 4) && (z.st == 4) && (x.vol == z.vol))) by rw [twoI_prog HIB.out, HQZ.out])
                  clear hz
                  cases ha : (x.st == 4) with
                  | true =>
                    cases hb4 : (z.st == 4) with
                    | true =>
                      cases hc : (x.vol == z.vol) with
                      | true =>
                        cases he : (x.itm == z.itm) with
                        | true =>
                          have HN := hide (seN_step HZ.out HAJ.out (by rw [HTW.out, ha, hb4, hc, he]; rfl))
                          go_wp2
                          go_roundw
                          case rel => exact ⟨j + 1, by omega, by go_num, HN.out, Z6.out⟩
                          case measure => simp [intOf]; omega
                        | false =>
                          have HN := hide (seN_step HZ.out HAJ.out (by rw [HTW.out, ha, hb4, hc, he]; rfl))
                          go_wp2
                          go_roundw
                          case rel => exact ⟨j + 1, by omega, by go_num, HN.out, Z6.out⟩
                          case measure => simp [intOf]; omega
                      | false =>
                        cases he : (x.itm == z.itm) with
                        | true =>
                          have HR := hide (show seErr s = 1 by
                            rw [HKE.out (show okSe s = false by
                              rw [HK.out, HST.out, HKI.out, show (s.iu.take k).any (twoI x) = true from List.any_eq_true.2 ⟨z, List.mem_of_getElem? HZT.out, by rw [HTW.out, ha, hb4, hc, he]; rfl⟩]; simp)])
                          clear HLM HNM
                          go_wp2
                          go_ret
                          exact ⟨ret_int HR.out.symm, B6.out⟩
                        | false =>
                          have HN := hide (seN_step HZ.out HAJ.out (by rw [HTW.out, ha, hb4, hc, he]; rfl))
                          go_wp2
                          go_roundw
                          case rel => exact ⟨j + 1, by omega, by go_num, HN.out, Z6.out⟩
                          case measure => simp [intOf]; omega
                    | false =>
                      cases he : (x.itm == z.itm) with
                      | true =>
                        have HR := hide (show seErr s = 1 by
                          rw [HKE.out (show okSe s = false by
                            rw [HK.out, HST.out, HKI.out, show (s.iu.take k).any (twoI x) = true from List.any_eq_true.2 ⟨z, List.mem_of_getElem? HZT.out, by rw [HTW.out, ha, hb4, he]; rfl⟩]; simp)])
                        clear HLM HNM
                        go_wp2
                        go_ret
                        exact ⟨ret_int HR.out.symm, B6.out⟩
                      | false =>
                        have HN := hide (seN_step HZ.out HAJ.out (by rw [HTW.out, ha, hb4, he]; rfl))
                        go_wp2
                        go_roundw
                        case rel => exact ⟨j + 1, by omega, by go_num, HN.out, Z6.out⟩
                        case measure => simp [intOf]; omega
                  | false =>
                    cases he : (x.itm == z.itm) with
                    | true =>
                      have HR := hide (show seErr s = 1 by
                        rw [HKE.out (show okSe s = false by
                          rw [HK.out, HST.out, HKI.out, show (s.iu.take k).any (twoI x) = true from List.any_eq_true.2 ⟨z, List.mem_of_getElem? HZT.out, by rw [HTW.out, ha, he]; rfl⟩]; simp)])
                      clear HLM HNM
                      go_wp2
                      go_ret
                      exact ⟨ret_int HR.out.symm, B6.out⟩
                    | false =>
                      have HN := hide (seN_step HZ.out HAJ.out (by rw [HTW.out, ha, he]; rfl))
                      go_wp2
                      go_roundw
                      case rel => exact ⟨j + 1, by omega, by go_num, HN.out, Z6.out⟩
                      case measure => simp [intOf]; omega
                · have hjz : ¬ (j : Int) < (k : Int) := by omega
                  have HNX := hide (show okIs [] (s.iu.zip L) = okIs (s.iu.take (k + 1)) ((s.iu.zip L).drop (k + 1)) by
                    rw [HST.out, HKI.out, show (s.iu.take k).any (twoI x) = false by
                      rw [List.any_eq_false]
                      intro u hu h
                      have := HAJ.out u (by rwa [show j = k by omega])
                      rw [this] at h; cases h]
                    simp)
                  have Z7 := hide (Z4.out.trans (Z5.out.mono Z4.out.size))
                  go_wp2
                  go_roundw
                  case rel => exact ⟨k + 1, by omega, by go_num, HNX.out, Z7.out⟩
                  case measure => simp [intOf]; omega
            | false =>
              have HIX := hide (show itmB x = true from HIX.out)
              have HR := hide (show seErr s = 1 by rw [HKE.out (show okSe s = false by rw [HK.out, HST.out, HKI.out, HIX.out]; simp)])
              clear HLM HNM
              go_wp2_with (first | (go_at_call 110; refine (HIT1.out _).mono ?_; rintro e w' ⟨rfl, rfl⟩) | (go_at_call 113; refine (HHS.out _).mono ?_; rintro e w' ⟨rfl, rfl⟩))
              go_ret
              exact ⟨ret_int HR.out.symm, by first | exact (B3.out.alloc B3.out.size _) | exact ((B3.out.alloc B3.out.size _).alloc (by simp; have := B3.out.size; omega) _)⟩
          | false =>
            cases qz with
            | true =>
              have HIX := hide (show itmB x = true by rw [HIX.out]; simp)
              have HR := hide (show seErr s = 1 by rw [HKE.out (show okSe s = false by rw [HK.out, HST.out, HKI.out, HIX.out]; simp)])
              clear HLM HNM
              go_wp2_with (first | (go_at_call 110; refine (HIT1.out _).mono ?_; rintro e w' ⟨rfl, rfl⟩) | (go_at_call 113; refine (HHS.out _).mono ?_; rintro e w' ⟨rfl, rfl⟩))
              go_ret
              exact ⟨ret_int HR.out.symm, by first | exact (B3.out.alloc B3.out.size _) | exact ((B3.out.alloc B3.out.size _).alloc (by simp; have := B3.out.size; omega) _)⟩
            | false =>
              have HIX := hide (show itmB x = false by rw [HIX.out]; simp)
              have HIB := hide (show itmB x = false from HIX.out)
              rw [HIB.out] at HKI
              go_upto_region 22 with (first | (go_at_call 110; refine (HIT1.out _).mono ?_; rintro e w' ⟨rfl, rfl⟩) | (go_at_call 113; refine (HHS.out _).mono ?_; rintro e w' ⟨rfl, rfl⟩))
              have B4 := hide ((B3.out.alloc B3.out.size (.cells #[.int .i64 x.vol, .int .i64 x.num, .int .i64 x.last, .int .i64 x.day, .int .i64 x.st, .int .i64 x.itm] 122)).alloc (by simp; have := B3.out.size; omega) (.cells #[.int .i64 x.vol, .int .i64 x.num, .int .i64 x.last, .int .i64 x.day, .int .i64 x.st, .int .i64 x.itm] 122))
              have Z4 := hide ((Z3.out.alloc Z3.out.size (.cells #[.int .i64 x.vol, .int .i64 x.num, .int .i64 x.last, .int .i64 x.day, .int .i64 x.st, .int .i64 x.itm] 122)).alloc (by simp; have := Z3.out.size; omega) (.cells #[.int .i64 x.vol, .int .i64 x.num, .int .i64 x.last, .int .i64 x.day, .int .i64 x.st, .int .i64 x.itm] 122))
              have X4 := hide ((X3.out.alloc (.cells #[.int .i64 x.vol, .int .i64 x.num, .int .i64 x.last, .int .i64 x.day, .int .i64 x.st, .int .i64 x.itm] 122)).alloc (.cells #[.int .i64 x.vol, .int .i64 x.num, .int .i64 x.last, .int .i64 x.day, .int .i64 x.st, .int .i64 x.itm] 122))
              have Y4 := hide ((Y3.out.alloc (.cells #[.int .i64 x.vol, .int .i64 x.num, .int .i64 x.last, .int .i64 x.day, .int .i64 x.st, .int .i64 x.itm] 122)).alloc (.cells #[.int .i64 x.vol, .int .i64 x.num, .int .i64 x.last, .int .i64 x.day, .int .i64 x.st, .int .i64 x.itm] 122))
              obtain ⟨W4, hW4⟩ : ∃ W4, W4 = (W3.alloc (.cells #[.int .i64 x.vol, .int .i64 x.num, .int .i64 x.last, .int .i64 x.day, .int .i64 x.st, .int .i64 x.itm] 122)).alloc (.cells #[.int .i64 x.vol, .int .i64 x.num, .int .i64 x.last, .int .i64 x.day, .int .i64 x.st, .int .i64 x.itm] 122) := ⟨_, rfl⟩
              rw [← hW4] at B4 Z4 X4 Y4 ⊢
              clear hW4 k0 k1 k2 k3 k4 k5 j0 j1 j2 j3 j4 j5 i5 B3 Z3 X3 Y3 HHS HST1 HIT1
              have q8 := X4.out.cell 8
              simp at q8
              rw [HAX.out] at q8
              go_wp2
              go_loopw [9, 10, 94] (fun _ _ s94 wr => ∃ j : Nat, j ≤ k ∧ s94 = .int .i64 j ∧ (∀ u ∈ s.iu.take j, twoI x u = false) ∧ Below W4.heap.size W4 wr) (fun _ _ s94 _ => k - (intOf s94).toNat)
              case atStart => exact ⟨0, Nat.zero_le _, rfl, by simp, Below.refl _ _⟩
              case round =>
                obtain ⟨j, hj, rfl, ha, hb⟩ := hrel
                have HAJ := hide ha
                have B5 := hide (B4.out.trans (hb.mono B4.out.size))
                have Z5 := hide hb
                have X5 := hide (X4.out.below hb X4.out.lt)
                have Y5 := hide (Y4.out.below hb Y4.out.lt)
                clear ha hb
                by_cases hjk : j < k
                · have hjz : (j : Int) < (k : Int) := by omega
                  obtain ⟨b3, off3, z, hA3, hbB, hz, c0, c1', c2, c3, c4, c5⟩ := Ius_at (HS.out.iu.below B5.out) (k := j) (by have := HNM.out; omega)
                  rw [HAX.out] at hA3
                  cases hA3
                  have l0 := Y5.out.cell 0
                  have l4 := Y5.out.cell 4
                  have l5 := Y5.out.cell 5
                  simp at l0 l4 l5
                  have hg5 := Y5.out.lt
                  have a0 := fun o => (World.cell?_alloc_lt wr o _ (show Addr.block ⟨_, 0, none⟩ < _ from hg5)).trans l0
                  have a4 := fun o => (World.cell?_alloc_lt wr o _ (show Addr.block ⟨_, 4, none⟩ < _ from hg5)).trans l4
                  have a5 := fun o => (World.cell?_alloc_lt wr o _ (show Addr.block ⟨_, 5, none⟩ < _ from hg5)).trans l5
                  have B6 := hide (B5.out.alloc B5.out.size (.cells (iuC z) 122))
                  have Z6 := hide (Z5.out.alloc Z5.out.size (.cells (iuC z) 122))
                  have HZ := hide hz
                  have HZT := hide (show (s.iu.take k)[j]? = some z by rw [List.getElem?_take_of_lt hjk]; exact hz)
                  have HTW := hide (show twoI x z = (false && (x.itm == z.itm) && !((x.st == 4) && (z.st == 4) && (x.vol == z.vol))) by rw [twoI_prog HIB.out, HQZ.out])
                  clear hz
                  cases ha : (x.st == 4) with
                  | true =>
                    cases hb4 : (z.st == 4) with
                    | true =>
                      cases hc : (x.vol == z.vol) with
                      | true =>
                        have HN := hide (seN_step HZ.out HAJ.out (by rw [HTW.out, ha, hb4, hc]; rfl))
                        go_wp2
                        go_roundw
                        case rel => exact ⟨j + 1, by omega, by go_num, HN.out, Z6.out⟩
                        case measure => simp [intOf]; omega
                      | false =>
                        have HN := hide (seN_step HZ.out HAJ.out (by rw [HTW.out, ha, hb4, hc]; rfl))
                        go_wp2
                        go_roundw
                        case rel => exact ⟨j + 1, by omega, by go_num, HN.out, Z6.out⟩
                        case measure => simp [intOf]; omega
                    | false =>
                      have HN := hide (seN_step HZ.out HAJ.out (by rw [HTW.out, ha, hb4]; rfl))
                      go_wp2
                      go_roundw
                      case rel => exact ⟨j + 1, by omega, by go_num, HN.out, Z6.out⟩
                      case measure => simp [intOf]; omega
                  | false =>
                    have HN := hide (seN_step HZ.out HAJ.out (by rw [HTW.out, ha]; rfl))
                    go_wp2
                    go_roundw
                    case rel => exact ⟨j + 1, by omega, by go_num, HN.out, Z6.out⟩
                    case measure => simp [intOf]; omega
                · have hjz : ¬ (j : Int) < (k : Int) := by omega
                  have HNX := hide (show okIs [] (s.iu.zip L) = okIs (s.iu.take (k + 1)) ((s.iu.zip L).drop (k + 1)) by
                    rw [HST.out, HKI.out, show (s.iu.take k).any (twoI x) = false by
                      rw [List.any_eq_false]
                      intro u hu h
                      have := HAJ.out u (by rwa [show j = k by omega])
                      rw [this] at h; cases h]
                    simp)
                  have Z7 := hide (Z4.out.trans (Z5.out.mono Z4.out.size))
                  go_wp2
                  go_roundw
                  case rel => exact ⟨k + 1, by omega, by go_num, HNX.out, Z7.out⟩
                  case measure => simp [intOf]; omega
    · have hkz : ¬ (k : Int) < (s.iun : Int) := by have := HNM.out; omega
      have HR := hide (show seErr s = 0 by
        rw [HE3.out, HK.out, HAK.out, List.drop_of_length_le (by rw [List.length_zip]; have := HLM.out; omega), okIs]; rfl)
      go_wp2
      go_ret
      exact ⟨ret_int HR.out.symm, BW.out⟩
end Go.Proofs.YtbhndfphegflhaaGreat
