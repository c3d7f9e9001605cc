/- Texts laid together by merge.py: PtC. -/
import Derived.Test.YtbhndfphegflhaaGreatMrg10
import Derived.BigGuardPart
set_option linter.unusedSimpArgs false
set_option linter.unusedVariables false
/- Walks: Issues of the reference. Printed by gen_pt_c.py. -/
namespace Go.Proofs.YtbhndfphegflhaaGreat
open Go.RowKit

theorem own_bel {w w' : World} {B n k : Nat} {t : TypeId} {v : Value} {ys : List Value} (h : w.ownsRow B t k v n ys) (hb : Below w.heap.size w w') : w'.ownsRow B t k v n ys := by
  refine ⟨h.1, ?_⟩
  rcases h.2 with hn | ⟨g, cap, cur, rfl, hbb, hB, h4⟩
  · exact .inl hn
  · exact .inr ⟨g, cap, cur, rfl, hbb, Box.below (g := g) hB hb (Box.lt hB), h4⟩
theorem iu_sl1 {w : World} {g : Nat} {x : Iu} (h : Box w g 122 (iuC x)) : Ius w (g + 1) (some ⟨g, 0, none⟩) 1 1 [x] :=
  Sl.of_box (t := 122) iuE_len (xs := [x]) (show Box w g 122 (([x] : List Iu).flatMap iuE).toArray from h) rfl (Nat.le_refl _) (by omega)
theorem isL_step {p : Pt} {u : Int} {n : Nat} {s : Ps} (h : 0 ≤ s.d ∧ s.d ≤ u ∧ s.vol ≤ 9999) : isL p u (n + 1) s = isuX p s :: isL p u n (psS p s) := by
  rw [isL, if_pos h]
theorem isL_stop {p : Pt} {u : Int} {n : Nat} {s : Ps} (h : ¬ (0 ≤ s.d ∧ s.d ≤ u ∧ s.vol ≤ 9999)) : isL p u n s = [] := by
  cases n with
  | zero => rfl
  | succ n => rw [isL, if_neg h]
def lenV : Value → Nat
  | .slice _ n _ => n
  | _ => 0

set_option maxRecDepth 100000 in
set_option maxHeartbeats 16000000 in
theorem rissues_any (p : Pt) (u : Int) (m : Nat) (w : World) (hp : PtM p) (hs : PtS w w.heap.size p) (hm5 : m ≤ 5000) :
    Calls Tryz.prog 104 #[ptV p, .int .i64 m, .int .i64 u] w fun e w' => ∃ v, e = .returned v ∧ Iuo w' w.heap.size v (isL p u m (ps0 p)) ∧ Below w.heap.size w w' := by
  obtain ⟨i0, hi0, hz0, hz1, hz2⟩ := info_parts iu_info
  have HI0 := hide (And.intro hi0 (And.intro hz0 (And.intro hz1 hz2)))
  have hz5 : (m : Int) ≤ 5000 := by omega
  have B0 := hide ((Below.refl w.heap.size w).alloc (Nat.le_refl _) (.cells (ptC p) 67))
  have Z0 := hide (Below.refl (w.heap.size + 1) (w.alloc (.cells (ptC p) 67)))
  have X0 := hide (Box.new w 67 (ptC p))
  have HFo := hide (fun (j : Nat) (hj : j ≤ 16001) W (hW : Below w.heap.size w W) => rfol_any p j W hp ((hs.below hW).more hW.size) hj)
  have HMo := hide (fun d (h1 : 0 ≤ d) (h2 : d ≤ 109572) W => rmonth_any d W h1 h2)
  have HIn := hide (fun v W (hW : Below w.heap.size w W) => rin_any p.dbA p.dbn p.dbc p.db v W _ (hs.2.below hW))
  have HP := hide hp
  have HS0 := hide (show ps0 p = ⟨p.fv, 1, (fol p 0).1, (fol p 0).2⟩ from rfl)
  have HM0 := hide (ps0_M hp)
  clear hp hs hi0 hz0 hz1 hz2
  unfold ptV at HFo ⊢
  have HF0 := hide (HFo.out 0 (by omega) _ B0.out)
  go_enter Tryz.func104, Tryz.ntmps104
  go_wp2_with fail
  refine HF0.out.mono ?_
  rintro e w1 ⟨rfl, hb⟩
  have B1 := hide (B0.out.trans (hb.mono (by simp)))
  have Z1 := hide (Z0.out.trans (hb.mono (by simp)))
  clear hb HF0
  go_wp2
  go_loopw [7, 8, 9, 10, 11] (fun v s8 s9 s10 s11 wr => ∃ (P : List Iu) (s : Ps), P.length ≤ m ∧ s8 = .int .i64 s.vol ∧ s9 = .int .i64 s.num ∧ s10 = .int .i64 s.d ∧ s11 = .int .i64 (s.k : Nat) ∧ PsM p s ∧ isL p u m (ps0 p) = P ++ isL p u (m - P.length) s ∧ Iuo wr (w.heap.size + 1) v P ∧ Below (w.heap.size + 1) (w.alloc (.cells (ptC p) 67)) wr) (fun v _ _ _ _ _ => m - lenV v)
  case atStart =>
    refine ⟨[], ps0 p, Nat.zero_le _, ?_, ?_, ?_, ?_, HM0.out, by simp, World.ownsRow_nil _ _ _ _, Z1.out⟩
    · rw [HS0.out]
    · rw [HS0.out]
    · rw [HS0.out]
    · rw [HS0.out]
  case round =>
    obtain ⟨P, s, hPm, rfl, rfl, rfl, rfl, hM, hL, ho, hb⟩ := hrel
    obtain ⟨A1, c1, hv, _⟩ := Iuo_sl ho (by omega)
    subst hv
    obtain ⟨vol, num, d, k⟩ := s
    simp only at hM hL ⊢
    have HO := hide ho
    have Z2 := hide hb
    have HL := hide hL
    have HM := hide hM
    have v1 := hM.vol
    have v2 := hM.num
    have v3 := hM.d
    have v4 := hM.k
    have hpv := HP.out.pv
    simp only at v1 v2 v3 v4
    have X2 := hide (X0.out.below hb (by omega))
    have BW := hide (B0.out.trans (hb.mono (by omega)))
    have hzw : w.heap.size + 1 ≤ wr.heap.size := by have := hb.size; simpa using this
    obtain ⟨n, hn⟩ : ∃ n, P.length = n := ⟨_, rfl⟩
    have HN := hide hn
    rw [hn] at hPm ⊢
    clear hn
    have hcell := fun j => X2.out.cell j
    have q0 := hcell 0
    have q1 := hcell 1
    have q2 := hcell 2
    have q3 := hcell 3
    have q4 := hcell 4
    have q5 := hcell 5
    simp at q0 q1 q2 q3 q4 q5
    have a0 := fun o => (World.cell?_alloc_lt wr o ⟨w.heap.size, 0, none⟩ (by show w.heap.size < _; omega)).trans q0
    have a1 := fun o => (World.cell?_alloc_lt wr o ⟨w.heap.size, 1, none⟩ (by show w.heap.size < _; omega)).trans q1
    have a2 := fun o => (World.cell?_alloc_lt wr o ⟨w.heap.size, 2, none⟩ (by show w.heap.size < _; omega)).trans q2
    have a3 := fun o => (World.cell?_alloc_lt wr o ⟨w.heap.size, 3, none⟩ (by show w.heap.size < _; omega)).trans q3
    have a4 := fun o => (World.cell?_alloc_lt wr o ⟨w.heap.size, 4, none⟩ (by show w.heap.size < _; omega)).trans q4
    have a5 := fun o => (World.cell?_alloc_lt wr o ⟨w.heap.size, 5, none⟩ (by show w.heap.size < _; omega)).trans q5
    clear hM hL ho hb hcell Z1 B1
    by_cases hgo : n < m ∧ 0 ≤ d ∧ d ≤ u ∧ vol ≤ 9999
    · obtain ⟨g1, g2, g3, g4⟩ := hgo
      have g1z : (n : Int) < (m : Int) := by omega
      have hk : k < 16000 := by rcases v3 with e | e <;> omega
      have hd9 : d ≤ 109572 := by rcases v3 with e | e <;> omega
      have f1b := fol_b HP.out (k := k + 1) (by omega)
      have HF1 := hide (HFo.out (k + 1) (by omega))
      have HMd := hide (fun W => HMo.out d g2 hd9 W)
      have HId := hide (fun W hW => HIn.out (mthF d) W hW)
      have hst := isL_step (p := p) (u := u) (n := m - n - 1) (s := ⟨vol, num, d, k⟩) ⟨g2, g3, g4⟩
      rw [show m - n - 1 + 1 = m - n by omega] at hst
      have HPS := hide (psS_M HP.out HM.out g2 g4)
      have HST := hide hst
      clear hst
      have hdb : dblB p ⟨vol, num, d, k⟩ = (inL p.db (mthF d) && decide (0 ≤ (fol p (k + 1)).1) && decide (num < p.pv)) := rfl
      obtain ⟨fd, hfd⟩ : ∃ fd, (fol p (k + 1)).1 = fd := ⟨_, rfl⟩
      obtain ⟨fk, hfk⟩ : ∃ fk, (fol p (k + 1)).2 = fk := ⟨_, rfl⟩
      obtain ⟨qb, hqb⟩ : ∃ qb, inL p.db (mthF d) = qb := ⟨_, rfl⟩
      rw [hqb] at HId hdb
      rw [hfd, hfk] at HF1 f1b
      rw [hfd] at hdb
      have HFD := hide (And.intro hfd hfk)
      have e1 : ((k + 1 : Nat) : Int) = (k : Int) + 1 := by omega
      have hkz : (k : Int) + 1 ≤ 16001 := by omega
      rw [e1] at HF1
      have Y0 := hide (Box.new wr 122 (iuC ⟨vol, num, 0, d, 1, 0⟩))
      have Q0 := hide ((Below.refl wr.heap.size wr).alloc (Nat.le_refl _) (.cells (iuC ⟨vol, num, 0, d, 1, 0⟩) 122))
      have HFw := hide (HF1.out _ (BW.out.trans (Q0.out.mono (by omega))))
      clear hfd hfk hqb HF1 e1
      have hbnd : fd = -1 ∨ (0 ≤ fd ∧ fk < 16000) := by rcases f1b.1 with e | e <;> omega
      have hfk2 : fk ≤ 16001 := f1b.2.2
      clear f1b
      go_wp2_with fail
      refine HFw.out.mono ?_
      rintro e w2 ⟨rfl, hb⟩
      have Q2 := hide (Q0.out.trans (hb.mono (by simp)))
      have Y2 := hide (Y0.out.below hb (by simp))
      have r5 := (X2.out.below Q2.out (by omega)).cell 5
      have r2 := (X2.out.below Q2.out (by omega)).cell 2
      simp at r5 r2
      have k5 := Grn.cell r5
      have k2 := Grn.cell r2
      have hgx : wr.heap.size < w2.heap.size := Y2.out.lt
      clear hb HFw q0 q1 q2 q3 q4 q5 a0 a1 a2 a3 a4 a5 Y0 Q0
      cases hdd : dblB p ⟨vol, num, d, k⟩ with
      | false =>
        have hcs : qb = false ∨ (qb = true ∧ ¬ 0 ≤ fd) ∨ (qb = true ∧ 0 ≤ fd ∧ ¬ num < p.pv) := by
          cases qb
          · exact .inl rfl
          · by_cases h0 : 0 ≤ fd
            · refine .inr (.inr ⟨rfl, h0, ?_⟩)
              intro h1
              simp [h0, h1] at hdb
              rw [hdb] at hdd
              cases hdd
            · exact .inr (.inl ⟨rfl, h0⟩)
        have HXX := hide (show isuX p ⟨vol, num, d, k⟩ = ⟨vol, num, 0, d, 1, 0⟩ by unfold isuX; rw [hdd]; rfl)
        have HDB := hide hdd
        clear hdb hdd
        rcases hcs with rfl | ⟨rfl, h0⟩ | ⟨rfl, h0, h1⟩
        · go_wp2_with fail
          refine wp_region_grn (by kernel_rfl) (by kernel_rfl) ?_
          repeat (go_big_quiet_step (first | (go_at_call 150; exact Calls_grn (HMd.out _)) | (go_at_call 149; exact Calls_grn_same (HId.out _ (BW.out.trans ((Q2.out.trans ((Grn.h _).mono (Nat.le_of_lt hgx))).mono (by omega)))))))
          refine wpQuiet_nil ?_
          rintro _ ⟨q, rfl⟩
          obtain ⟨w3, hw3⟩ : ∃ w3, w3 = q.W := ⟨_, rfl⟩
          have Q3 := hide (Q2.out.trans (q.h.mono (Nat.le_of_lt hgx)))
          have Y3 := hide (Y2.out.below q.h hgx)
          rw [← hw3] at Q3 Y3 ⊢
          have hg3 : wr.heap.size < w3.heap.size := Y3.out.lt
          clear hw3 r5 r2 k5 k2 Q2 Y2 hgx HId HMd
          by_cases hbg : p.pv < num + 1
          · have HNX := hide (show psS p ⟨vol, num, d, k⟩ = ⟨vol + 1, 1, fd, fk⟩ by
              unfold psS nxtN nxtF
              rw [HDB.out]
              simp only [Bool.false_eq_true, if_false]
              rw [if_pos hbg, if_pos hbg, HFD.out.1, HFD.out.2])
            have l0 := Y3.out.cell 0
            have l1 := Y3.out.cell 1
            have l2 := Y3.out.cell 2
            have l3 := Y3.out.cell 3
            have l4 := Y3.out.cell 4
            have l5 := Y3.out.cell 5
            simp at l0 l1 l2 l3 l4 l5
            have HO3 := hide (fun o => (own_bel HO.out Q3.out).alloc o)
            have HBN := hide (Box.new w3 122 (iuC ⟨vol, num, 0, d, 1, 0⟩))
            have HSRC := hide (fun w' (h : Box w' w3.heap.size 122 (iuC ⟨vol, num, 0, d, 1, 0⟩)) => iu_sl1 h)
            have hPl : P.length = n := HN.out
            rw [hPl] at HO3
            have Q4 := hide (Q3.out.alloc Q3.out.size (.cells (iuC ⟨vol, num, 0, d, 1, 0⟩) 122))
            clear hPl
            go_wp2_with (at_builtin; go_must (refine wpList_append_sl _ rfl _ _ 74 rfl (w.heap.size + 1) 122 i0 _ 48 Tryz.underlying74 HI0.out.1 HI0.out.2.1 HI0.out.2.2.1 HI0.out.2.2.2 rfl (by decide) iuE_len iuE_one _ _ _ rfl (HO3.out _) _ 1 1 rfl (HSRC.out _ HBN.out) (by unfold maxLen; omega) (by omega) (by have := Q3.out.size; simp; omega) ?_))
            intro v' w5 hown hg hat
            have H5 := hide hown
            have Z5 := hide (((Z2.out.trans (Q4.out.mono hzw))).grown hg (by have := Q3.out.size; simp; omega) (by intro r hr; rw [← HN.out] at hr; exact (HO.out.lt r hr).1))
            have XE := X0.out.below Z5.out (by omega)
            have t2 := XE.cell 2
            simp at t2
            clear hown hg hat XE l0 l1 l2 l3 l4 l5
            have hlen : (P ++ [(⟨vol, num, 0, d, 1, 0⟩ : Iu)]).length = n + 1 := by rw [List.length_append, HN.out]; rfl
            have HLN := hide hlen
            have hrow : Iuo w5 (w.heap.size + 1) v' (P ++ [⟨vol, num, 0, d, 1, 0⟩]) := by
              unfold Iuo
              rw [hlen, List.flatMap_append]
              simpa using H5.out
            obtain ⟨A5, c5, hv5, _⟩ := Iuo_sl hrow (by rw [hlen]; omega)
            rw [hlen] at hv5
            subst hv5
            have HROW := hide hrow
            clear hrow hlen H5
            go_wp2
            go_roundw
            case rel =>
              refine ⟨P ++ [⟨vol, num, 0, d, 1, 0⟩], psS p ⟨vol, num, d, k⟩, by rw [HLN.out]; omega, ?_, ?_, ?_, ?_, HPS.out, ?_, HROW.out, Z5.out⟩
              · rw [HNX.out]; try go_num
              · rw [HNX.out]; try go_num
              · rw [HNX.out]
              · rw [HNX.out]
              · rw [HLN.out, HL.out, HN.out, HST.out, HXX.out, List.append_assoc, show m - (n + 1) = m - n - 1 by omega]; rfl
            case measure => simp [lenV]; omega
          · have HNX := hide (show psS p ⟨vol, num, d, k⟩ = ⟨vol, num + 1, fd, fk⟩ by
              unfold psS nxtN nxtF
              rw [HDB.out]
              simp only [Bool.false_eq_true, if_false]
              rw [if_neg hbg, if_neg hbg, HFD.out.1, HFD.out.2])
            have l0 := Y3.out.cell 0
            have l1 := Y3.out.cell 1
            have l2 := Y3.out.cell 2
            have l3 := Y3.out.cell 3
            have l4 := Y3.out.cell 4
            have l5 := Y3.out.cell 5
            simp at l0 l1 l2 l3 l4 l5
            have HO3 := hide (fun o => (own_bel HO.out Q3.out).alloc o)
            have HBN := hide (Box.new w3 122 (iuC ⟨vol, num, 0, d, 1, 0⟩))
            have HSRC := hide (fun w' (h : Box w' w3.heap.size 122 (iuC ⟨vol, num, 0, d, 1, 0⟩)) => iu_sl1 h)
            have hPl : P.length = n := HN.out
            rw [hPl] at HO3
            have Q4 := hide (Q3.out.alloc Q3.out.size (.cells (iuC ⟨vol, num, 0, d, 1, 0⟩) 122))
            clear hPl
            go_wp2_with (at_builtin; go_must (refine wpList_append_sl _ rfl _ _ 74 rfl (w.heap.size + 1) 122 i0 _ 48 Tryz.underlying74 HI0.out.1 HI0.out.2.1 HI0.out.2.2.1 HI0.out.2.2.2 rfl (by decide) iuE_len iuE_one _ _ _ rfl (HO3.out _) _ 1 1 rfl (HSRC.out _ HBN.out) (by unfold maxLen; omega) (by omega) (by have := Q3.out.size; simp; omega) ?_))
            intro v' w5 hown hg hat
            have H5 := hide hown
            have Z5 := hide (((Z2.out.trans (Q4.out.mono hzw))).grown hg (by have := Q3.out.size; simp; omega) (by intro r hr; rw [← HN.out] at hr; exact (HO.out.lt r hr).1))
            have XE := X0.out.below Z5.out (by omega)
            have t2 := XE.cell 2
            simp at t2
            clear hown hg hat XE l0 l1 l2 l3 l4 l5
            have hlen : (P ++ [(⟨vol, num, 0, d, 1, 0⟩ : Iu)]).length = n + 1 := by rw [List.length_append, HN.out]; rfl
            have HLN := hide hlen
            have hrow : Iuo w5 (w.heap.size + 1) v' (P ++ [⟨vol, num, 0, d, 1, 0⟩]) := by
              unfold Iuo
              rw [hlen, List.flatMap_append]
              simpa using H5.out
            obtain ⟨A5, c5, hv5, _⟩ := Iuo_sl hrow (by rw [hlen]; omega)
            rw [hlen] at hv5
            subst hv5
            have HROW := hide hrow
            clear hrow hlen H5
            go_wp2
            go_roundw
            case rel =>
              refine ⟨P ++ [⟨vol, num, 0, d, 1, 0⟩], psS p ⟨vol, num, d, k⟩, by rw [HLN.out]; omega, ?_, ?_, ?_, ?_, HPS.out, ?_, HROW.out, Z5.out⟩
              · rw [HNX.out]; try go_num
              · rw [HNX.out]; try go_num
              · rw [HNX.out]
              · rw [HNX.out]
              · rw [HLN.out, HL.out, HN.out, HST.out, HXX.out, List.append_assoc, show m - (n + 1) = m - n - 1 by omega]; rfl
            case measure => simp [lenV]; omega
        · have hd0 : decide (0 ≤ fd) = false := by rw [decide_eq_false_iff_not]; exact h0
          go_wp2_with fail
          refine wp_region_grn (by kernel_rfl) (by kernel_rfl) ?_
          repeat (go_big_quiet_step (first | (go_at_call 150; exact Calls_grn (HMd.out _)) | (go_at_call 149; exact Calls_grn_same (HId.out _ (BW.out.trans ((Q2.out.trans ((Grn.h _).mono (Nat.le_of_lt hgx))).mono (by omega)))))))
          refine wpQuiet_nil ?_
          rintro _ ⟨q, rfl⟩
          obtain ⟨w3, hw3⟩ : ∃ w3, w3 = q.W := ⟨_, rfl⟩
          have Q3 := hide (Q2.out.trans (q.h.mono (Nat.le_of_lt hgx)))
          have Y3 := hide (Y2.out.below q.h hgx)
          rw [← hw3] at Q3 Y3 ⊢
          have hg3 : wr.heap.size < w3.heap.size := Y3.out.lt
          clear hw3 r5 r2 k5 k2 Q2 Y2 hgx HId HMd
          by_cases hbg : p.pv < num + 1
          · have HNX := hide (show psS p ⟨vol, num, d, k⟩ = ⟨vol + 1, 1, fd, fk⟩ by
              unfold psS nxtN nxtF
              rw [HDB.out]
              simp only [Bool.false_eq_true, if_false]
              rw [if_pos hbg, if_pos hbg, HFD.out.1, HFD.out.2])
            have l0 := Y3.out.cell 0
            have l1 := Y3.out.cell 1
            have l2 := Y3.out.cell 2
            have l3 := Y3.out.cell 3
            have l4 := Y3.out.cell 4
            have l5 := Y3.out.cell 5
            simp at l0 l1 l2 l3 l4 l5
            have HO3 := hide (fun o => (own_bel HO.out Q3.out).alloc o)
            have HBN := hide (Box.new w3 122 (iuC ⟨vol, num, 0, d, 1, 0⟩))
            have HSRC := hide (fun w' (h : Box w' w3.heap.size 122 (iuC ⟨vol, num, 0, d, 1, 0⟩)) => iu_sl1 h)
            have hPl : P.length = n := HN.out
            rw [hPl] at HO3
            have Q4 := hide (Q3.out.alloc Q3.out.size (.cells (iuC ⟨vol, num, 0, d, 1, 0⟩) 122))
            clear hPl
            go_wp2_with (at_builtin; go_must (refine wpList_append_sl _ rfl _ _ 74 rfl (w.heap.size + 1) 122 i0 _ 48 Tryz.underlying74 HI0.out.1 HI0.out.2.1 HI0.out.2.2.1 HI0.out.2.2.2 rfl (by decide) iuE_len iuE_one _ _ _ rfl (HO3.out _) _ 1 1 rfl (HSRC.out _ HBN.out) (by unfold maxLen; omega) (by omega) (by have := Q3.out.size; simp; omega) ?_))
            intro v' w5 hown hg hat
            have H5 := hide hown
            have Z5 := hide (((Z2.out.trans (Q4.out.mono hzw))).grown hg (by have := Q3.out.size; simp; omega) (by intro r hr; rw [← HN.out] at hr; exact (HO.out.lt r hr).1))
            have XE := X0.out.below Z5.out (by omega)
            have t2 := XE.cell 2
            simp at t2
            clear hown hg hat XE l0 l1 l2 l3 l4 l5
            have hlen : (P ++ [(⟨vol, num, 0, d, 1, 0⟩ : Iu)]).length = n + 1 := by rw [List.length_append, HN.out]; rfl
            have HLN := hide hlen
            have hrow : Iuo w5 (w.heap.size + 1) v' (P ++ [⟨vol, num, 0, d, 1, 0⟩]) := by
              unfold Iuo
              rw [hlen, List.flatMap_append]
              simpa using H5.out
            obtain ⟨A5, c5, hv5, _⟩ := Iuo_sl hrow (by rw [hlen]; omega)
            rw [hlen] at hv5
            subst hv5
            have HROW := hide hrow
            clear hrow hlen H5
            go_wp2
            go_roundw
            case rel =>
              refine ⟨P ++ [⟨vol, num, 0, d, 1, 0⟩], psS p ⟨vol, num, d, k⟩, by rw [HLN.out]; omega, ?_, ?_, ?_, ?_, HPS.out, ?_, HROW.out, Z5.out⟩
              · rw [HNX.out]; try go_num
              · rw [HNX.out]; try go_num
              · rw [HNX.out]
              · rw [HNX.out]
              · rw [HLN.out, HL.out, HN.out, HST.out, HXX.out, List.append_assoc, show m - (n + 1) = m - n - 1 by omega]; rfl
            case measure => simp [lenV]; omega
          · have HNX := hide (show psS p ⟨vol, num, d, k⟩ = ⟨vol, num + 1, fd, fk⟩ by
              unfold psS nxtN nxtF
              rw [HDB.out]
              simp only [Bool.false_eq_true, if_false]
              rw [if_neg hbg, if_neg hbg, HFD.out.1, HFD.out.2])
            have l0 := Y3.out.cell 0
            have l1 := Y3.out.cell 1
            have l2 := Y3.out.cell 2
            have l3 := Y3.out.cell 3
            have l4 := Y3.out.cell 4
            have l5 := Y3.out.cell 5
            simp at l0 l1 l2 l3 l4 l5
            have HO3 := hide (fun o => (own_bel HO.out Q3.out).alloc o)
            have HBN := hide (Box.new w3 122 (iuC ⟨vol, num, 0, d, 1, 0⟩))
            have HSRC := hide (fun w' (h : Box w' w3.heap.size 122 (iuC ⟨vol, num, 0, d, 1, 0⟩)) => iu_sl1 h)
            have hPl : P.length = n := HN.out
            rw [hPl] at HO3
            have Q4 := hide (Q3.out.alloc Q3.out.size (.cells (iuC ⟨vol, num, 0, d, 1, 0⟩) 122))
            clear hPl
            go_wp2_with (at_builtin; go_must (refine wpList_append_sl _ rfl _ _ 74 rfl (w.heap.size + 1) 122 i0 _ 48 Tryz.underlying74 HI0.out.1 HI0.out.2.1 HI0.out.2.2.1 HI0.out.2.2.2 rfl (by decide) iuE_len iuE_one _ _ _ rfl (HO3.out _) _ 1 1 rfl (HSRC.out _ HBN.out) (by unfold maxLen; omega) (by omega) (by have := Q3.out.size; simp; omega) ?_))
            intro v' w5 hown hg hat
            have H5 := hide hown
            have Z5 := hide (((Z2.out.trans (Q4.out.mono hzw))).grown hg (by have := Q3.out.size; simp; omega) (by intro r hr; rw [← HN.out] at hr; exact (HO.out.lt r hr).1))
            have XE := X0.out.below Z5.out (by omega)
            have t2 := XE.cell 2
            simp at t2
            clear hown hg hat XE l0 l1 l2 l3 l4 l5
            have hlen : (P ++ [(⟨vol, num, 0, d, 1, 0⟩ : Iu)]).length = n + 1 := by rw [List.length_append, HN.out]; rfl
            have HLN := hide hlen
            have hrow : Iuo w5 (w.heap.size + 1) v' (P ++ [⟨vol, num, 0, d, 1, 0⟩]) := by
              unfold Iuo
              rw [hlen, List.flatMap_append]
              simpa using H5.out
            obtain ⟨A5, c5, hv5, _⟩ := Iuo_sl hrow (by rw [hlen]; omega)
            rw [hlen] at hv5
            subst hv5
            have HROW := hide hrow
            clear hrow hlen H5
            go_wp2
            go_roundw
            case rel =>
              refine ⟨P ++ [⟨vol, num, 0, d, 1, 0⟩], psS p ⟨vol, num, d, k⟩, by rw [HLN.out]; omega, ?_, ?_, ?_, ?_, HPS.out, ?_, HROW.out, Z5.out⟩
              · rw [HNX.out]; try go_num
              · rw [HNX.out]; try go_num
              · rw [HNX.out]
              · rw [HNX.out]
              · rw [HLN.out, HL.out, HN.out, HST.out, HXX.out, List.append_assoc, show m - (n + 1) = m - n - 1 by omega]; rfl
            case measure => simp [lenV]; omega
        · have hd1 : decide (num < p.pv) = false := by rw [decide_eq_false_iff_not]; exact h1
          go_wp2_with fail
          refine wp_region_grn (by kernel_rfl) (by kernel_rfl) ?_
          repeat (go_big_quiet_step (first | (go_at_call 150; exact Calls_grn (HMd.out _)) | (go_at_call 149; exact Calls_grn_same (HId.out _ (BW.out.trans ((Q2.out.trans ((Grn.h _).mono (Nat.le_of_lt hgx))).mono (by omega)))))))
          refine wpQuiet_nil ?_
          rintro _ ⟨q, rfl⟩
          obtain ⟨w3, hw3⟩ : ∃ w3, w3 = q.W := ⟨_, rfl⟩
          have Q3 := hide (Q2.out.trans (q.h.mono (Nat.le_of_lt hgx)))
          have Y3 := hide (Y2.out.below q.h hgx)
          rw [← hw3] at Q3 Y3 ⊢
          have hg3 : wr.heap.size < w3.heap.size := Y3.out.lt
          clear hw3 r5 r2 k5 k2 Q2 Y2 hgx HId HMd
          by_cases hbg : p.pv < num + 1
          · have HNX := hide (show psS p ⟨vol, num, d, k⟩ = ⟨vol + 1, 1, fd, fk⟩ by
              unfold psS nxtN nxtF
              rw [HDB.out]
              simp only [Bool.false_eq_true, if_false]
              rw [if_pos hbg, if_pos hbg, HFD.out.1, HFD.out.2])
            have l0 := Y3.out.cell 0
            have l1 := Y3.out.cell 1
            have l2 := Y3.out.cell 2
            have l3 := Y3.out.cell 3
            have l4 := Y3.out.cell 4
            have l5 := Y3.out.cell 5
            simp at l0 l1 l2 l3 l4 l5
            have HO3 := hide (fun o => (own_bel HO.out Q3.out).alloc o)
            have HBN := hide (Box.new w3 122 (iuC ⟨vol, num, 0, d, 1, 0⟩))
            have HSRC := hide (fun w' (h : Box w' w3.heap.size 122 (iuC ⟨vol, num, 0, d, 1, 0⟩)) => iu_sl1 h)
            have hPl : P.length = n := HN.out
            rw [hPl] at HO3
            have Q4 := hide (Q3.out.alloc Q3.out.size (.cells (iuC ⟨vol, num, 0, d, 1, 0⟩) 122))
            clear hPl
            go_wp2_with (at_builtin; go_must (refine wpList_append_sl _ rfl _ _ 74 rfl (w.heap.size + 1) 122 i0 _ 48 Tryz.underlying74 HI0.out.1 HI0.out.2.1 HI0.out.2.2.1 HI0.out.2.2.2 rfl (by decide) iuE_len iuE_one _ _ _ rfl (HO3.out _) _ 1 1 rfl (HSRC.out _ HBN.out) (by unfold maxLen; omega) (by omega) (by have := Q3.out.size; simp; omega) ?_))
            intro v' w5 hown hg hat
            have H5 := hide hown
            have Z5 := hide (((Z2.out.trans (Q4.out.mono hzw))).grown hg (by have := Q3.out.size; simp; omega) (by intro r hr; rw [← HN.out] at hr; exact (HO.out.lt r hr).1))
            have XE := X0.out.below Z5.out (by omega)
            have t2 := XE.cell 2
            simp at t2
            clear hown hg hat XE l0 l1 l2 l3 l4 l5
            have hlen : (P ++ [(⟨vol, num, 0, d, 1, 0⟩ : Iu)]).length = n + 1 := by rw [List.length_append, HN.out]; rfl
            have HLN := hide hlen
            have hrow : Iuo w5 (w.heap.size + 1) v' (P ++ [⟨vol, num, 0, d, 1, 0⟩]) := by
              unfold Iuo
              rw [hlen, List.flatMap_append]
              simpa using H5.out
            obtain ⟨A5, c5, hv5, _⟩ := Iuo_sl hrow (by rw [hlen]; omega)
            rw [hlen] at hv5
            subst hv5
            have HROW := hide hrow
            clear hrow hlen H5
            go_wp2
            go_roundw
            case rel =>
              refine ⟨P ++ [⟨vol, num, 0, d, 1, 0⟩], psS p ⟨vol, num, d, k⟩, by rw [HLN.out]; omega, ?_, ?_, ?_, ?_, HPS.out, ?_, HROW.out, Z5.out⟩
              · rw [HNX.out]; try go_num
              · rw [HNX.out]; try go_num
              · rw [HNX.out]
              · rw [HNX.out]
              · rw [HLN.out, HL.out, HN.out, HST.out, HXX.out, List.append_assoc, show m - (n + 1) = m - n - 1 by omega]; rfl
            case measure => simp [lenV]; omega
          · exfalso; omega
      | true =>
        have hdc : qb = true ∧ 0 ≤ fd ∧ num < p.pv := by
          rw [hdd] at hdb
          have h := hdb.symm
          rw [Bool.and_eq_true, Bool.and_eq_true, decide_eq_true_eq, decide_eq_true_eq] at h
          exact ⟨h.1.1, h.1.2, h.2⟩
        obtain ⟨rfl, h0, h1⟩ := hdc
        have hfk3 : fk < 16000 := by rcases hbnd with e | e <;> omega
        have f2b := fol_b HP.out (k := fk + 1) (by omega)
        have HF2 := hide (HFo.out (fk + 1) (by omega))
        obtain ⟨gd, hgd⟩ : ∃ gd, (fol p (fk + 1)).1 = gd := ⟨_, rfl⟩
        obtain ⟨gk, hgk⟩ : ∃ gk, (fol p (fk + 1)).2 = gk := ⟨_, rfl⟩
        rw [hgd, hgk] at HF2
        have HGD := hide (And.intro hgd hgk)
        have e2 : ((fk + 1 : Nat) : Int) = (fk : Int) + 1 := by omega
        rw [e2] at HF2
        have HXX := hide (show isuX p ⟨vol, num, d, k⟩ = ⟨vol, num, num + 1, d, 1, 0⟩ by unfold isuX; rw [hdd]; rfl)
        have HDB := hide hdd
        have hn1 : IntKind.i64.wrap (num + 1) = num + 1 := by rw [IntKind.wrap_i64]; omega
        clear hdb hdd hgd hgk f2b e2
        go_wp2_with fail
        refine wp_region_grn (by kernel_rfl) (by kernel_rfl) ?_
        repeat (go_big_quiet_step (first | (go_at_call 150; exact Calls_grn (HMd.out _)) | (go_at_call 149; exact Calls_grn_same (HId.out _ (BW.out.trans ((Q2.out.trans ((Grn.h _).mono (Nat.le_of_lt hgx))).mono (by omega)))))))
        refine wpQuiet_nil ?_
        rintro _ ⟨q, rfl⟩
        obtain ⟨w3, hw3⟩ : ∃ w3, w3 = q.W := ⟨_, rfl⟩
        have Q3 := hide (Q2.out.trans (q.h.mono (Nat.le_of_lt hgx)))
        have Y3 := hide (Y2.out.below q.h hgx)
        rw [← hw3] at Q3 Y3 ⊢
        have hg3 : wr.heap.size < w3.heap.size := Y3.out.lt
        clear hw3 r5 r2 k5 k2 Q2 Y2 hgx HId HMd
        have Y3b := Y3.out.set_ 2 (.int .i64 (num + 1))
        have Q3b := hide (Q3.out.setCell (p := ⟨wr.heap.size, 2, none⟩) (Nat.le_refl _) (.int .i64 (num + 1)))
        have HFw := hide (HF2.out _ (BW.out.trans (Q3b.out.mono (by omega))))
        have hf3 := Y3.out.frz 2
        have hc2 := Y3.out.cell 2
        have hq := fun j => ((X2.out.below Q3.out (by omega)).far (p := ⟨wr.heap.size, 2, none⟩) (by simp; omega) (.int .i64 (num + 1))).cell j
        have q0 := hq 0
        have q1 := hq 1
        have q2 := hq 2
        have q3 := hq 3
        have q4 := hq 4
        have q5 := hq 5
        simp at q0 q1 q2 q3 q4 q5 hc2
        have Y3c := hide (show Box (w3.setCell ⟨wr.heap.size, 2, none⟩ (.int .i64 (num + 1))) wr.heap.size 122 (iuC ⟨vol, num, num + 1, d, 1, 0⟩) from Y3b)
        clear Y3b hq HF2
        go_wp2_with fail
        refine HFw.out.mono ?_
        rintro e w4 ⟨rfl, hb⟩
        have Q4b := hide (Q3b.out.trans (hb.mono (by simp; omega)))
        have Y4 := hide (Y3c.out.below hb Y3c.out.lt)
        clear hb HFw q0 q1 q2 q3 q4 q5 hc2 hf3 Q3 Y3 Q3b Y3c
        by_cases hbg : p.pv < num + 1 + 1
        · have HNX := hide (show psS p ⟨vol, num, d, k⟩ = ⟨vol + 1, 1, gd, gk⟩ by
            unfold psS nxtN nxtF
            rw [HDB.out]
            simp only [if_true]
            rw [if_pos hbg, if_pos hbg, HFD.out.2, HGD.out.1, HGD.out.2])
          have l0 := Y4.out.cell 0
          have l1 := Y4.out.cell 1
          have l2 := Y4.out.cell 2
          have l3 := Y4.out.cell 3
          have l4 := Y4.out.cell 4
          have l5 := Y4.out.cell 5
          simp at l0 l1 l2 l3 l4 l5
          have HO3 := hide (fun o => (own_bel HO.out Q4b.out).alloc o)
          have HBN := hide (Box.new w4 122 (iuC ⟨vol, num, num + 1, d, 1, 0⟩))
          have HSRC := hide (fun w' (h : Box w' w4.heap.size 122 (iuC ⟨vol, num, num + 1, d, 1, 0⟩)) => iu_sl1 h)
          have hPl : P.length = n := HN.out
          rw [hPl] at HO3
          have Q4 := hide (Q4b.out.alloc Q4b.out.size (.cells (iuC ⟨vol, num, num + 1, d, 1, 0⟩) 122))
          clear hPl
          go_wp2_with (at_builtin; go_must (refine wpList_append_sl _ rfl _ _ 74 rfl (w.heap.size + 1) 122 i0 _ 48 Tryz.underlying74 HI0.out.1 HI0.out.2.1 HI0.out.2.2.1 HI0.out.2.2.2 rfl (by decide) iuE_len iuE_one _ _ _ rfl (HO3.out _) _ 1 1 rfl (HSRC.out _ HBN.out) (by unfold maxLen; omega) (by omega) (by have := Q4b.out.size; simp; omega) ?_))
          intro v' w5 hown hg hat
          have H5 := hide hown
          have Z5 := hide (((Z2.out.trans (Q4.out.mono hzw))).grown hg (by have := Q4b.out.size; simp; omega) (by intro r hr; rw [← HN.out] at hr; exact (HO.out.lt r hr).1))
          have XE := X0.out.below Z5.out (by omega)
          have t2 := XE.cell 2
          simp at t2
          clear hown hg hat XE l0 l1 l2 l3 l4 l5
          have hlen : (P ++ [(⟨vol, num, num + 1, d, 1, 0⟩ : Iu)]).length = n + 1 := by rw [List.length_append, HN.out]; rfl
          have HLN := hide hlen
          have hrow : Iuo w5 (w.heap.size + 1) v' (P ++ [⟨vol, num, num + 1, d, 1, 0⟩]) := by
            unfold Iuo
            rw [hlen, List.flatMap_append]
            simpa using H5.out
          obtain ⟨A5, c5, hv5, _⟩ := Iuo_sl hrow (by rw [hlen]; omega)
          rw [hlen] at hv5
          subst hv5
          have HROW := hide hrow
          clear hrow hlen H5
          go_wp2
          go_roundw
          case rel =>
            refine ⟨P ++ [⟨vol, num, num + 1, d, 1, 0⟩], psS p ⟨vol, num, d, k⟩, by rw [HLN.out]; omega, ?_, ?_, ?_, ?_, HPS.out, ?_, HROW.out, Z5.out⟩
            · rw [HNX.out]; try go_num
            · rw [HNX.out]; try go_num
            · rw [HNX.out]
            · rw [HNX.out]
            · rw [HLN.out, HL.out, HN.out, HST.out, HXX.out, List.append_assoc, show m - (n + 1) = m - n - 1 by omega]; rfl
          case measure => simp [lenV]; omega
        · have HNX := hide (show psS p ⟨vol, num, d, k⟩ = ⟨vol, num + 1 + 1, gd, gk⟩ by
            unfold psS nxtN nxtF
            rw [HDB.out]
            simp only [if_true]
            rw [if_neg hbg, if_neg hbg, HFD.out.2, HGD.out.1, HGD.out.2])
          have l0 := Y4.out.cell 0
          have l1 := Y4.out.cell 1
          have l2 := Y4.out.cell 2
          have l3 := Y4.out.cell 3
          have l4 := Y4.out.cell 4
          have l5 := Y4.out.cell 5
          simp at l0 l1 l2 l3 l4 l5
          have HO3 := hide (fun o => (own_bel HO.out Q4b.out).alloc o)
          have HBN := hide (Box.new w4 122 (iuC ⟨vol, num, num + 1, d, 1, 0⟩))
          have HSRC := hide (fun w' (h : Box w' w4.heap.size 122 (iuC ⟨vol, num, num + 1, d, 1, 0⟩)) => iu_sl1 h)
          have hPl : P.length = n := HN.out
          rw [hPl] at HO3
          have Q4 := hide (Q4b.out.alloc Q4b.out.size (.cells (iuC ⟨vol, num, num + 1, d, 1, 0⟩) 122))
          clear hPl
          go_wp2_with (at_builtin; go_must (refine wpList_append_sl _ rfl _ _ 74 rfl (w.heap.size + 1) 122 i0 _ 48 Tryz.underlying74 HI0.out.1 HI0.out.2.1 HI0.out.2.2.1 HI0.out.2.2.2 rfl (by decide) iuE_len iuE_one _ _ _ rfl (HO3.out _) _ 1 1 rfl (HSRC.out _ HBN.out) (by unfold maxLen; omega) (by omega) (by have := Q4b.out.size; simp; omega) ?_))
          intro v' w5 hown hg hat
          have H5 := hide hown
          have Z5 := hide (((Z2.out.trans (Q4.out.mono hzw))).grown hg (by have := Q4b.out.size; simp; omega) (by intro r hr; rw [← HN.out] at hr; exact (HO.out.lt r hr).1))
          have XE := X0.out.below Z5.out (by omega)
          have t2 := XE.cell 2
          simp at t2
          clear hown hg hat XE l0 l1 l2 l3 l4 l5
          have hlen : (P ++ [(⟨vol, num, num + 1, d, 1, 0⟩ : Iu)]).length = n + 1 := by rw [List.length_append, HN.out]; rfl
          have HLN := hide hlen
          have hrow : Iuo w5 (w.heap.size + 1) v' (P ++ [⟨vol, num, num + 1, d, 1, 0⟩]) := by
            unfold Iuo
            rw [hlen, List.flatMap_append]
            simpa using H5.out
          obtain ⟨A5, c5, hv5, _⟩ := Iuo_sl hrow (by rw [hlen]; omega)
          rw [hlen] at hv5
          subst hv5
          have HROW := hide hrow
          clear hrow hlen H5
          go_wp2
          go_roundw
          case rel =>
            refine ⟨P ++ [⟨vol, num, num + 1, d, 1, 0⟩], psS p ⟨vol, num, d, k⟩, by rw [HLN.out]; omega, ?_, ?_, ?_, ?_, HPS.out, ?_, HROW.out, Z5.out⟩
            · rw [HNX.out]; try go_num
            · rw [HNX.out]; try go_num
            · rw [HNX.out]
            · rw [HNX.out]
            · rw [HLN.out, HL.out, HN.out, HST.out, HXX.out, List.append_assoc, show m - (n + 1) = m - n - 1 by omega]; rfl
          case measure => simp [lenV]; omega
    · have hstop : isL p u (m - n) ⟨vol, num, d, k⟩ = [] := by
        by_cases hnm : n < m
        · exact isL_stop (fun h => hgo ⟨hnm, h⟩)
        · rw [show m - n = 0 by omega]; rfl
      have hres : isL p u m (ps0 p) = P := by rw [HL.out, HN.out, hstop, List.append_nil]
      have HRES := hide hres
      have hcs : (¬ (n : Int) < (m : Int)) ∨ ((n : Int) < (m : Int) ∧ ¬ 0 ≤ d) ∨ ((n : Int) < (m : Int) ∧ 0 ≤ d ∧ ¬ d ≤ u) ∨ ((n : Int) < (m : Int) ∧ 0 ≤ d ∧ d ≤ u ∧ ¬ vol ≤ 9999) := by
        by_cases h1 : n < m <;> by_cases h2 : 0 ≤ d <;> by_cases h3 : d ≤ u <;> by_cases h4 : vol ≤ 9999
        all_goals first | (exfalso; exact hgo ⟨h1, h2, h3, h4⟩) | (left; omega) | (right; left; omega) | (right; right; left; omega) | (right; right; right; omega)
      have HOE := hide (own_base HO.out (show w.heap.size ≤ w.heap.size + 1 by omega))
      clear hstop hres hgo q0 q1 q2 q3 q4 q5 a0 a1 a2 a3 a4 a5
      rcases hcs with h1 | ⟨h1, h2⟩ | ⟨h1, h2, h3⟩ | ⟨h1, h2, h3, h4⟩
      all_goals
        go_wp2
        go_ret
        refine ⟨_, rfl, ?_, BW.out⟩
        rw [HRES.out]
        have h := HOE.out
        rw [HN.out] at h
        unfold Iuo
        rw [HN.out]
        exact h
end Go.Proofs.YtbhndfphegflhaaGreat
