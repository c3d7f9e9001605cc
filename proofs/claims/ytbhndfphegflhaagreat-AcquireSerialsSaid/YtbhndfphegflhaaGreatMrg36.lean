/- Texts laid together by merge.py: AqI, AqSm. -/
import Derived.Test.YtbhndfphegflhaaGreatMrg19
import Derived.Test.YtbhndfphegflhaaGreatMrg35
import Derived.Test.YtbhndfphegflhaaGreatMrg5
import Derived.Test.YtbhndfphegflhaaGreatMrg11
set_option linter.unusedSimpArgs false
set_option linter.unusedVariables false
/- Walks: ordersValid of the program. Printed by gen_aq_i.py. -/
namespace Go.Proofs.YtbhndfphegflhaaGreat
open Go.RowKit

set_option maxRecDepth 100000 in
set_option maxHeartbeats 16000000 in
theorem pov_any (a : Aq) (w : World) (hs : AqS w w.heap.size a) :
    Calls Tryz.prog 53 #[aqV a] w fun e w' => e = .returned (.bool (okOv (aqP a))) ∧ Below w.heap.size w w' := by
  have B0 := hide ((Below.refl w.heap.size w).alloc (Nat.le_refl _) (.cells (aqC a) 27))
  have Z0 := hide (Below.refl (w.heap.size + 1) (w.alloc (.cells (aqC a) 27)))
  have X0 := hide (Box.new w 27 (aqC a))
  have hl1 := hs.f.len
  have hl2 := hs.o.len
  have hb1 := hs.f.big
  have hb2 := hs.o.big
  have HS := hide hs
  have HL1 := hide hl1
  have HL2 := hide hl2
  clear hs hl1 hl2
  unfold aqV
  have HW := hide (show okOv (aqP a) = ((rightR a.f == 0) && (rightO a.o == 0) && winB a.nx 1 10000 && (a.o.all (okO a.nx a.f) && a.f.all (okF a.o))) from rfl)
  have H38 := hide (pright_any a.fA a.fn a.fc a.f _ ((HS.out.f.below B0.out).more B0.out.size))
  rw [right_eq] at H38
  have H39 := hide (fun W (hW : Below w.heap.size w W) => oright_any a.oA a.on a.oc a.o W ((HS.out.o.below hW).more hW.size) (fun x hx => ((HS.out.os x hx).below hW).more hW.size))
  obtain ⟨m1, hm1⟩ : ∃ m, rightR a.f = m := ⟨_, rfl⟩
  obtain ⟨m2, hm2⟩ : ∃ m, rightO a.o = m := ⟨_, rfl⟩
  rw [hm1] at H38 HW
  rw [hm2] at H39 HW
  have HM1 := hide hm1
  have HM2 := hide hm2
  clear hm1 hm2
  go_enter Tryz.func53, Tryz.ntmps53
  go_wp2_with fail
  refine H38.out.mono ?_
  rintro e w1 ⟨rfl, hb⟩
  have B1 := hide (B0.out.trans (hb.mono B0.out.size))
  have Z1 := hide (hb.mono (show w.heap.size + 1 ≤ _ by simp))
  have X1 := hide (X0.out.below hb (by simp))
  have q2 := X1.out.cell 2
  simp at q2
  have H39' := hide (H39.out _ B1.out)
  clear hb H38 H39
  by_cases hz1 : (m1 != 0) = true
  · have HR := hide (show okOv (aqP a) = false by rw [HW.out, show (m1 == 0) = false by simpa using hz1]; rfl)
    clear HW
    go_wp2
    go_ret
    exact ⟨ret_bool HR.out.symm, B1.out⟩
  have hz1' : (m1 != 0) = false := by simpa using hz1
  have hm10 : m1 = 0 := by simpa using hz1
  have HVF := hide (vld_of (by rw [HM1.out, hm10]))
  have HW2 := hide (show okOv (aqP a) = ((m2 == 0) && winB a.nx 1 10000 && (a.o.all (okO a.nx a.f) && a.f.all (okF a.o))) by rw [HW.out, hm10]; rfl)
  clear hz1 hm10 HW HM1
  go_wp2_with fail
  refine H39'.out.mono ?_
  rintro e w2 ⟨rfl, hb⟩
  have B2 := hide (B1.out.trans (hb.mono B1.out.size))
  have Z2 := hide (Z1.out.trans (hb.mono (show w.heap.size + 1 ≤ _ from Nat.lt_of_lt_of_le (Nat.lt_succ_self _) (Nat.le_trans (by simp) Z1.out.size))))
  have X2 := hide (X1.out.below hb X1.out.lt)
  have HZ1 := hide hz1'
  clear q2
  have q2 := X2.out.cell 2
  have q5 := X2.out.cell 5
  simp at q2 q5
  clear hb H39' hz1' X1 Z1 B1
  by_cases hz2 : (m2 != 0) = true
  · have HR := hide (show okOv (aqP a) = false by rw [HW2.out, show (m2 == 0) = false by simpa using hz2]; rfl)
    clear HW2
    go_wp2
    go_ret
    exact ⟨ret_bool HR.out.symm, B2.out⟩
  have hz2' : (m2 != 0) = false := by simpa using hz2
  have hm20 : m2 = 0 := by simpa using hz2
  have HVO := hide (VldO.of (by rw [HM2.out, hm20]))
  have HW2b := hide (show okOv (aqP a) = (winB a.nx 1 10000 && (a.o.all (okO a.nx a.f) && a.f.all (okF a.o))) by rw [HW2.out, hm20]; rfl)
  clear hz2 hm20 HW2 HM2
  by_cases hnx : 1 ≤ a.nx ∧ a.nx ≤ 10000
  · have HW3 := hide (show okOv (aqP a) = (a.o.all (okO a.nx a.f) && a.f.all (okF a.o)) by rw [HW2b.out, winB_iff.2 hnx]; rfl)
    obtain ⟨y3, y4⟩ := hnx
    clear HW2b
    go_wp2
    clear hz2' X2 B2 q2 q5
    go_loopw [34] (fun s34 wr => ∃ k : Nat, k ≤ a.on ∧ s34 = .int .i64 k ∧ (∀ u ∈ a.o.take k, okO a.nx a.f u = true) ∧ Below (w.heap.size + 1) (w.alloc (.cells (aqC a) 27)) wr) (fun s34 _ => a.on - (intOf s34).toNat)
    case atStart => exact ⟨0, Nat.zero_le _, rfl, by simp, Z2.out⟩
    case round =>
      clear Z2
      obtain ⟨k, hk, rfl, ha, hb⟩ := hrel
      have HAK := hide ha
      have Z1 := hide hb
      have X1 := hide (X0.out.below hb (by omega))
      have hz1 : w.heap.size + 1 ≤ wr.heap.size := by have := hb.size; simpa using this
      have B1 := hide (B0.out.trans (hb.mono (by omega)))
      have q1 := X1.out.cell 1
      have q5 := X1.out.cell 5
      simp at q1 q5
      clear ha hb
      by_cases hlt : k < a.on
      · have hkz : (k : Int) < (a.on : Int) := by omega
        obtain ⟨b, off, x, hA, hbB, hx, c0, c1, c2, c3, c4, c5, c6, c7, c8, c9⟩ := Ods_at (HS.out.o.below B1.out) hlt
        rw [hA]
        have a5 := fun o => (World.cell?_alloc_lt wr o ⟨w.heap.size, 5, none⟩ (by show w.heap.size < _; omega)).trans q5
        have HX := hide hx
        have HOK := hide (show okO a.nx a.f x = (decide (x.id < a.nx) && x.sh.all (shHas a.f)) from rfl)
        clear hx hA
        by_cases hid : x.id < a.nx
        · have hidn : ¬ a.nx ≤ x.id := by omega
          have HOK2 := hide (show okO a.nx a.f x = x.sh.all (shHas a.f) by rw [HOK.out, decide_eq_true hid]; rfl)
          have HOS := hide (HS.out.os x (List.mem_of_getElem? HX.out))
          have hsl := HOS.out.len
          have hsb := HOS.out.big
          clear hid HOK
          go_wp2
          clear hidn a5 q1 q5 c0 c1 c2 c3 c4 c5 c6 c7 c8 c9
          obtain ⟨W1, hW1⟩ : ∃ W1, W1 = wr := ⟨_, rfl⟩
          rw [← hW1] at B1 Z1 hz1 X1 ⊢
          clear hW1
          go_loopw [46] (fun s46 wr' => ∃ j : Nat, j ≤ x.shn ∧ s46 = .int .i64 j ∧ (∀ u ∈ x.sh.take j, shHas a.f u = true) ∧ Below (W1.heap.size + 1) (W1.alloc (.cells (odC x) 35)) wr') (fun s46 _ => x.shn - (intOf s46).toNat)
          case atStart => exact ⟨0, Nat.zero_le _, rfl, by simp, Below.refl _ _⟩
          case round =>
            obtain ⟨j, hj, rfl, ha, hb⟩ := hrel
            have HAJ := hide ha
            have B5 := hide ((B1.out.alloc B1.out.size _).trans (hb.mono (Nat.le_trans B1.out.size (Nat.le_succ _))))
            have Z5 := hide ((Z1.out.alloc hz1 _).trans (hb.mono (Nat.le_trans hz1 (Nat.le_succ _))))
            have X5 := hide (X0.out.below Z5.out (by omega))
            have hz5 : w.heap.size + 1 ≤ wr.heap.size := by have := Z5.out.size; simpa using this
            have hjb := hb.size
            simp only [World.size_alloc] at hjb
            have HBJ := hide hb
            have q1 := X5.out.cell 1
            simp at q1
            clear ha hb
            by_cases hjl : j < x.shn
            · have hjz : (j : Int) < (x.shn : Int) := by omega
              obtain ⟨b', off', y, hA', hbB', hy, d0, d1⟩ := Shs_at (HOS.out.below B5.out) hjl
              rw [hA']
              have a1 := fun o => (World.cell?_alloc_lt wr o ⟨w.heap.size, 1, none⟩ (by show w.heap.size < _; omega)).trans q1
              have HY := hide hy
              have BS := hide (B5.out.alloc B5.out.size (.cells (shC y) 86))
              have HJS := hide (HBJ.out.alloc hjb (.cells (shC y) 86))
              have HG := hide (pget_any a.fA a.fn a.fc a.f y.fund _ ((HS.out.f.below BS.out).more BS.out.size))
              have HSH := hide (show shHas a.f y = (getF a.f y.fund).2 from rfl)
              obtain ⟨gf, gb, hg⟩ : ∃ gf gb, getF a.f y.fund = (gf, gb) := ⟨_, _, rfl⟩
              rw [hg] at HG HSH
              unfold fuV at HG
              clear hy hA' hg
              go_wp2_with fail
              refine HG.out.mono ?_
              rintro e w6 ⟨rfl, hb6⟩
              have B6 := hide (BS.out.trans (hb6.mono BS.out.size))
              have H6 := hide (HJS.out.trans (hb6.mono (by simp; omega)))
              clear hb6 HG a1 d0 d1
              cases gb with
              | false =>
                have HR := hide (show okOv (aqP a) = false by rw [HW3.out, allT_false HX.out (show okO a.nx a.f x = false by rw [HOK2.out, allT_false HY.out HSH.out])]; rfl)
                go_wp2
                go_ret
                exact ⟨ret_bool HR.out.symm, B6.out.alloc B6.out.size _⟩
              | true =>
                have HN := hide (allT_step HY.out HAJ.out HSH.out)
                go_wp2
                go_roundw
                case rel => exact ⟨j + 1, by omega, by go_num, HN.out, H6.out.alloc (Nat.le_trans (by simp) H6.out.size) _⟩
                case measure => simp [intOf]; omega
            · have hjz : ¬ (j : Int) < (x.shn : Int) := by omega
              have HN := hide (allT_step HX.out HAK.out (by
                rw [HOK2.out, List.all_eq_true]
                intro u hu
                exact HAJ.out u (by rwa [List.take_of_length_le (by omega)])))
              go_wp2
              go_roundw
              case rel => exact ⟨k + 1, by omega, by go_num, HN.out, Z5.out⟩
              case measure => simp [intOf]; omega
        · have hid2 : a.nx ≤ x.id := by omega
          have HR := hide (show okOv (aqP a) = false by rw [HW3.out, allT_false HX.out (show okO a.nx a.f x = false by rw [HOK.out, decide_eq_false hid]; rfl)]; rfl)
          clear hid
          go_wp2
          go_ret
          exact ⟨ret_bool HR.out.symm, B1.out.alloc B1.out.size _⟩
      · have hkz : ¬ (k : Int) < (a.on : Int) := by omega
        have HW4 := hide (show okOv (aqP a) = a.f.all (okF a.o) by
          rw [HW3.out, show a.o.all (okO a.nx a.f) = true by
            rw [List.all_eq_true]
            intro u hu
            exact HAK.out u (by rwa [List.take_of_length_le (by have := HL2.out; omega)])]; rfl)
        have HRS := hide (fun id W (hW : Below w.heap.size w W) (hid : I64 id) => prsvA_any a id W ((HS.out.o.below hW).more hW.size) (fun x hx => ((HS.out.os x hx).below hW).more hW.size) HVO.out hid)
        unfold aqV at HRS
        clear HW3 HAK q5
        go_wp2
        clear hkz q1 X1 B1 hz1 hk
        go_loopw [65] (fun s65 wr => ∃ k : Nat, k ≤ a.fn ∧ s65 = .int .i64 k ∧ (∀ u ∈ a.f.take k, okF a.o u = true) ∧ Below (w.heap.size + 1) (w.alloc (.cells (aqC a) 27)) wr) (fun s65 _ => a.fn - (intOf s65).toNat)
        case atStart => exact ⟨0, Nat.zero_le _, rfl, by simp, Z1.out⟩
        case round =>
          clear Z1
          obtain ⟨k, hk, rfl, ha, hb⟩ := hrel
          have HAK := hide ha
          have Z1 := hide hb
          have X1 := hide (X0.out.below hb (by omega))
          have hz1 : w.heap.size + 1 ≤ wr.heap.size := by have := hb.size; simpa using this
          have B1 := hide (B0.out.trans (hb.mono (by omega)))
          clear ha hb
          by_cases hlt : k < a.fn
          · have hkz : (k : Int) < (a.fn : Int) := by omega
            obtain ⟨b, off, x, hA, hbB, hx, c0, c1, c2, c3, c4⟩ := Fs_at (HS.out.f.below B1.out) hlt
            have HX := hide hx
            have HOK := hide (show okF a.o x = (x.enc == rsvA a.o x.id) from rfl)
            have HRX := hide (fun W hW => HRS.out x.id W hW (HVF.out.W x (List.mem_of_getElem? hx)).id)
            obtain ⟨rv, hrv⟩ : ∃ rv, rsvA a.o x.id = rv := ⟨_, rfl⟩
            rw [hrv] at HOK HRX
            rw [hA] at HRX ⊢
            have HA := hide hA
            clear hx hrv
            go_wp2_with fail
            obtain ⟨W2, hW2⟩ : ∃ W2, W2 = wr.alloc (.cells #[.int .i64 x.id, .int .i64 x.parent, .int .i64 x.budget, .int .i64 x.enc, .int .i64 x.spent] 57) := ⟨_, rfl⟩
            have Y2 := Box.new wr 57 #[.int .i64 x.id, .int .i64 x.parent, .int .i64 x.budget, .int .i64 x.enc, .int .i64 x.spent]
            have B2 := hide (B1.out.alloc B1.out.size (.cells #[.int .i64 x.id, .int .i64 x.parent, .int .i64 x.budget, .int .i64 x.enc, .int .i64 x.spent] 57))
            have Z2 := hide (Z1.out.alloc hz1 (.cells #[.int .i64 x.id, .int .i64 x.parent, .int .i64 x.budget, .int .i64 x.enc, .int .i64 x.spent] 57))
            have X2 := X1.out.alloc (.cells #[.int .i64 x.id, .int .i64 x.parent, .int .i64 x.budget, .int .i64 x.enc, .int .i64 x.spent] 57)
            rw [← hW2] at Y2 B2 Z2 X2 ⊢
            clear hW2 c0 c1 c2 c3 c4
            have l0 := Y2.cell 0
            have l3 := Y2.cell 3
            have q0 := X2.cell 0
            have q1 := X2.cell 1
            have q2 := X2.cell 2
            have q3 := X2.cell 3
            have q4 := X2.cell 4
            have q5 := X2.cell 5
            simp at l0 l3 q0 q1 q2 q3 q4 q5
            rw [hA] at q1
            have f0 := Grn.cell q0
            have f1 := Grn.cell q1
            have f2 := Grn.cell q2
            have f3 := Grn.cell q3
            have f4 := Grn.cell q4
            have f5 := Grn.cell q5
            have g0 := Grn.cell l0
            have g3 := Grn.cell l3
            have hz2 := B2.out.size
            clear Y2 X2 hA
            by_cases hq : x.enc = rv
            · have hq' : (x.enc != rv) = false := by simpa using hq
              have HN := hide (allT_step HX.out HAK.out (by rw [HOK.out, hq]; simp))
              clear hq
              refine wp_region_grn (by kernel_rfl) (by kernel_rfl) ?_
              repeat (go_big_quiet_step ((go_at_call 39; exact Calls_grn (HRX.out _ (B2.out.trans ((Grn.h _).mono B2.out.size))))))
              refine wpQuiet_nil ?_
              rintro _ ⟨q, rfl⟩
              have Z4 := hide (Z2.out.trans (q.h.mono (Nat.le_trans (by simp) Z2.out.size)))
              go_wp2
              go_roundw
              case rel => exact ⟨k + 1, by omega, by go_num, HN.out, Z4.out⟩
              case measure => simp [intOf]; omega
            · have hq' : (x.enc != rv) = true := by simpa using hq
              have HR := hide (show okOv (aqP a) = false by rw [HW4.out, allT_false HX.out (show okF a.o x = false by rw [HOK.out]; simpa using hq)])
              clear hq
              refine wp_region_grn (by kernel_rfl) (by kernel_rfl) ?_
              repeat (go_big_quiet_step ((go_at_call 39; exact Calls_grn (HRX.out _ (B2.out.trans ((Grn.h _).mono B2.out.size))))))
              refine wpQuiet_nil ?_
              rintro _ ⟨q, rfl⟩
              have B4 := hide (B2.out.trans (q.h.mono B2.out.size))
              go_wp2
              go_ret
              exact ⟨ret_bool HR.out.symm, B4.out⟩
          · have hkz : ¬ (k : Int) < (a.fn : Int) := by omega
            have HR := hide (show okOv (aqP a) = true by
              rw [HW4.out, List.all_eq_true]
              intro u hu
              exact HAK.out u (by rwa [List.take_of_length_le (by have := HL1.out; omega)]))
            go_wp2
            go_ret
            exact ⟨ret_bool HR.out.symm, B1.out⟩
  · have HR := hide (show okOv (aqP a) = false by
      rw [HW2b.out]
      cases hq : winB a.nx 1 10000 with
      | false => rfl
      | true => exact absurd (winB_iff.1 hq) hnx)
    go_wp2
    all_goals first | (exfalso; omega) | (go_ret; exact ⟨ret_bool HR.out.symm, B2.out⟩)
end Go.Proofs.YtbhndfphegflhaaGreat

/- Walks: Plain, Small, fit of the law. -/
namespace Go.Proofs.YtbhndfphegflhaaGreat
open Go.RowKit

theorem plain_any (p : Pt) (w : World) : Calls Tryz.prog 42 #[ptV p] w fun e w' => e = .returned (.bool (decide (p.skn ≤ 20) && decide (p.dbn ≤ 20))) ∧ Below w.heap.size w w' := by
  have B0 := hide ((Below.refl w.heap.size w).alloc (Nat.le_refl _) (.cells (ptC p) 67))
  unfold ptV
  by_cases h1 : p.skn ≤ 20
  · have h1' : (p.skn : Int) ≤ 20 := by omega
    have HR := hide (show (decide (p.skn ≤ 20) && decide (p.dbn ≤ 20)) = decide ((p.dbn : Int) ≤ 20) by rw [decide_eq_true h1, Bool.true_and]; exact decide_eq_decide.2 (by omega))
    clear h1
    go_enter Tryz.func42, Tryz.ntmps42
    go_wp2
    go_ret
    exact ⟨ret_bool HR.out.symm, B0.out⟩
  · have h1' : ¬ (p.skn : Int) ≤ 20 := by omega
    have HR := hide (show (decide (p.skn ≤ 20) && decide (p.dbn ≤ 20)) = false by rw [decide_eq_false h1]; rfl)
    clear h1
    go_enter Tryz.func42, Tryz.ntmps42
    go_wp2
    go_ret
    exact ⟨ret_bool HR.out.symm, B0.out⟩

/-- What Small tells of a state, and the numbers of its funds and serials. -/
structure SmA (a : Aq) : Prop where
  fn : a.fn ≤ 12
  on : a.on ≤ 10
  bn : a.bn ≤ 20
  sn : a.sn ≤ 4
  fw : ∀ x ∈ a.f, FuW x
  os : ∀ x ∈ a.o, x.shn ≤ 8
  sw : ∀ x ∈ a.s, SeW x ∧ x.iun ≤ 60 ∧ x.nx ≤ 100 ∧ x.skn ≤ 20 ∧ x.dbn ≤ 20

set_option maxRecDepth 100000 in
set_option maxHeartbeats 4000000 in
theorem small_any (a : Aq) (w : World) (ho : AqO w a) :
    Calls Tryz.prog 15 #[aqV a] w fun e w' => ∃ q, e = .returned (.bool q) ∧ (q = true → SmA a) ∧ Below w.heap.size w w' := by
  have B0 := hide ((Below.refl w.heap.size w).alloc (Nat.le_refl _) (.cells (aqC a) 27))
  have Z0 := hide (Below.refl (w.heap.size + 1) (w.alloc (.cells (aqC a) 27)))
  have X0 := hide (Box.new w 27 (aqC a))
  unfold aqV
  by_cases hP : a.fn ≤ 12 ∧ a.on ≤ 10 ∧ a.bn ≤ 20 ∧ a.sn ≤ 4
  · obtain ⟨p1, p2, p3, p4⟩ := hP
    have p1' : ¬ (12 : Int) < (a.fn : Int) := by omega
    have p2' : ¬ (10 : Int) < (a.on : Int) := by omega
    have p3' : ¬ (20 : Int) < (a.bn : Int) := by omega
    have p4' : ¬ (4 : Int) < (a.sn : Int) := by omega
    have HF := hide (ho.f p1)
    have HO := hide (ho.o p2)
    have HB := hide (ho.b p3)
    have HS := hide (ho.s p4)
    have hl2 := HO.out.1.len
    have hl4 := HS.out.1.len
    have HL2 := hide hl2
    have HL4 := hide hl4
    have HP := hide (And.intro p1 (And.intro p2 (And.intro p3 p4)))
    have hb2 := HO.out.1.big
    have hb3 := HB.out.big
    have hb4 := HS.out.1.big
    clear ho hl2 hl4 p1 p2 p3 p4
    go_enter Tryz.func15, Tryz.ntmps15
    go_wp2
    clear p1' p2' p3' p4'
    go_loopw [3] (fun s3 wr => ∃ k : Nat, k ≤ a.on ∧ s3 = .int .i64 k ∧ (∀ u ∈ a.o.take k, decide (u.shn ≤ 8) = true) ∧ Below (w.heap.size + 1) (w.alloc (.cells (aqC a) 27)) wr) (fun s3 _ => a.on - (intOf s3).toNat)
    case atStart => exact ⟨0, Nat.zero_le _, rfl, by simp, Z0.out⟩
    case round =>
      clear Z0
      obtain ⟨k, hk, rfl, ha, hb⟩ := hrel
      have HAK := hide ha
      have Z1 := hide hb
      have X1 := hide (X0.out.below hb (by omega))
      have B1 := hide (B0.out.trans (hb.mono (by omega)))
      have q2 := X1.out.cell 2
      have q3 := X1.out.cell 3
      simp at q2 q3
      clear ha hb
      by_cases hlt : k < a.on
      · have hkz : (k : Int) < (a.on : Int) := by omega
        obtain ⟨b, off, x, hA, hbB, hx, c0, c1, c2, c3, c4, c5, c6, c7, c8, c9⟩ := Ods_at (HO.out.1.below B1.out) hlt
        rw [hA] at q2
        have HX := hide hx
        clear hx hA c0 c1 c2 c3 c4 c5 c6 c7 c8
        by_cases h8 : x.shn ≤ 8
        · have h8' : ¬ (8 : Int) < (x.shn : Int) := by omega
          have HN := hide (allT_step HX.out HAK.out (decide_eq_true h8))
          clear h8
          go_wp2
          go_roundw
          case rel => exact ⟨k + 1, by omega, by go_num, HN.out, Z1.out⟩
          case measure => simp [intOf]; omega
        · have h8' : (8 : Int) < (x.shn : Int) := by omega
          clear h8
          go_wp2
          go_ret
          first | exact ⟨false, rfl, (fun h => absurd h (by decide)), B1.out⟩ | exact Or.inl ⟨rfl, B1.out⟩
      · have hkz : ¬ (k : Int) < (a.on : Int) := by omega
        have HSH := hide (show ∀ x ∈ a.o, x.shn ≤ 8 from fun x hx => of_decide_eq_true (HAK.out x (by rwa [List.take_of_length_le (by have := HL2.out; omega)])))
        clear HAK
        go_wp2
        clear q2 q3 X1 B1 hkz hlt
        go_loopw [4] (fun s4 wr => ∃ k : Nat, k ≤ a.bn ∧ s4 = .int .i64 k ∧ Below (w.heap.size + 1) (w.alloc (.cells (aqC a) 27)) wr) (fun s4 _ => a.bn - (intOf s4).toNat)
        case atStart => exact ⟨0, Nat.zero_le _, rfl, Z1.out⟩
        case round =>
          clear Z1
          clear hk
          obtain ⟨k, hk, rfl, hb⟩ := hrel
          have Z1 := hide hb
          have X1 := hide (X0.out.below hb (by omega))
          have hz1 : w.heap.size + 1 ≤ wr.heap.size := by have := hb.size; simpa using this
          have B1 := hide (B0.out.trans (hb.mono (by omega)))
          have q3 := X1.out.cell 3
          have q4 := X1.out.cell 4
          simp at q3 q4
          clear hb
          by_cases hlt : k < a.bn
          · have hkz : (k : Int) < (a.bn : Int) := by omega
            obtain ⟨b, off, x, hA, hbB, hx, c0, c1, c2, c3, c4⟩ := Bls_at (HB.out.below B1.out) hlt
            rw [hA] at q3
            clear hx hA q4
            go_wp2
            all_goals first
              | (go_roundw
                 case rel => exact ⟨k + 1, by omega, by go_num, Z1.out.alloc hz1 _⟩
                 case measure => simp [intOf]; omega)
              | (go_ret
                 first | exact ⟨false, rfl, (fun h => absurd h (by decide)), B1.out.alloc B1.out.size _⟩ | exact Or.inl ⟨rfl, B1.out.alloc B1.out.size _⟩)
          · have hkz : ¬ (k : Int) < (a.bn : Int) := by omega
            go_wp2
            clear q3 q4 X1 B1 hkz hlt hz1
            go_loopw [6] (fun s6 wr => ∃ k : Nat, k ≤ a.sn ∧ s6 = .int .i64 k ∧ (∀ u ∈ a.s.take k, decide (u.iun ≤ 60 ∧ u.nx ≤ 100 ∧ u.skn ≤ 20 ∧ u.dbn ≤ 20) = true) ∧ Below (w.heap.size + 1) (w.alloc (.cells (aqC a) 27)) wr) (fun s6 _ => a.sn - (intOf s6).toNat)
            case atStart => exact ⟨0, Nat.zero_le _, rfl, by simp, Z1.out⟩
            case round =>
              clear Z1
              clear hk
              obtain ⟨k, hk, rfl, ha, hb⟩ := hrel
              have HAK := hide ha
              have Z1 := hide hb
              have X1 := hide (X0.out.below hb (by omega))
              have hz1 : w.heap.size + 1 ≤ wr.heap.size := by have := hb.size; simpa using this
              have B1 := hide (B0.out.trans (hb.mono (by omega)))
              have q4 := X1.out.cell 4
              simp at q4
              clear ha hb
              by_cases hlt : k < a.sn
              · have hkz : (k : Int) < (a.sn : Int) := by omega
                obtain ⟨b, off, x, hA, hbB, hx, c0, c1, c2, c3, c4, c5, c6, c7, c8⟩ := Ses_at (HS.out.1.below B1.out) hlt
                rw [hA] at q4
                have HX := hide hx
                have HPL := hide (plain_any (sePt x) (wr.alloc (.cells (seC x) 76)))
                have B2 := hide (B1.out.alloc B1.out.size (.cells (seC x) 76))
                have Z2 := hide (Z1.out.alloc hz1 (.cells (seC x) 76))
                obtain ⟨q, hq⟩ : ∃ q, (decide ((sePt x).skn ≤ 20) && decide ((sePt x).dbn ≤ 20)) = q := ⟨_, rfl⟩
                rw [hq] at HPL
                have HQ := hide hq
                unfold ptV sePt at HPL
                clear hx hA hq
                by_cases h60 : x.iun ≤ 60 ∧ x.nx ≤ 100
                · obtain ⟨g1, g2⟩ := h60
                  have g1' : ¬ (60 : Int) < (x.iun : Int) := by omega
                  have g2' : ¬ (100 : Int) < x.nx := by omega
                  have HG := hide (And.intro g1 g2)
                  clear g1 g2
                  go_wp2_with fail
                  refine HPL.out.mono ?_
                  rintro e w2 ⟨rfl, hb⟩
                  have B3 := hide (B2.out.trans (hb.mono B2.out.size))
                  have Z3 := hide (Z2.out.trans (hb.mono (by simp; omega)))
                  clear hb HPL c0 c1 c2 c3 c4 c5 c6 c7 c8 q4
                  cases q with
                  | false =>
                    go_wp2
                    go_ret
                    first | exact ⟨false, rfl, (fun h => absurd h (by decide)), B3.out⟩ | exact Or.inl ⟨rfl, B3.out⟩
                  | true =>
                    have HN := hide (allT_step HX.out HAK.out (show decide (x.iun ≤ 60 ∧ x.nx ≤ 100 ∧ x.skn ≤ 20 ∧ x.dbn ≤ 20) = true by
                      have h := HQ.out
                      rw [Bool.and_eq_true, decide_eq_true_eq, decide_eq_true_eq] at h
                      exact decide_eq_true ⟨HG.out.1, HG.out.2, h.1, h.2⟩))
                    go_wp2
                    go_roundw
                    case rel => exact ⟨k + 1, by omega, by go_num, HN.out, Z3.out⟩
                    case measure => simp [intOf]; omega
                · go_wp2
                  all_goals first
                    | (exfalso; omega)
                    | (go_ret
                       first | exact ⟨false, rfl, (fun h => absurd h (by decide)), B2.out⟩ | exact Or.inl ⟨rfl, B2.out⟩)
              · have hkz : ¬ (k : Int) < (a.sn : Int) := by omega
                have HSS := hide (show ∀ x ∈ a.s, x.iun ≤ 60 ∧ x.nx ≤ 100 ∧ x.skn ≤ 20 ∧ x.dbn ≤ 20 from fun x hx => of_decide_eq_true (HAK.out x (by rwa [List.take_of_length_le (by have := HL4.out; omega)])))
                go_wp2
                go_ret
                have hsm : SmA a := ⟨HP.out.1, HP.out.2.1, HP.out.2.2.1, HP.out.2.2.2, HF.out.2, HSH.out, fun x hx => ⟨(HS.out.2 x hx).1, HSS.out x hx⟩⟩
                first | exact ⟨true, rfl, (fun _ => hsm), B1.out⟩ | exact Or.inr ⟨rfl, hsm, B1.out⟩
  · clear ho
    go_enter Tryz.func15, Tryz.ntmps15
    go_wp2
    all_goals first
      | (exfalso; omega)
      | (go_ret
         first | exact ⟨false, rfl, (fun h => absurd h (by decide)), B0.out⟩ | exact Or.inl ⟨rfl, B0.out⟩)

theorem AqO.st {w : World} {a : Aq} (ho : AqO w a) (h : SmA a) : AqS w w.heap.size a :=
  ⟨(ho.f h.fn).1, (ho.o h.on).1, fun x hx => (ho.o h.on).2 x hx (h.os x hx), ho.b h.bn, (ho.s h.sn).1, fun x hx => by
    obtain ⟨_, h1, h2, h3⟩ := (ho.s h.sn).2 x hx
    obtain ⟨_, m1, _, m3, m4⟩ := h.sw x hx
    exact ⟨⟨h2 m3, h3 m4⟩, h1 m1⟩⟩
theorem AqO.below {w W : World} {a : Aq} (ho : AqO w a) (hW : Below w.heap.size w W) : AqO W a :=
  ⟨fun h => ⟨(((ho.f h).1).below hW).more hW.size, (ho.f h).2⟩, fun h => ⟨(((ho.o h).1).below hW).more hW.size, fun x hx h8 => (((ho.o h).2 x hx h8).below hW).more hW.size⟩, fun h => ((ho.b h).below hW).more hW.size,
    fun h => ⟨(((ho.s h).1).below hW).more hW.size, fun x hx => by
      obtain ⟨h1, h2, h3, h4⟩ := (ho.s h).2 x hx
      exact ⟨h1, fun g => ((h2 g).below hW).more hW.size, fun g => ((h3 g).below hW).more hW.size, fun g => ((h4 g).below hW).more hW.size⟩⟩⟩

set_option maxRecDepth 100000 in
set_option maxHeartbeats 1000000 in
theorem fit_any (a : Aq) (w : World) (ho : AqO w a) :
    Calls Tryz.prog 18 #[aqV a] w fun e w' => ∃ q, e = .returned (.bool q) ∧ (q = true → SmA a ∧ okA (aqP a) = true) ∧ Below w.heap.size w w' := by
  have B0 := hide ((Below.refl w.heap.size w).alloc (Nat.le_refl _) (.cells (aqC a) 27))
  have X0 := hide (Box.new w 27 (aqC a))
  have HSM := hide (small_any a _ (ho.below B0.out))
  have HO := hide ho
  clear ho
  unfold aqV at HSM ⊢
  go_enter Tryz.func18, Tryz.ntmps18
  go_wp2_with fail
  refine HSM.out.mono ?_
  rintro e w1 ⟨q, rfl, hq, hb⟩
  have HQ := hide hq
  have B1 := hide (B0.out.trans (hb.mono B0.out.size))
  have X1 := hide (X0.out.below hb (by simp))
  clear hq hb HSM
  cases q with
  | false =>
    go_wp2
    go_ret
    first | exact ⟨false, rfl, (fun h => absurd h (by decide)), B1.out⟩ | exact Or.inl ⟨rfl, B1.out⟩
  | true =>
    have HSA := hide (HQ.out rfl)
    have HR := hide (rrightA_any a w1 (((HO.out.st HSA.out).below B1.out).more B1.out.size))
    unfold aqV at HR
    have q0 := X1.out.cell 0
    have q1 := X1.out.cell 1
    have q2 := X1.out.cell 2
    have q3 := X1.out.cell 3
    have q4 := X1.out.cell 4
    have q5 := X1.out.cell 5
    simp at q0 q1 q2 q3 q4 q5
    obtain ⟨v, hv⟩ : ∃ v, okA (aqP a) = v := ⟨_, rfl⟩
    have HV := hide hv
    rw [hv] at HR
    clear hv
    go_wp2_with fail
    refine HR.out.mono ?_
    rintro e w2 ⟨rfl, hb⟩
    have B2 := hide (B1.out.trans (hb.mono B1.out.size))
    clear hb HR
    cases v with
    | false =>
      go_wp2
      go_ret
      first | exact ⟨false, rfl, (fun h => absurd h (by decide)), B2.out⟩ | exact Or.inl ⟨rfl, B2.out⟩
    | true =>
      go_wp2
      go_ret
      have hsm := HSA.out
      have hv := HV.out
      simp [hsm, hv, B2.out]
end Go.Proofs.YtbhndfphegflhaaGreat
