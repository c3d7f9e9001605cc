/- Texts laid together by merge.py: AqD. -/
import Derived.Test.YtbhndfphegflhaaGreatMrg20
import Derived.Test.YtbhndfphegflhaaGreatMrg34
import Derived.Test.YtbhndfphegflhaaGreatMrg18
import Derived.Test.YtbhndfphegflhaaGreatMrg12
import Derived.Test.YtbhndfphegflhaaGreatMrg1
set_option linter.unusedSimpArgs false
set_option linter.unusedVariables false
/- Walks: Right of the reference (states). Printed by gen_aq_d.py. -/
namespace Go.Proofs.YtbhndfphegflhaaGreat
open Go.RowKit

theorem allT_step {α : Type} {p : α → Bool} {xs : List α} {k : Nat} {x : α} (h : xs[k]? = some x) (ha : ∀ u ∈ xs.take k, p u = true) (hz : p x = true) : ∀ u ∈ xs.take (k + 1), p u = true := by
  intro u hu
  rw [take_step h] at hu
  rcases List.mem_append.1 hu with hu | hu
  · exact ha u hu
  · rw [List.mem_singleton.1 hu]; exact hz
theorem allT_false {α : Type} {p : α → Bool} {xs : List α} {k : Nat} {x : α} (h : xs[k]? = some x) (hz : p x = false) : xs.all p = false :=
  List.all_eq_false.2 ⟨x, List.mem_of_getElem? h, by rw [hz]; decide⟩

set_option maxRecDepth 100000 in
set_option maxHeartbeats 32000000 in
theorem rrightA_any (a : Aq) (w : World) (hs : AqS w w.heap.size a) :
    Calls Tryz.prog 17 #[aqV a] w fun e w' => e = .returned (.bool (okA (aqP a))) ∧ Below w.heap.size w w' := by
  have B0 := hide ((Below.refl w.heap.size w).alloc (Nat.le_refl _) (.cells (aqC a) 27))
  have Z0 := hide (Below.refl (w.heap.size + 1) (w.alloc (.cells (aqC a) 27)))
  have X0 := hide (Box.new w 27 (aqC a))
  have hl1 := hs.f.len
  have hl2 := hs.o.len
  have hl4 := hs.s.len
  have hb1 := hs.f.big
  have hb2 := hs.o.big
  have hb4 := hs.s.big
  have HS := hide hs
  have HL1 := hide hl1
  have HL2 := hide hl2
  have HL4 := hide hl4
  clear hs hl1 hl2 hl4
  unfold aqV
  by_cases hyr : 1900 ≤ a.yr ∧ a.yr ≤ 2199 ∧ 1 ≤ a.nx ∧ a.nx ≤ 10000
  · have HW := hide (show okA (aqP a) = ((rightR a.f == 0) && (rightO a.o == 0) && (a.o.all (okO a.nx a.f) && a.f.all (okF a.o)) && decide (a.s.length ≤ 16) && okSes none a.s && okBills a.o a.b) by
      unfold okA ok1 ok2 aqP
      rw [winB_iff.2 ⟨hyr.1, hyr.2.1⟩, winB_iff.2 hyr.2.2]
      simp only [Bool.true_and])
    obtain ⟨y1, y2, y3, y4⟩ := hyr
    have H38 := hide (rright_any a.fA a.fn a.fc a.f _ ((HS.out.f.below B0.out).more B0.out.size))
    have H39 := hide (fun W (hW : Below w.heap.size w W) => r39right_any a.oA a.on a.oc a.o W ((HS.out.o.below hW).more hW.size) (fun x hx => ((HS.out.os x hx).below hW).more hW.size))
    obtain ⟨m1, hm1⟩ : ∃ m, rightR a.f = m := ⟨_, rfl⟩
    obtain ⟨m2, hm2⟩ : ∃ m, rightO a.o = m := ⟨_, rfl⟩
    rw [hm1] at H38 HW
    rw [hm2] at H39 HW
    have HM1 := hide hm1
    have HM2 := hide hm2
    clear hm1 hm2
    go_enter Tryz.func17, Tryz.ntmps17
    go_wp2_with fail
    refine H38.out.mono ?_
    rintro e w1 ⟨rfl, hb⟩
    have B1 := hide (B0.out.trans (hb.mono B0.out.size))
    have Z1 := hide (hb.mono (show w.heap.size + 1 ≤ _ by simp))
    have X1 := hide (X0.out.below hb (by simp))
    have hc := fun j => X1.out.cell j
    have q2 := hc 2
    simp at q2
    have H39' := hide (H39.out _ B1.out)
    clear hb H38 H39 hc
    by_cases hz1 : (m1 != 0) = true
    · have HR := hide (show okA (aqP a) = false by rw [HW.out, show (m1 == 0) = false by simpa using hz1]; rfl)
      clear HW
      go_wp2
      go_ret
      exact ⟨ret_bool HR.out.symm, B1.out⟩
    have hz1' : (m1 != 0) = false := by simpa using hz1
    have hm10 : m1 = 0 := by simpa using hz1
    have HVF := hide (vld_of (by rw [HM1.out, hm10]))
    have HW2 := hide (show okA (aqP a) = ((m2 == 0) && (a.o.all (okO a.nx a.f) && a.f.all (okF a.o)) && decide (a.s.length ≤ 16) && okSes none a.s && okBills a.o a.b) by rw [HW.out, hm10]; rfl)
    clear hz1 hm10 HW HM1
    go_wp2_with fail
    refine H39'.out.mono ?_
    rintro e w2 ⟨rfl, hb⟩
    have B2 := hide (B1.out.trans (hb.mono B1.out.size))
    have Z2 := hide (Z1.out.trans (hb.mono (show w.heap.size + 1 ≤ _ from Nat.lt_of_lt_of_le (Nat.lt_succ_self _) (Nat.le_trans (by simp) Z1.out.size))))
    have X2 := hide (X1.out.below hb X1.out.lt)
    have HZ1 := hide hz1'
    clear hb H39' q2 hz1' X1 Z1 B1
    by_cases hz2 : (m2 != 0) = true
    · have HR := hide (show okA (aqP a) = false by rw [HW2.out, show (m2 == 0) = false by simpa using hz2]; rfl)
      clear HW2
      go_wp2
      go_ret
      exact ⟨ret_bool HR.out.symm, B2.out⟩
    have hz2' : (m2 != 0) = false := by simpa using hz2
    have hm20 : m2 = 0 := by simpa using hz2
    have HVO := hide (VldO.of (by rw [HM2.out, hm20]))
    have HW3 := hide (show okA (aqP a) = ((a.o.all (okO a.nx a.f) && a.f.all (okF a.o)) && decide (a.s.length ≤ 16) && okSes none a.s && okBills a.o a.b) by rw [HW2.out, hm20]; rfl)
    clear hz2 hm20 HW2 HM2
    go_wp2
    clear hz2' X2 B2
    go_loopw [3] (fun s3 wr => ∃ k : Nat, k ≤ a.on ∧ s3 = .int .i64 k ∧ (∀ u ∈ a.o.take k, okO a.nx a.f u = true) ∧ Below (w.heap.size + 1) (w.alloc (.cells (aqC a) 27)) wr) (fun s3 _ => a.on - (intOf s3).toNat)
    case atStart => exact ⟨0, Nat.zero_le _, rfl, by simp, Z2.out⟩
    case round =>
      clear Z2
      obtain ⟨k, hk, rfl, ha, hb⟩ := hrel
      have HAK := hide ha
      have Z1 := hide hb
      have X1 := hide (X0.out.below hb (by omega))
      have hz1 : w.heap.size + 1 ≤ wr.heap.size := by have := hb.size; simpa using this
      have B1 := hide (B0.out.trans (hb.mono (by omega)))
      have q2 := X1.out.cell 2
      have q5 := X1.out.cell 5
      simp at q2 q5
      clear ha hb
      by_cases hlt : k < a.on
      · have hkz : (k : Int) < (a.on : Int) := by omega
        obtain ⟨b, off, x, hA, hbB, hx, c0, c1, c2, c3, c4, c5, c6, c7, c8, c9⟩ := Ods_at (HS.out.o.below B1.out) hlt
        rw [hA] at q2
        have a5 := fun o => (World.cell?_alloc_lt wr o ⟨w.heap.size, 5, none⟩ (by show w.heap.size < _; omega)).trans q5
        have HX := hide hx
        have HOK := hide (show okO a.nx a.f x = (decide (x.id < a.nx) && x.sh.all (shHas a.f)) from rfl)
        clear hx hA
        by_cases hid : x.id < a.nx
        · have hidn : ¬ a.nx ≤ x.id := by omega
          have HOK2 := hide (show okO a.nx a.f x = x.sh.all (shHas a.f) by rw [HOK.out, decide_eq_true hid]; rfl)
          have HOS := hide (HS.out.os x (List.mem_of_getElem? HX.out))
          have hsl := HOS.out.len
          have hsb := HOS.out.big
          clear hid HOK
          go_wp2
          clear hidn a5 q2 q5 c0 c1 c2 c3 c4 c5 c6 c7 c8 c9
          obtain ⟨W1, hW1⟩ : ∃ W1, W1 = wr := ⟨_, rfl⟩
          rw [← hW1] at B1 Z1 hz1 X1 ⊢
          clear hW1
          go_loopw [5] (fun s5 wr' => ∃ j : Nat, j ≤ x.shn ∧ s5 = .int .i64 j ∧ (∀ u ∈ x.sh.take j, shHas a.f u = true) ∧ Below (W1.heap.size + 1) (W1.alloc (.cells (odC x) 35)) wr') (fun s5 _ => x.shn - (intOf s5).toNat)
          case atStart => exact ⟨0, Nat.zero_le _, rfl, by simp, Below.refl _ _⟩
          case round =>
            obtain ⟨j, hj, rfl, ha, hb⟩ := hrel
            have HAJ := hide ha
            have Y5 := hide ((Box.new _ _ _).below hb (Nat.lt_succ_self _))
            have B5 := hide ((B1.out.alloc B1.out.size _).trans (hb.mono (Nat.le_trans B1.out.size (Nat.le_succ _))))
            have Z5 := hide ((Z1.out.alloc hz1 _).trans (hb.mono (Nat.le_trans hz1 (Nat.le_succ _))))
            have X5 := hide (X0.out.below Z5.out (by omega))
            have hz5 : w.heap.size + 1 ≤ wr.heap.size := by have := Z5.out.size; simpa using this
            have hzb := hb.size
            have HBJ := hide hb
            have q1 := X5.out.cell 1
            simp at q1
            have l9 := Y5.out.cell 9
            simp at l9
            clear ha hb
            by_cases hjl : j < x.shn
            · have hjz : (j : Int) < (x.shn : Int) := by omega
              obtain ⟨b', off', y, hA', hbB', hy, d0, d1⟩ := Shs_at (HOS.out.below B5.out) hjl
              rw [hA'] at l9
              have HY := hide hy
              have HG := hide (fun W (hW : Below w.heap.size w W) => frget_any a.fA a.fn a.fc a.f y.fund W ((HS.out.f.below hW).more hW.size))
              have HSH := hide (show shHas a.f y = (getF a.f y.fund).2 from rfl)
              obtain ⟨gf, gb, hg⟩ : ∃ gf gb, getF a.f y.fund = (gf, gb) := ⟨_, _, rfl⟩
              rw [hg] at HG HSH
              unfold fuV at HG
              clear hy hA' hg d1
              go_wp2_with fail
              have hjb := HBJ.out.size
              simp only [World.size_alloc] at hjb
              have hly := Y5.out.lt
              have HG5 := hide (fun W (h : Hid (Below wr.heap.size wr W)) => HG.out W (B5.out.trans (h.out.mono B5.out.size)))
              have HKS := hide (fun W (h : Hid (Below wr.heap.size wr W)) => And.intro h (And.intro ((h.out.cell (p := ⟨w.heap.size, 1, none⟩) (by show w.heap.size < _; omega)).trans q1) (And.intro ((h.out.cell (p := ⟨W1.heap.size, 9, none⟩) hly).trans l9) ((h.out.cell (p := ⟨b', off' + j * 2, none⟩) (by show b' < _; omega)).trans d0))))
              have H0 := hide (Below.refl wr.heap.size wr).drew
              have HKB := hide (fun w6 (hb6 : Below (wr.alloc (.cells #[.int .i64 0, .int .i64 0, .int .i64 0, .int .i64 0, .int .i64 0] 57)).drew.heap.size (wr.alloc (.cells #[.int .i64 0, .int .i64 0, .int .i64 0, .int .i64 0, .int .i64 0] 57)).drew w6) =>
                have YB : Box w6 wr.heap.size 57 #[.int .i64 0, .int .i64 0, .int .i64 0, .int .i64 0, .int .i64 0] := Box.below (Box.drew (Box.new wr 57 _)) hb6 (by show wr.heap.size < (wr.alloc _).heap.size; rw [World.size_alloc]; omega)
                (And.intro (YB.cell 0) (And.intro (YB.cell 1) (And.intro (YB.cell 2) (And.intro (YB.cell 3) (And.intro (YB.cell 4) (And.intro (YB.frz 0) (And.intro (YB.frz 1) (And.intro (YB.frz 2) (And.intro (YB.frz 3) (YB.frz 4)))))))))))
              go_region_held3 (fun w' => Hid (Below wr.heap.size wr w') ∧ w'.cell? ⟨w.heap.size, 1, none⟩ = some (.slice a.fA a.fn a.fc) ∧ w'.cell? ⟨W1.heap.size, 9, none⟩ = some (.slice (some ⟨b', off', none⟩) x.shn x.shc) ∧ w'.cell? ⟨b', off' + j * 2, none⟩ = some (.int .i64 y.fund))
                (first | exact HKS.out _ H0 | exact HKS.out _ hS6 | exact HKS.out _ (hbel_alloc H0 _) | exact HKS.out _ (hbel_alloc hS6 _) | exact HKS.out _ (hbel_set5 hS6 _ _ _ _ _))
                (first
                  | (go_at_call 57; refine (HG5.out _ ?_).mono ?_; (first | exact H0 | exact hbel_alloc H0 _); rintro e w6 ⟨rfl, hb6⟩; first | (have hS6 := hbel_call H0 hb6) | (have hS6 := hbel_call (hbel_alloc H0 _) hb6; obtain ⟨s0, s1, s2, s3, s4, z0, z1, z2, z3, z4⟩ := HKB.out _ hb6; simp at s0 s1 s2 s3 s4)))
              all_goals
                have hS7 := hS6
                have B6 := hide (B5.out.trans (hS7.out.mono B5.out.size))
                have H6 := hide (HBJ.out.trans (hS7.out.mono hjb))
                cases gb with
                | false =>
                  have HR := hide (show okA (aqP a) = false by rw [HW3.out, allT_false HX.out (show okO a.nx a.f x = false by rw [HOK2.out, allT_false HY.out HSH.out])]; rfl)
                  go_wp2
                  go_ret
                  first
                    | exact ⟨ret_bool HR.out.symm, B6.out.alloc B6.out.size _⟩
                    | exact ⟨ret_bool HR.out.symm, below_box5 B6.out B5.out.size _ _ _ _ _⟩
                | true =>
                  have HN := hide (allT_step HY.out HAJ.out HSH.out)
                  go_wp2
                  go_roundw
                  case rel =>
                    first
                      | exact ⟨j + 1, by omega, by go_num, HN.out, H6.out.alloc (Nat.le_trans (by simp) H6.out.size) _⟩
                      | exact ⟨j + 1, by omega, by go_num, HN.out, below_box5 H6.out hjb _ _ _ _ _⟩
                  case measure => simp [intOf]; omega
            · have hjz : ¬ (j : Int) < (x.shn : Int) := by omega
              have HN := hide (allT_step HX.out HAK.out (by
                rw [HOK2.out, List.all_eq_true]
                intro u hu
                exact HAJ.out u (by rwa [List.take_of_length_le (by omega)])))
              go_wp2
              go_roundw
              case rel => exact ⟨k + 1, by omega, by go_num, HN.out, Z5.out⟩
              case measure => simp [intOf]; omega
        · have hid2 : a.nx ≤ x.id := by omega
          have HR := hide (show okA (aqP a) = false by rw [HW3.out, allT_false HX.out (show okO a.nx a.f x = false by rw [HOK.out, decide_eq_false hid]; rfl)]; rfl)
          clear hid
          go_wp2
          go_ret
          exact ⟨ret_bool HR.out.symm, B1.out.alloc B1.out.size _⟩
      · have hkz : ¬ (k : Int) < (a.on : Int) := by omega
        have HW4 := hide (show okA (aqP a) = (a.f.all (okF a.o) && decide (a.s.length ≤ 16) && okSes none a.s && okBills a.o a.b) by
          rw [HW3.out, show a.o.all (okO a.nx a.f) = true by
            rw [List.all_eq_true]
            intro u hu
            exact HAK.out u (by rwa [List.take_of_length_le (by have := HL2.out; omega)])]; rfl)
        have HRS := hide (fun id W (hW : Below w.heap.size w W) => rrsvA_any a id W ((HS.out.o.below hW).more hW.size) (fun x hx => ((HS.out.os x hx).below hW).more hW.size) HVO.out)
        unfold aqV at HRS
        clear HW3 HAK q5
        go_wp2
        clear hkz q2 X1 B1 hz1 hk
        go_loopw [8] (fun s8 wr => ∃ k : Nat, k ≤ a.fn ∧ s8 = .int .i64 k ∧ (∀ u ∈ a.f.take k, okF a.o u = true) ∧ Below (w.heap.size + 1) (w.alloc (.cells (aqC a) 27)) wr) (fun s8 _ => a.fn - (intOf s8).toNat)
        case atStart => exact ⟨0, Nat.zero_le _, rfl, by simp, Z1.out⟩
        case round =>
          clear Z1
          obtain ⟨k, hk, rfl, ha, hb⟩ := hrel
          have HAK := hide ha
          have Z1 := hide hb
          have X1 := hide (X0.out.below hb (by omega))
          have hz1 : w.heap.size + 1 ≤ wr.heap.size := by have := hb.size; simpa using this
          have B1 := hide (B0.out.trans (hb.mono (by omega)))
          have q0 := X1.out.cell 0
          have q1 := X1.out.cell 1
          have q2 := X1.out.cell 2
          have q3 := X1.out.cell 3
          have q4 := X1.out.cell 4
          have q5 := X1.out.cell 5
          simp at q0 q1 q2 q3 q4 q5
          clear ha hb
          by_cases hlt : k < a.fn
          · have hkz : (k : Int) < (a.fn : Int) := by omega
            obtain ⟨b, off, x, hA, hbB, hx, c0, c1, c2, c3, c4⟩ := Fs_at (HS.out.f.below B1.out) hlt
            have HX := hide hx
            have HOK := hide (show okF a.o x = (x.enc == rsvA a.o x.id) from rfl)
            have HRX := hide (fun W hW => HRS.out x.id W hW)
            obtain ⟨rv, hrv⟩ : ∃ rv, rsvA a.o x.id = rv := ⟨_, rfl⟩
            rw [hrv] at HOK HRX
            rw [hA] at q1 HRX
            have f0 := Grn.cell q0
            have f1 := Grn.cell q1
            have f2 := Grn.cell q2
            have f3 := Grn.cell q3
            have f4 := Grn.cell q4
            have f5 := Grn.cell q5
            have g0 := Grn.cell c0
            have g3 := Grn.cell c3
            clear hx hA hrv c1 c2 c4
            by_cases hq : x.enc = rv
            · have hq' : (x.enc != rv) = false := by simpa using hq
              have HN := hide (allT_step HX.out HAK.out (by rw [HOK.out, hq]; simp))
              clear hq
              go_wp2_with fail
              refine wp_region_grn (by kernel_rfl) (by kernel_rfl) ?_
              repeat (go_big_quiet_step ((go_at_call 40; exact Calls_grn (HRX.out _ (B1.out.trans ((Grn.h _).mono B1.out.size))))))
              refine wpQuiet_nil ?_
              rintro _ ⟨q, rfl⟩
              have Z4 := hide (Z1.out.trans (q.h.mono hz1))
              go_wp2
              go_roundw
              case rel => exact ⟨k + 1, by omega, by go_num, HN.out, Z4.out⟩
              case measure => simp [intOf]; omega
            · have hq' : (x.enc != rv) = true := by simpa using hq
              have HR := hide (show okA (aqP a) = false by rw [HW4.out, allT_false HX.out (show okF a.o x = false by rw [HOK.out]; simpa using hq)]; rfl)
              clear hq
              go_wp2_with fail
              refine wp_region_grn (by kernel_rfl) (by kernel_rfl) ?_
              repeat (go_big_quiet_step ((go_at_call 40; exact Calls_grn (HRX.out _ (B1.out.trans ((Grn.h _).mono B1.out.size))))))
              refine wpQuiet_nil ?_
              rintro _ ⟨q, rfl⟩
              have B4 := hide (B1.out.trans (q.h.mono B1.out.size))
              go_wp2
              go_ret
              exact ⟨ret_bool HR.out.symm, B4.out⟩
          · have hkz : ¬ (k : Int) < (a.fn : Int) := by omega
            have HW5 := hide (show okA (aqP a) = (decide (a.s.length ≤ 16) && okSes none a.s && okBills a.o a.b) by
              rw [HW4.out, show a.f.all (okF a.o) = true by
                rw [List.all_eq_true]
                intro u hu
                exact HAK.out u (by rwa [List.take_of_length_le (by have := HL1.out; omega)])]; rfl)
            clear HW4 HAK HRS
            by_cases h16 : 16 < a.sn
            · have HR := hide (show okA (aqP a) = false by rw [HW5.out, decide_eq_false (by have := HL4.out; omega)]; rfl)
              have hz16 : (16 : Int) < (a.sn : Int) := by omega
              go_wp2
              go_ret
              exact ⟨ret_bool HR.out.symm, B1.out⟩
            have hz16 : ¬ (16 : Int) < (a.sn : Int) := by omega
            have HW6 := hide (show okA (aqP a) = (okSes none a.s && okBills a.o a.b) by rw [HW5.out, decide_eq_true (by have := HL4.out; omega)]; rfl)
            clear HW5 h16
            go_wp2
            clear hkz hz16 q0 q1 q2 q3 q4 q5 X1 B1 hz1 hk
            go_loopw [9] (fun s9 wr => ∃ k : Nat, k ≤ a.sn ∧ s9 = .int .i64 k ∧ okSes none a.s = okSes (prevS a.s k) (a.s.drop k) ∧ Below (w.heap.size + 1) (w.alloc (.cells (aqC a) 27)) wr) (fun s9 _ => a.sn - (intOf s9).toNat)
            case atStart => exact ⟨0, Nat.zero_le _, rfl, rfl, Z1.out⟩
            case round =>
              clear Z1
              obtain ⟨k, hk, rfl, ha, hb⟩ := hrel
              have HAK := hide ha
              have Z1 := hide hb
              have X1 := hide (X0.out.below hb (by omega))
              have hz1 : w.heap.size + 1 ≤ wr.heap.size := by have := hb.size; simpa using this
              have B1 := hide (B0.out.trans (hb.mono (by omega)))
              have q0 := X1.out.cell 0
              have q1 := X1.out.cell 1
              have q2 := X1.out.cell 2
              have q3 := X1.out.cell 3
              have q4 := X1.out.cell 4
              have q5 := X1.out.cell 5
              simp at q0 q1 q2 q3 q4 q5
              clear ha hb
              by_cases hlt : k < a.sn
              · have hkz : (k : Int) < (a.sn : Int) := by omega
                obtain ⟨b, off, x, hA, hbB, hx, c0, c1, c2, c3, c4, c5, c6, c7, c8⟩ := Ses_at (HS.out.s.below B1.out) hlt
                have HA := hide hA
                have HX := hide hx
                have HST := hide (show okSes none a.s = ((seErr x == 0) && !((prevS a.s k).any (fun q => decide (x.rcd ≤ q))) && okSes (prevS a.s (k + 1)) (a.s.drop (k + 1))) by rw [HAK.out, okSes_step hx])
                have H37 := hide (fun W (hW : Below w.heap.size w W) => rright37_any x W (((HS.out.ss x (List.mem_of_getElem? hx)).below hW).more hW.size))
                obtain ⟨er, her⟩ : ∃ er, seErr x = er := ⟨_, rfl⟩
                rw [her] at H37 HST
                unfold seV at H37
                rw [hA] at q4
                have f4 := Grn.cell q4
                have g0 := Grn.cell c0
                have g1 := Grn.cell c1
                have g2 := Grn.cell c2
                have g3 := Grn.cell c3
                have g4 := Grn.cell c4
                have g5 := Grn.cell c5
                have g6 := Grn.cell c6
                have g7 := Grn.cell c7
                have g8 := Grn.cell c8
                clear hx hA her q0 q1 q2 q3 q5
                by_cases hz1e : (er != 0) = true
                · have HR := hide (show okA (aqP a) = false by rw [HW6.out, HST.out, show (er == 0) = false by simpa using hz1e]; rfl)
                  go_wp2_with fail
                  refine wp_region_grn (by kernel_rfl) (by kernel_rfl) ?_
                  repeat (go_big_quiet_step ((go_at_call 58; exact Calls_grn (H37.out _ (B1.out.trans ((Grn.h _).mono B1.out.size))))))
                  refine wpQuiet_nil ?_
                  rintro _ ⟨q, rfl⟩
                  have B4 := hide (B1.out.trans (q.h.mono B1.out.size))
                  go_wp2
                  go_ret
                  exact ⟨ret_bool HR.out.symm, B4.out⟩
                have hz1' : (er != 0) = false := by simpa using hz1e
                have HST2 := hide (show okSes none a.s = (!((prevS a.s k).any (fun q => decide (x.rcd ≤ q))) && okSes (prevS a.s (k + 1)) (a.s.drop (k + 1))) by rw [HST.out, show (er == 0) = true by simpa using hz1e]; rfl)
                clear hz1e HST
                cases k with
                | zero =>
                  have HN := hide (show okSes none a.s = okSes (prevS a.s (0 + 1)) (a.s.drop (0 + 1)) by rw [HST2.out]; rfl)
                  simp only [Nat.zero_mul, Nat.add_zero] at g0 g1 g2 g3 g4 g5 g6 g7 g8
                  go_wp2_with fail
                  refine wp_region_grn (by kernel_rfl) (by kernel_rfl) ?_
                  repeat (go_big_quiet_step ((go_at_call 58; exact Calls_grn (H37.out _ (B1.out.trans ((Grn.h _).mono B1.out.size))))))
                  refine wpQuiet_nil ?_
                  rintro _ ⟨q, rfl⟩
                  have Z4 := hide (Z1.out.trans (q.h.mono hz1))
                  go_wp2
                  go_roundw
                  case rel => exact ⟨0 + 1, by omega, by go_num, HN.out, Z4.out⟩
                  case measure => simp [intOf]; omega
                | succ i =>
                  obtain ⟨b', off', y, hA', hbB', hy, d0, _⟩ := Ses_at (HS.out.s.below B1.out) (k := i) (by omega)
                  have hbo : b' = b ∧ off' = off := by have h1 := HA.out; rw [hA'] at h1; cases h1; exact ⟨rfl, rfl⟩
                  obtain ⟨rfl, rfl⟩ := hbo
                  have h0 := Grn.cell d0
                  have e1 : IntKind.i64.wrap ((i : Int) + 1 - 1) = (i : Int) := by rw [IntKind.wrap_i64]; omega
                  have e2 : ((i : Int) + 1).toNat = i + 1 := by omega
                  have e7 : ((i : Int) + 1 - 1) = (i : Int) := by omega
                  have e3 : (0 : Int) ≤ (i : Int) + 1 := by omega
                  have e5 : (0 : Int) < (i : Int) + 1 := by omega
                  have HPV := hide (show prevS a.s (i + 1) = some y.rcd by rw [prevS, hy]; rfl)
                  clear hy hA' d0
                  by_cases hle : x.rcd ≤ y.rcd
                  · have HR := hide (show okA (aqP a) = false by rw [HW6.out, HST2.out, HPV.out]; simp [hle])
                    have hd : decide (x.rcd ≤ y.rcd) = true := by simpa using hle
                    clear hle
                    go_wp2_with fail
                    refine wp_region_grn (by kernel_rfl) (by kernel_rfl) ?_
                    repeat (go_big_quiet_step ((go_at_call 58; exact Calls_grn (H37.out _ (B1.out.trans ((Grn.h _).mono B1.out.size))))))
                    refine wpQuiet_nil ?_
                    rintro _ ⟨q, rfl⟩
                    have B4 := hide (B1.out.trans (q.h.mono B1.out.size))
                    go_wp2
                    go_ret
                    exact ⟨ret_bool HR.out.symm, B4.out⟩
                  · have HN := hide (show okSes none a.s = okSes (prevS a.s (i + 1 + 1)) (a.s.drop (i + 1 + 1)) by rw [HST2.out, HPV.out]; simp [hle])
                    have hd : decide (x.rcd ≤ y.rcd) = false := by simpa using hle
                    clear hle
                    go_wp2_with fail
                    refine wp_region_grn (by kernel_rfl) (by kernel_rfl) ?_
                    repeat (go_big_quiet_step ((go_at_call 58; exact Calls_grn (H37.out _ (B1.out.trans ((Grn.h _).mono B1.out.size))))))
                    refine wpQuiet_nil ?_
                    rintro _ ⟨q, rfl⟩
                    have Z4 := hide (Z1.out.trans (q.h.mono hz1))
                    go_wp2
                    go_roundw
                    case rel => exact ⟨i + 1 + 1, by omega, by go_num, HN.out, Z4.out⟩
                    case measure => simp [intOf]; omega
              · have hkz : ¬ (k : Int) < (a.sn : Int) := by omega
                have HR := hide (show okA (aqP a) = okBills a.o a.b by rw [HW6.out, HAK.out, List.drop_of_length_le (by rw [HL4.out]; omega), okSes]; rfl)
                have HBL := hide (rbills_any a wr ((HS.out.o.below B1.out).more B1.out.size) ((HS.out.b.below B1.out).more B1.out.size))
                unfold aqV at HBL
                go_wp2_with fail
                refine HBL.out.mono ?_
                rintro e w9 ⟨rfl, hb⟩
                have B9 := hide (B1.out.trans (hb.mono B1.out.size))
                clear hb HBL
                go_wp2
                go_ret
                exact ⟨ret_bool HR.out.symm, B9.out⟩
  · have HR := hide (show okA (aqP a) = false by
      unfold okA ok1 aqP
      cases h1 : winB a.yr 1900 2199 with
      | false => rfl
      | true =>
        cases h2 : winB a.nx 1 10000 with
        | false => simp [h1, h2]
        | true => exact absurd ⟨(winB_iff.1 h1).1, (winB_iff.1 h1).2, (winB_iff.1 h2).1, (winB_iff.1 h2).2⟩ hyr)
    go_enter Tryz.func17, Tryz.ntmps17
    go_wp2
    all_goals first | (exfalso; omega) | (go_ret; exact ⟨ret_bool HR.out.symm, B0.out⟩)
end Go.Proofs.YtbhndfphegflhaaGreat
