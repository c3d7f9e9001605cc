/- Texts laid together by merge.py: FuL. -/
import Derived.Test.YtbhndfphegflhaaGreatMrg2
set_option linter.unusedSimpArgs false
set_option linter.unusedVariables false
/- Walks: the program's Right. -/
namespace Go.Proofs.YtbhndfphegflhaaGreat
open Go.RowKit Go.Maps

set_option maxRecDepth 100000 in
set_option maxHeartbeats 2000000 in
theorem pright_any (A : Option Addr) (n c : Nat) (xs : List Fu) (w : World) (hs : Fs w w.heap.size A n c xs) :
    Calls Tryz.prog 107 #[.slice A n c] w fun e w' => e = .returned (.int .i64 (rightP xs)) ∧ Below w.heap.size w w' := by
  obtain rfl := hs.len
  have hle := hs.le
  have hbig := hs.big
  have HS := hide hs
  clear hs
  by_cases h32 : 32 < xs.length
  · have hr : rightP xs = 13 := by unfold rightP; rw [if_pos h32]
    rw [hr]
    clear hr
    go_enter Tryz.func107, Tryz.ntmps107
    go_wp2
    go_ret
    exact ⟨rfl, Below.refl _ _⟩
  · have hr : rightP xs = if chkA none xs ≠ 0 then chkA none xs else if noneF xs = true then 9 else if loopR xs = true then 11 else if 0 ≤ ix (fun f => decide (freeF f < 0)) xs then 17 else 0 := by
      unfold rightP; rw [if_neg h32]
    have HR := hide hr
    clear hr
    go_enter Tryz.func107, Tryz.ntmps107
    go_wp2
    go_loopw [12] (fun i wr => ∃ k : Nat, k ≤ xs.length ∧ i = .int .i64 k ∧ Below w.heap.size w wr ∧ chkA none xs = chkA (prevAt xs k) (xs.drop k)) (fun i _ => xs.length - (intOf i).toNat)
    case atStart => exact ⟨0, Nat.zero_le _, rfl, Below.refl _ _, rfl⟩
    case round =>
      obtain ⟨k, hk, rfl, hb, ha⟩ := hrel
      have HA := hide ha
      have HB := hide hb
      have hz := hb.size
      clear ha hb
      by_cases hlt : k < xs.length
      · obtain ⟨b, off, x, rfl, hbB, hx, c0, c1, c2, c3, c4⟩ := Fs_at (HS.out.below HB.out) hlt
        have HX := hide (chkA_step hx)
        have hbw := HB.out.alloc hz (.cells #[.int .i64 x.id, .int .i64 x.parent, .int .i64 x.budget, .int .i64 x.enc, .int .i64 x.spent] 57)
        have HBW := hide hbw
        clear hx hbw
        by_cases hk0 : k = 0
        · subst hk0
          simp only [Nat.zero_mul, Nat.add_zero] at c0 c1 c2 c3 c4
          have hle' : ¬ (prevAt xs 0).any (fun q => decide (x.id ≤ q)) = true := by rw [prevAt, any_none]; decide
          have HLE := hide hle'
          clear hle'
          by_cases hbad : badF x = true
          · have HBAD := hide hbad
            clear hbad
            go_wp2_with fail
            go_quiet (fail)
            go_wp2_with (go_at_call 122; refine (mright_any _ _).mono ?_; rintro e w' ⟨rfl, rfl⟩)
            all_goals first
              | (go_ret; exact ⟨ret_int (by rw [HR.out, HA.out, HX.out, if_neg HLE.out, if_pos HBAD.out]; rfl), below_drewN HBW.out _⟩)
              | (exfalso; have hb := HBAD.out; simp only [badF, Bool.or_eq_true, decide_eq_true_eq] at hb; simp_all; done)
              | (exfalso; have hb := HBAD.out; simp only [badF, Bool.or_eq_true, decide_eq_true_eq] at hb; simp_all; omega)
          · obtain ⟨⟨p1, p2⟩, ⟨p3, p4⟩, hM, hW⟩ := badF_ok (Bool.eq_false_iff.2 hbad)
            have m1 := mright_any x.budget
            rw [mny_iff.2 hM.b] at m1
            have m2 := mright_any x.enc
            rw [mny_iff.2 hM.e] at m2
            have m3 := mright_any x.spent
            rw [mny_iff.2 hM.s] at m3
            have M1 := hide m1
            have M2 := hide m2
            have M3 := hide m3
            have HBAD := hide hbad
            clear hbad m1 m2 m3 hM hW
            go_wp2_with fail
            go_quiet (fail)
            go_wp2_with fail
            refine (M1.out _).mono ?_
            rintro e w' ⟨rfl, rfl⟩
            go_wp2_with fail
            refine (M2.out _).mono ?_
            rintro e w' ⟨rfl, rfl⟩
            go_wp2_with fail
            refine (M3.out _).mono ?_
            rintro e w' ⟨rfl, rfl⟩
            go_wp2
            go_roundw
            case rel => exact ⟨1, by omega, rfl, below_drewN HBW.out _, by rw [HA.out, HX.out, if_neg HLE.out, if_neg HBAD.out]⟩
            case measure => simp [intOf]; omega
        · obtain ⟨b', off', y, hA, hbB', hy, d0, d1, d2, d3, d4⟩ := Fs_at (HS.out.below HB.out) (k := k - 1) (by omega)
          cases hA
          have hpr : prevAt xs k = some y.id := by
            obtain ⟨j, rfl⟩ : ∃ j, k = j + 1 := ⟨k - 1, by omega⟩
            rw [prevAt]
            simp only [Nat.add_sub_cancel] at hy
            rw [hy]; rfl
          have d0' := fun o => (World.cell?_alloc_lt wr o ⟨b, off + (k - 1) * 5, none⟩ (Nat.lt_of_lt_of_le hbB hz)).trans d0
          have HPR := hide hpr
          clear hy d0 d1 d2 d3 d4 hpr
          have hk1 : (0 : Int) < (k : Int) := by omega
          have hk2 : 0 < k := by omega
          by_cases hxy : x.id ≤ y.id
          · have HXY := hide hxy
            go_wp2_with fail
            go_quiet (fail)
            go_wp2
            go_ret
            exact ⟨ret_int (by rw [HR.out, HA.out, HX.out, HPR.out, if_pos (show (some y.id).any (fun q => decide (x.id ≤ q)) = true from decide_eq_true HXY.out)]; rfl), below_drewN HBW.out _⟩
          · have hle' : ¬ (prevAt xs k).any (fun q => decide (x.id ≤ q)) = true := by rw [HPR.out]; simpa using hxy
            have HLE := hide hle'
            have hd : decide (x.id ≤ y.id) = false := by simpa using hxy
            clear hle'
            by_cases hbad : badF x = true
            · have HBAD := hide hbad
              clear hbad
              go_wp2_with fail
              go_quiet (fail)
              go_wp2_with (go_at_call 122; refine (mright_any _ _).mono ?_; rintro e w' ⟨rfl, rfl⟩)
              all_goals first
                | (go_ret; exact ⟨ret_int (by rw [HR.out, HA.out, HX.out, if_neg HLE.out, if_pos HBAD.out]; rfl), below_drewN HBW.out _⟩)
                | (exfalso; have hb := HBAD.out; simp only [badF, Bool.or_eq_true, decide_eq_true_eq] at hb; simp_all; done)
                | (exfalso; have hb := HBAD.out; simp only [badF, Bool.or_eq_true, decide_eq_true_eq] at hb; simp_all; omega)
            · obtain ⟨⟨p1, p2⟩, ⟨p3, p4⟩, hM, hW⟩ := badF_ok (Bool.eq_false_iff.2 hbad)
              have m1 := mright_any x.budget
              rw [mny_iff.2 hM.b] at m1
              have m2 := mright_any x.enc
              rw [mny_iff.2 hM.e] at m2
              have m3 := mright_any x.spent
              rw [mny_iff.2 hM.s] at m3
              have M1 := hide m1
              have M2 := hide m2
              have M3 := hide m3
              have HBAD := hide hbad
              clear hbad m1 m2 m3 hM hW
              go_wp2_with fail
              go_quiet (fail)
              go_wp2_with fail
              refine (M1.out _).mono ?_
              rintro e w' ⟨rfl, rfl⟩
              go_wp2_with fail
              refine (M2.out _).mono ?_
              rintro e w' ⟨rfl, rfl⟩
              go_wp2_with fail
              refine (M3.out _).mono ?_
              rintro e w' ⟨rfl, rfl⟩
              go_wp2
              go_roundw
              case rel => exact ⟨k + 1, by omega, by go_num, below_drewN HBW.out _, by rw [HA.out, HX.out, if_neg HLE.out, if_neg HBAD.out]⟩
              case measure => simp [intOf]; omega
      · have hA0 : chkA none xs = 0 := by rw [HA.out, List.drop_eq_nil_of_le (by omega), chkA]
        have HA0 := hide hA0
        have hok : ∀ x ∈ xs, badF x = false := chkA_ok xs none hA0
        have HOK := hide hok
        have hr2 : rightP xs = if noneF xs = true then 9 else if loopR xs = true then 11 else if 0 ≤ ix (fun f => decide (freeF f < 0)) xs then 17 else 0 := by rw [HR.out, if_neg (by rw [hA0]; decide)]
        have HR2 := hide hr2
        clear hA0 hok hr2 HA HR
        go_wp2
        go_loopw [71] (fun i wr => ∃ k : Nat, k ≤ xs.length ∧ i = .int .i64 k ∧ Below w.heap.size w wr ∧ noneF xs = (xs.drop k).any (fun f => decide (f.parent ≠ 0) && decide (atF xs f.parent < 0))) (fun i _ => xs.length - (intOf i).toNat)
        case atStart => exact ⟨0, Nat.zero_le _, rfl, HB.out, rfl⟩
        case round =>
          clear HB hz hlt hk
          obtain ⟨k, hk, rfl, hb, ha⟩ := hrel
          have HA := hide ha
          have HB := hide hb
          have hz := hb.size
          clear ha hb
          by_cases hlt : k < xs.length
          · have HSB := hide ((HS.out.below HB.out).more hz)
            obtain ⟨b, off, x, rfl, hbB, hx, c0, c1, c2, c3, c4⟩ := Fs_at HSB.out hlt
            have HX := hide (any_stepF (p := fun f => decide (f.parent ≠ 0) && decide (atF xs f.parent < 0)) hx)
            have hbw := HB.out.alloc hz (.cells #[.int .i64 x.id, .int .i64 x.parent, .int .i64 x.budget, .int .i64 x.enc, .int .i64 x.spent] 57)
            have HBW := hide hbw
            clear hx hbw
            by_cases hp0 : x.parent = 0
            · have hp0' : (x.parent != 0) = false := by simpa using hp0
              have HP0 := hide hp0
              clear hp0
              go_wp2
              go_roundw
              case rel => exact ⟨k + 1, by omega, by go_num, HBW.out, by rw [HA.out, HX.out]; simp [HP0.out]⟩
              case measure => simp [intOf]; omega
            · have hp0' : (x.parent != 0) = true := by simpa using hp0
              have hpl := fun o => place_any _ xs.length c xs x.parent (wr.alloc o) ((HSB.out.alloc (Nat.le_refl _) _).more (by simp))
              have HPL := hide hpl
              have HP0 := hide hp0
              clear hp0 hpl
              go_wp2_with fail
              refine (HPL.out _).mono ?_
              rintro e w2 ⟨rfl, hb2⟩
              by_cases hneg : atF xs x.parent < 0
              · have HN := hide hneg
                go_wp2
                go_ret
                exact ⟨ret_int (by rw [HR2.out, if_pos (by rw [HA.out, HX.out]; simp [HP0.out, HN.out])]), HBW.out.trans (hb2.mono (by simp; omega))⟩
              · have HN := hide hneg
                go_wp2
                go_roundw
                case rel => exact ⟨k + 1, by omega, by go_num, HBW.out.trans (hb2.mono (by simp; omega)), by rw [HA.out, HX.out, decide_eq_false (p := atF xs x.parent < 0) (by have := HN.out; omega), Bool.and_false, Bool.false_or]⟩
                case measure => simp [intOf]; omega
          · have hN0 : noneF xs = false := by rw [HA.out, List.drop_eq_nil_of_le (by omega)]; rfl
            have hr3 : rightP xs = if loopR xs = true then 11 else if 0 ≤ ix (fun f => decide (freeF f < 0)) xs then 17 else 0 := by
              rw [HR2.out, hN0, if_neg (by decide)]
            have HR3 := hide hr3
            have hlp := loop_any A xs.length c xs wr ((HS.out.below HB.out).more hz) (fun x hx => (badF_ok (HOK.out x hx)).2.2.2)
            have HLP := hide hlp
            clear hN0 hr3 hlp HA HR2
            go_wp2_with fail
            refine HLP.out.mono ?_
            rintro e w1 ⟨rfl, hb1⟩
            have hz1 := hb1.size
            by_cases hL : loopR xs = true
            · rw [hL]
              have HLL := hide hL
              clear hL
              go_wp2
              go_ret
              exact ⟨ret_int (by rw [HR3.out, if_pos HLL.out]), HB.out.trans (hb1.mono hz)⟩
            · have hL' : loopR xs = false := by simpa using hL
              rw [hL']
              have HLL := hide hL
              clear hL hL'
              have hcf := containsFunc_any 155 #[] (fun f => decide (freeF f < 0)) e_right1 A xs.length c xs w1 ((HS.out.below (HB.out.trans (hb1.mono hz))).more (by omega)) (fun W x hx _ => right1_any x W (badF_ok (HOK.out x hx)).2.2.1)
              have HCF := hide hcf
              clear hcf
              go_wp2_with fail
              refine HCF.out.mono ?_
              rintro e w2 ⟨rfl, hb2⟩
              by_cases hC : 0 ≤ ix (fun f => decide (freeF f < 0)) xs
              · have HCC := hide hC
                go_wp2
                go_ret
                exact ⟨ret_int (by rw [HR3.out, if_neg HLL.out, if_pos HCC.out]), HB.out.trans ((hb1.mono hz).trans (hb2.mono (by omega)))⟩
              · have HCC := hide hC
                go_wp2
                go_ret
                exact ⟨ret_int (by rw [HR3.out, if_neg HLL.out, if_neg (by have := HCC.out; omega)]), HB.out.trans ((hb1.mono hz).trans (hb2.mono (by omega)))⟩
end Go.Proofs.YtbhndfphegflhaaGreat
