/- Texts laid together by merge.py: AqSd. -/
import Derived.Test.YtbhndfphegflhaaGreatMrg36
set_option linter.unusedSimpArgs false
set_option linter.unusedVariables false
/- Small of the law as a function of the state. Printed by gen_aq_sd.py. -/
namespace Go.Proofs.YtbhndfphegflhaaGreat
open Go.RowKit

def shB (x : Od) : Bool := decide (x.shn ≤ 8)
def blMo (x : Bl) : Bool := decide (-100000000 ≤ x.cop ∧ x.cop ≤ 100000000 ∧ -100000000 ≤ x.amt ∧ x.amt ≤ 100000000)
def seMo (x : Se) : Bool := decide (x.iun ≤ 60 ∧ x.nx ≤ 100 ∧ x.skn ≤ 20 ∧ x.dbn ≤ 20)
def smB (a : Aq) : Bool := decide (a.fn ≤ 12 ∧ a.on ≤ 10 ∧ a.bn ≤ 20 ∧ a.sn ≤ 4) && a.o.all shB && a.b.all blMo && a.s.all seMo

set_option maxRecDepth 100000 in
set_option maxHeartbeats 4000000 in
theorem smallD_any (a : Aq) (w : World) (ho : AqO w a) :
    Calls Tryz.prog 15 #[aqV a] w fun e w' => e = .returned (.bool (smB a)) ∧ Below w.heap.size w w' := by
  have B0 := hide ((Below.refl w.heap.size w).alloc (Nat.le_refl _) (.cells (aqC a) 27))
  have Z0 := hide (Below.refl (w.heap.size + 1) (w.alloc (.cells (aqC a) 27)))
  have X0 := hide (Box.new w 27 (aqC a))
  have HSB := hide (show smB a = (decide (a.fn ≤ 12 ∧ a.on ≤ 10 ∧ a.bn ≤ 20 ∧ a.sn ≤ 4) && a.o.all shB && a.b.all blMo && a.s.all seMo) from rfl)
  unfold aqV
  by_cases hP : a.fn ≤ 12 ∧ a.on ≤ 10 ∧ a.bn ≤ 20 ∧ a.sn ≤ 4
  · obtain ⟨p1, p2, p3, p4⟩ := hP
    have p1' : ¬ (12 : Int) < (a.fn : Int) := by omega
    have p2' : ¬ (10 : Int) < (a.on : Int) := by omega
    have p3' : ¬ (20 : Int) < (a.bn : Int) := by omega
    have p4' : ¬ (4 : Int) < (a.sn : Int) := by omega
    have HF := hide (ho.f p1)
    have HO := hide (ho.o p2)
    have HB := hide (ho.b p3)
    have HS := hide (ho.s p4)
    have hl2 := HO.out.1.len
    have hl4 := HS.out.1.len
    have HL2 := hide hl2
    have HL4 := hide hl4
    have HP := hide (And.intro p1 (And.intro p2 (And.intro p3 p4)))
    have hb2 := HO.out.1.big
    have hb3 := HB.out.big
    have hb4 := HS.out.1.big
    clear ho hl2 hl4 p1 p2 p3 p4
    go_enter Tryz.func15, Tryz.ntmps15
    go_wp2
    clear p1' p2' p3' p4'
    go_loopw [3] (fun s3 wr => ∃ k : Nat, k ≤ a.on ∧ s3 = .int .i64 k ∧ (∀ u ∈ a.o.take k, shB u = true) ∧ Below (w.heap.size + 1) (w.alloc (.cells (aqC a) 27)) wr) (fun s3 _ => a.on - (intOf s3).toNat)
    case atStart => exact ⟨0, Nat.zero_le _, rfl, by simp, Z0.out⟩
    case round =>
      clear Z0
      obtain ⟨k, hk, rfl, ha, hb⟩ := hrel
      have HAK := hide ha
      have Z1 := hide hb
      have X1 := hide (X0.out.below hb (by omega))
      have B1 := hide (B0.out.trans (hb.mono (by omega)))
      have q2 := X1.out.cell 2
      have q3 := X1.out.cell 3
      simp at q2 q3
      clear ha hb
      by_cases hlt : k < a.on
      · have hkz : (k : Int) < (a.on : Int) := by omega
        obtain ⟨b, off, x, hA, hbB, hx, c0, c1, c2, c3, c4, c5, c6, c7, c8, c9⟩ := Ods_at (HO.out.1.below B1.out) hlt
        rw [hA] at q2
        have HX := hide hx
        clear hx hA c0 c1 c2 c3 c4 c5 c6 c7 c8
        by_cases h8 : x.shn ≤ 8
        · have h8' : ¬ (8 : Int) < (x.shn : Int) := by omega
          have HN := hide (allT_step HX.out HAK.out (decide_eq_true h8))
          clear h8
          go_wp2
          go_roundw
          case rel => exact ⟨k + 1, by omega, by go_num, HN.out, Z1.out⟩
          case measure => simp [intOf]; omega
        · have h8' : (8 : Int) < (x.shn : Int) := by omega
          have HR := hide (show smB a = false by rw [HSB.out, allT_false HX.out (show shB x = false from decide_eq_false h8)]; simp)
          clear h8
          go_wp2
          go_ret
          exact ⟨ret_bool HR.out.symm, B1.out⟩
      · have hkz : ¬ (k : Int) < (a.on : Int) := by omega
        have HSH := hide (show a.o.all shB = true from List.all_eq_true.2 fun x hx => HAK.out x (by rwa [List.take_of_length_le (by have := HL2.out; omega)]))
        clear HAK
        go_wp2
        clear q2 q3 X1 B1 hkz hlt
        go_loopw [4] (fun s4 wr => ∃ k : Nat, k ≤ a.bn ∧ s4 = .int .i64 k ∧ (∀ u ∈ a.b.take k, blMo u = true) ∧ Below (w.heap.size + 1) (w.alloc (.cells (aqC a) 27)) wr) (fun s4 _ => a.bn - (intOf s4).toNat)
        case atStart => exact ⟨0, Nat.zero_le _, rfl, by simp, Z1.out⟩
        case round =>
          clear Z1
          clear hk
          obtain ⟨k, hk, rfl, ha, hb⟩ := hrel
          have HAB := hide ha
          clear ha
          have Z1 := hide hb
          have X1 := hide (X0.out.below hb (by omega))
          have hz1 : w.heap.size + 1 ≤ wr.heap.size := by have := hb.size; simpa using this
          have B1 := hide (B0.out.trans (hb.mono (by omega)))
          have q3 := X1.out.cell 3
          have q4 := X1.out.cell 4
          simp at q3 q4
          clear hb
          by_cases hlt : k < a.bn
          · have hkz : (k : Int) < (a.bn : Int) := by omega
            obtain ⟨b, off, x, hA, hbB, hx, c0, c1, c2, c3, c4⟩ := Bls_at (HB.out.below B1.out) hlt
            rw [hA] at q3
            have HXB := hide hx
            clear hx hA q4
            go_wp2
            all_goals first
              | (go_roundw
                 case rel => exact ⟨k + 1, by omega, by go_num, allT_step HXB.out HAB.out (show blMo x = true from decide_eq_true (by omega)), Z1.out.alloc hz1 _⟩
                 case measure => simp [intOf]; omega)
              | (go_ret
                 exact ⟨ret_bool (by rw [HSB.out, allT_false HXB.out (show blMo x = false from decide_eq_false (by omega))]; simp), B1.out.alloc B1.out.size _⟩)
          · have hkz : ¬ (k : Int) < (a.bn : Int) := by omega
            have HBL := hide (show a.b.all blMo = true from List.all_eq_true.2 fun x hx => HAB.out x (by rwa [List.take_of_length_le (by have := HB.out.len; omega)]))
            go_wp2
            clear q3 q4 X1 B1 hkz hlt hz1
            go_loopw [6] (fun s6 wr => ∃ k : Nat, k ≤ a.sn ∧ s6 = .int .i64 k ∧ (∀ u ∈ a.s.take k, seMo u = true) ∧ Below (w.heap.size + 1) (w.alloc (.cells (aqC a) 27)) wr) (fun s6 _ => a.sn - (intOf s6).toNat)
            case atStart => exact ⟨0, Nat.zero_le _, rfl, by simp, Z1.out⟩
            case round =>
              clear Z1
              clear hk
              obtain ⟨k, hk, rfl, ha, hb⟩ := hrel
              have HAK := hide ha
              have Z1 := hide hb
              have X1 := hide (X0.out.below hb (by omega))
              have hz1 : w.heap.size + 1 ≤ wr.heap.size := by have := hb.size; simpa using this
              have B1 := hide (B0.out.trans (hb.mono (by omega)))
              have q4 := X1.out.cell 4
              simp at q4
              clear ha hb
              by_cases hlt : k < a.sn
              · have hkz : (k : Int) < (a.sn : Int) := by omega
                obtain ⟨b, off, x, hA, hbB, hx, c0, c1, c2, c3, c4, c5, c6, c7, c8⟩ := Ses_at (HS.out.1.below B1.out) hlt
                rw [hA] at q4
                have HX := hide hx
                have HPL := hide (plain_any (sePt x) (wr.alloc (.cells (seC x) 76)))
                have B2 := hide (B1.out.alloc B1.out.size (.cells (seC x) 76))
                have Z2 := hide (Z1.out.alloc hz1 (.cells (seC x) 76))
                obtain ⟨q, hq⟩ : ∃ q, (decide ((sePt x).skn ≤ 20) && decide ((sePt x).dbn ≤ 20)) = q := ⟨_, rfl⟩
                rw [hq] at HPL
                have HQ := hide hq
                unfold ptV sePt at HPL
                clear hx hA hq
                by_cases h60 : x.iun ≤ 60 ∧ x.nx ≤ 100
                · obtain ⟨g1, g2⟩ := h60
                  have g1' : ¬ (60 : Int) < (x.iun : Int) := by omega
                  have g2' : ¬ (100 : Int) < x.nx := by omega
                  have HG := hide (And.intro g1 g2)
                  clear g1 g2
                  go_wp2_with fail
                  refine HPL.out.mono ?_
                  rintro e w2 ⟨rfl, hb⟩
                  have B3 := hide (B2.out.trans (hb.mono B2.out.size))
                  have Z3 := hide (Z2.out.trans (hb.mono (by simp; omega)))
                  clear hb HPL c0 c1 c2 c3 c4 c5 c6 c7 c8 q4
                  cases q with
                  | false =>
                    have HR := hide (show smB a = false by
                      rw [HSB.out, allT_false HX.out (show seMo x = false from by
                        have h := HQ.out
                        unfold seMo
                        rw [decide_eq_false_iff_not]
                        rintro ⟨_, _, h3, h4⟩
                        rw [show (decide ((sePt x).skn ≤ 20) && decide ((sePt x).dbn ≤ 20)) = true by rw [decide_eq_true (show (sePt x).skn ≤ 20 from h3), decide_eq_true (show (sePt x).dbn ≤ 20 from h4)]; rfl] at h
                        cases h)]
                      simp)
                    go_wp2
                    go_ret
                    exact ⟨ret_bool HR.out.symm, B3.out⟩
                  | true =>
                    have HN := hide (allT_step HX.out HAK.out (show seMo x = true by
                      have h := HQ.out
                      rw [Bool.and_eq_true, decide_eq_true_eq, decide_eq_true_eq] at h
                      exact decide_eq_true ⟨HG.out.1, HG.out.2, h.1, h.2⟩))
                    go_wp2
                    go_roundw
                    case rel => exact ⟨k + 1, by omega, by go_num, HN.out, Z3.out⟩
                    case measure => simp [intOf]; omega
                · have HR := hide (show smB a = false by
                    rw [HSB.out, allT_false HX.out (show seMo x = false from decide_eq_false (fun h => h60 ⟨h.1, h.2.1⟩))]
                    simp)
                  go_wp2
                  all_goals first
                    | (exfalso; omega)
                    | (go_ret
                       exact ⟨ret_bool HR.out.symm, B2.out⟩)
              · have hkz : ¬ (k : Int) < (a.sn : Int) := by omega
                have HSS := hide (show a.s.all seMo = true from List.all_eq_true.2 fun x hx => HAK.out x (by rwa [List.take_of_length_le (by have := HL4.out; omega)]))
                go_wp2
                go_ret
                exact ⟨ret_bool (by rw [HSB.out, HSH.out, HBL.out, HSS.out, decide_eq_true HP.out]; rfl), B1.out⟩
  · have HR := hide (show smB a = false by rw [HSB.out, decide_eq_false hP]; rfl)
    clear ho
    go_enter Tryz.func15, Tryz.ntmps15
    go_wp2
    all_goals first
      | (exfalso; omega)
      | (go_ret
         exact ⟨ret_bool HR.out.symm, B0.out⟩)

theorem smB_A {w : World} {a : Aq} (ho : AqO w a) (h : smB a = true) : SmA a := by
  unfold smB at h
  simp only [Bool.and_eq_true, decide_eq_true_eq, List.all_eq_true] at h
  obtain ⟨⟨⟨⟨h1, h2, h3, h4⟩, h5⟩, _⟩, h7⟩ := h
  exact ⟨h1, h2, h3, h4, (ho.f h1).2, fun x hx => of_decide_eq_true (h5 x hx), fun x hx => ⟨((ho.s h4).2 x hx).1, of_decide_eq_true (h7 x hx)⟩⟩
end Go.Proofs.YtbhndfphegflhaaGreat
