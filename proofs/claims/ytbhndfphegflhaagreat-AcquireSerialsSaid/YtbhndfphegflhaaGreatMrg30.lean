/- Texts laid together by merge.py: PtE. -/
import Derived.Test.YtbhndfphegflhaaGreatMrg10
set_option linter.unusedSimpArgs false
set_option linter.unusedVariables false
/- Walks: Right of the reference (patterns). Printed by gen_pt_e.py. -/
namespace Go.Proofs.YtbhndfphegflhaaGreat
open Go.RowKit

theorem ptBad1_iff {p : Pt} : ptBad1 p = false ↔ 0 ≤ p.start ∧ p.start ≤ 109572 ∧ 1 ≤ p.pv ∧ p.pv ≤ 366 ∧ 1 ≤ p.fv ∧ p.fv ≤ 9999 := by
  unfold ptBad1
  simp only [Bool.or_eq_false_iff, decide_eq_false_iff_not]
  omega
theorem ptBad2_iff {p : Pt} : ptBad2 p = false ↔ 1 ≤ p.every ∧ p.every ≤ 4 := by
  unfold ptBad2
  simp only [Bool.or_eq_false_iff, decide_eq_false_iff_not]
  omega
theorem ptBad3_iff {p : Pt} : ptBad3 p = false ↔ ¬ p.sk.length = 12 ∧ (p.sk.length = 0 ∨ p.every < 3) ∧ (p.db.length = 0 ∨ p.every = 2) := by
  unfold ptBad3
  simp only [Bool.or_eq_false_iff, Bool.and_eq_false_iff, decide_eq_false_iff_not, beq_eq_false_iff_ne, bne_eq_false_iff_eq]
  omega
theorem pt_err1 {p : Pt} (h : ptBad1 p = true) : ptErr p = 2 := by unfold ptErr; rw [if_pos h]
theorem pt_err2 {p : Pt} (h1 : ptBad1 p = false) (h : ptBad2 p = true) : ptErr p = 1 := by unfold ptErr; rw [h1, if_neg (by decide), if_pos h]
theorem pt_err3 {p : Pt} (h1 : ptBad1 p = false) (h2 : ptBad2 p = false) (h : (monErr p.sk != 0) = true) : ptErr p = monErr p.sk := by unfold ptErr; rw [h1, if_neg (by decide), h2, if_neg (by decide), if_pos h]
theorem pt_err4 {p : Pt} (h1 : ptBad1 p = false) (h2 : ptBad2 p = false) (h3 : (monErr p.sk != 0) = false) (h : (monErr p.db != 0) = true) : ptErr p = monErr p.db := by
  unfold ptErr; rw [h1, if_neg (by decide), h2, if_neg (by decide), h3, if_neg (by decide), if_pos h]
theorem pt_err5 {p : Pt} (h1 : ptBad1 p = false) (h2 : ptBad2 p = false) (h3 : (monErr p.sk != 0) = false) (h4 : (monErr p.db != 0) = false) :
    ptErr p = if ptBad3 p = true then 1 else if ptBad4 p = true then 1 else 0 := by
  unfold ptErr; rw [h1, if_neg (by decide), h2, if_neg (by decide), h3, if_neg (by decide), h4, if_neg (by decide)]

set_option maxRecDepth 100000 in
set_option maxHeartbeats 8000000 in
theorem rright36_any (p : Pt) (w : World) (hs : PtS w w.heap.size p) :
    Calls Tryz.prog 115 #[ptV p] w fun e w' => e = .returned (.int .i64 (ptErr p)) ∧ Below w.heap.size w w' := by
  have B0 := hide ((Below.refl w.heap.size w).alloc (Nat.le_refl _) (.cells (ptC p) 67))
  have X0 := hide (Box.new w 67 (ptC p))
  have HS := hide hs
  have hl1 := hs.1.len
  have hl2 := hs.2.len
  have hb1 := hs.1.big
  have hb2 := hs.2.big
  clear hs
  by_cases h1 : 0 ≤ p.start ∧ p.start ≤ 109572 ∧ 1 ≤ p.pv ∧ p.pv ≤ 366 ∧ 1 ≤ p.fv ∧ p.fv ≤ 9999
  · have H1 := hide (ptBad1_iff.2 h1)
    obtain ⟨a1, a2, a3, a4, a5, a6⟩ := h1
    by_cases h2 : 1 ≤ p.every ∧ p.every ≤ 4
    · have H2 := hide (ptBad2_iff.2 h2)
      obtain ⟨a7, a8⟩ := h2
      have HM1 := hide (rmonths36_any p.skA p.skn p.skc p.sk _ _ (HS.out.1.below B0.out) B0.out.size)
      have HM2 := hide (fun W (hW : Below w.heap.size w W) => rmonths36_any p.dbA p.dbn p.dbc p.db W _ (HS.out.2.below hW) hW.size)
      have HE3 := hide (fun h => pt_err3 H1.out H2.out h)
      have HE4 := hide (fun h h' => pt_err4 H1.out H2.out h h')
      have HE5 := hide (fun h h' => pt_err5 H1.out H2.out h h')
      obtain ⟨m1, hm1⟩ : ∃ m, monErr p.sk = m := ⟨_, rfl⟩
      obtain ⟨m2, hm2⟩ : ∃ m, monErr p.db = m := ⟨_, rfl⟩
      rw [hm1] at HM1 HE3 HE4 HE5
      rw [hm2] at HM2 HE4 HE5
      clear hm1 hm2
      unfold ptV
      go_enter Tryz.func115, Tryz.ntmps115
      go_wp2_with fail
      refine HM1.out.mono ?_
      rintro e w1 ⟨rfl, hb⟩
      have B1 := hide (B0.out.trans (hb.mono B0.out.size))
      have X1 := hide (X0.out.below hb (by simp))
      have q1 := X1.out.cell 1
      have q4 := X1.out.cell 4
      have q5 := X1.out.cell 5
      simp at q1 q4 q5
      have HM2' := hide (HM2.out w1 B1.out)
      clear hb HM1 HM2
      by_cases hz1 : (m1 != 0) = true
      · have HR := hide (HE3.out hz1)
        clear HE3 HE4 HE5
        go_wp2
        go_ret
        exact ⟨ret_int HR.out.symm, B1.out⟩
      have hz1' : (m1 != 0) = false := by simpa using hz1
      clear hz1
      go_wp2_with fail
      refine HM2'.out.mono ?_
      rintro e w2 ⟨rfl, hb⟩
      have B2 := hide (B1.out.trans (hb.mono B1.out.size))
      have X2 := hide (X1.out.below hb X1.out.lt)
      have HZ1 := hide hz1'
      clear q1 q4 q5
      have q1 := X2.out.cell 1
      have q4 := X2.out.cell 4
      have q5 := X2.out.cell 5
      simp at q1 q4 q5
      clear hb HM2' hz1' X1
      by_cases hz2 : (m2 != 0) = true
      · have HR := hide (HE4.out HZ1.out hz2)
        clear HE3 HE4 HE5
        go_wp2
        go_ret
        exact ⟨ret_int HR.out.symm, B2.out⟩
      have hz2' : (m2 != 0) = false := by simpa using hz2
      have HE := hide (HE5.out HZ1.out hz2')
      clear hz2 HE3 HE4 HE5 HZ1
      by_cases h3 : ¬ (p.skn : Int) = 12 ∧ ((p.skn : Int) = 0 ∨ p.every < 3) ∧ ((p.dbn : Int) = 0 ∨ p.every = 2)
      · have HE3 := hide (show ptErr p = if ptBad4 p = true then 1 else 0 by rw [HE.out, ptBad3_iff.2 (by omega), if_neg (by decide)])
        clear HE
        have HCS : ((p.skn : Int) = 0 ∨ (0 < (p.skn : Int) ∧ ¬ 3 ≤ p.every)) ∧ ((p.dbn : Int) = 0 ∨ (0 < (p.dbn : Int) ∧ p.every = 2)) := by omega
        have n12 := h3.1
        clear h3
        obtain ⟨hsk, hdb⟩ := HCS
        have he34 : 0 < (p.skn : Int) → (p.every == 3) = false ∧ (p.every == 4) = false := fun h => by constructor <;> (rw [beq_eq_false_iff_ne]; omega)
        have HE34 := hide he34
        clear he34
        rcases hdb with hdb | ⟨hdb, hev⟩
        · have hnil : p.db = [] := List.eq_nil_of_length_eq_zero (by omega)
          have HR := hide (show ptErr p = 0 by rw [HE3.out, show ptBad4 p = false by unfold ptBad4; rw [hnil]; rfl]; rfl)
          clear hnil
          rcases hsk with hsk | ⟨hsk, hs3⟩
          · have hskN : p.skn = 0 := by omega
            go_wp2
            go_loop [4] (fun s => s = .int .i64 0) (fun _ => 0)
            case atStart => rfl
            case round =>
              obtain rfl := hrel
              go_wp2
              go_ret
              exact ⟨ret_int HR.out.symm, B2.out⟩
          · obtain ⟨e3, e4⟩ := HE34.out hsk
            have hskN : 0 < p.skn := by omega
            go_wp2
            go_loop [4] (fun s => s = .int .i64 0) (fun _ => 0)
            case atStart => rfl
            case round =>
              obtain rfl := hrel
              go_wp2
              go_ret
              exact ⟨ret_int HR.out.symm, B2.out⟩
        · have e2 : (p.every != 2) = false := by rw [hev]; rfl
          have hdbN : 0 < p.dbn := by omega
          rcases hsk with hsk | ⟨hsk, hs3⟩
          · have hskN : p.skn = 0 := by omega
            go_wp2
            have HIn := hide (fun v W (hW : Below w.heap.size w W) => rin_any p.skA p.skn p.skc p.sk v W _ (HS.out.1.below hW))
            clear hdb hsk n12 hev hskN
            go_loopw [4] (fun s wr => ∃ k : Nat, k ≤ p.dbn ∧ s = .int .i64 k ∧ (∀ z ∈ p.db.take k, inL p.sk z = false) ∧ Below w2.heap.size w2 wr) (fun s _ => p.dbn - (intOf s).toNat)
            case atStart => exact ⟨0, Nat.zero_le _, rfl, by simp, Below.refl _ _⟩
            case round =>
              obtain ⟨k, hk, rfl, ha, hb⟩ := hrel
              have HA := hide ha
              have B3 := hide (B2.out.trans (hb.mono B2.out.size))
              have Z3 := hide hb
              have X3 := hide (X2.out.below hb X2.out.lt)
              clear q1 q4 q5
              have q1 := X3.out.cell 1
              have q4 := X3.out.cell 4
              have q5 := X3.out.cell 5
              simp at q1 q4 q5
              clear ha hb
              by_cases hlt : k < p.dbn
              · obtain ⟨b, off, x, hA, hbB, hx, c0⟩ := Is_at (HS.out.2.below B3.out) hlt
                rw [hA] at q5
                have hkz : (k : Int) < (p.dbn : Int) := by omega
                have f4 := Grn.cell q4
                have f5 := Grn.cell q5
                have f0 := Grn.cell c0
                have HI := hide (fun W hW => HIn.out x W hW)
                obtain ⟨q, hq⟩ : ∃ q, inL p.sk x = q := ⟨_, rfl⟩
                rw [hq] at HI
                have HX := hide hx
                have HQ := hide hq
                clear hx hq hA
                cases q with
                | true =>
                  have HR := hide (show ptErr p = 1 by rw [HE3.out, if_pos (show ptBad4 p = true from List.any_eq_true.2 ⟨x, List.mem_of_getElem? HX.out, HQ.out⟩)])
                  go_wp2_with fail
                  refine wp_region_grn (by kernel_rfl) (by kernel_rfl) ?_
                  repeat (go_big_quiet_step ((go_at_call 149; exact Calls_grn_same (HI.out _ (B3.out.trans ((Grn.h _).mono B3.out.size))))))
                  refine wpQuiet_nil ?_
                  rintro _ ⟨q, rfl⟩
                  have B4 := hide (B3.out.trans (q.h.mono B3.out.size))
                  go_wp2
                  go_ret
                  exact ⟨ret_int HR.out.symm, B4.out⟩
                | false =>
                  have HA2 := hide (show ∀ z ∈ p.db.take (k + 1), inL p.sk z = false by
                    intro z hz
                    rw [take_step HX.out] at hz
                    rcases List.mem_append.1 hz with hz | hz
                    · exact HA.out z hz
                    · rw [List.mem_singleton.1 hz]; exact HQ.out)
                  go_wp2_with fail
                  refine wp_region_grn (by kernel_rfl) (by kernel_rfl) ?_
                  repeat (go_big_quiet_step ((go_at_call 149; exact Calls_grn_same (HI.out _ (B3.out.trans ((Grn.h _).mono B3.out.size))))))
                  refine wpQuiet_nil ?_
                  rintro _ ⟨q, rfl⟩
                  have Z4 := hide (Z3.out.trans (q.h.mono Z3.out.size))
                  go_wp2
                  go_roundw
                  case rel => exact ⟨k + 1, by omega, by go_num, HA2.out, Z4.out⟩
                  case measure => simp [intOf]; omega
              · have hkz : ¬ (k : Int) < (p.dbn : Int) := by omega
                have HR := hide (show ptErr p = 0 by
                  rw [HE3.out, if_neg]
                  intro h
                  obtain ⟨z, hz, hz2⟩ := List.any_eq_true.1 h
                  have := HA.out z (by rwa [List.take_of_length_le (by omega)])
                  rw [this] at hz2; cases hz2)
                go_wp2
                go_ret
                exact ⟨ret_int HR.out.symm, B3.out⟩
          · obtain ⟨e3, e4⟩ := HE34.out hsk
            have hskN : 0 < p.skn := by omega
            go_wp2
            have HIn := hide (fun v W (hW : Below w.heap.size w W) => rin_any p.skA p.skn p.skc p.sk v W _ (HS.out.1.below hW))
            clear hdb hsk n12 hev hskN
            go_loopw [4] (fun s wr => ∃ k : Nat, k ≤ p.dbn ∧ s = .int .i64 k ∧ (∀ z ∈ p.db.take k, inL p.sk z = false) ∧ Below w2.heap.size w2 wr) (fun s _ => p.dbn - (intOf s).toNat)
            case atStart => exact ⟨0, Nat.zero_le _, rfl, by simp, Below.refl _ _⟩
            case round =>
              obtain ⟨k, hk, rfl, ha, hb⟩ := hrel
              have HA := hide ha
              have B3 := hide (B2.out.trans (hb.mono B2.out.size))
              have Z3 := hide hb
              have X3 := hide (X2.out.below hb X2.out.lt)
              clear q1 q4 q5
              have q1 := X3.out.cell 1
              have q4 := X3.out.cell 4
              have q5 := X3.out.cell 5
              simp at q1 q4 q5
              clear ha hb
              by_cases hlt : k < p.dbn
              · obtain ⟨b, off, x, hA, hbB, hx, c0⟩ := Is_at (HS.out.2.below B3.out) hlt
                rw [hA] at q5
                have hkz : (k : Int) < (p.dbn : Int) := by omega
                have f4 := Grn.cell q4
                have f5 := Grn.cell q5
                have f0 := Grn.cell c0
                have HI := hide (fun W hW => HIn.out x W hW)
                obtain ⟨q, hq⟩ : ∃ q, inL p.sk x = q := ⟨_, rfl⟩
                rw [hq] at HI
                have HX := hide hx
                have HQ := hide hq
                clear hx hq hA
                cases q with
                | true =>
                  have HR := hide (show ptErr p = 1 by rw [HE3.out, if_pos (show ptBad4 p = true from List.any_eq_true.2 ⟨x, List.mem_of_getElem? HX.out, HQ.out⟩)])
                  go_wp2_with fail
                  refine wp_region_grn (by kernel_rfl) (by kernel_rfl) ?_
                  repeat (go_big_quiet_step ((go_at_call 149; exact Calls_grn_same (HI.out _ (B3.out.trans ((Grn.h _).mono B3.out.size))))))
                  refine wpQuiet_nil ?_
                  rintro _ ⟨q, rfl⟩
                  have B4 := hide (B3.out.trans (q.h.mono B3.out.size))
                  go_wp2
                  go_ret
                  exact ⟨ret_int HR.out.symm, B4.out⟩
                | false =>
                  have HA2 := hide (show ∀ z ∈ p.db.take (k + 1), inL p.sk z = false by
                    intro z hz
                    rw [take_step HX.out] at hz
                    rcases List.mem_append.1 hz with hz | hz
                    · exact HA.out z hz
                    · rw [List.mem_singleton.1 hz]; exact HQ.out)
                  go_wp2_with fail
                  refine wp_region_grn (by kernel_rfl) (by kernel_rfl) ?_
                  repeat (go_big_quiet_step ((go_at_call 149; exact Calls_grn_same (HI.out _ (B3.out.trans ((Grn.h _).mono B3.out.size))))))
                  refine wpQuiet_nil ?_
                  rintro _ ⟨q, rfl⟩
                  have Z4 := hide (Z3.out.trans (q.h.mono Z3.out.size))
                  go_wp2
                  go_roundw
                  case rel => exact ⟨k + 1, by omega, by go_num, HA2.out, Z4.out⟩
                  case measure => simp [intOf]; omega
              · have hkz : ¬ (k : Int) < (p.dbn : Int) := by omega
                have HR := hide (show ptErr p = 0 by
                  rw [HE3.out, if_neg]
                  intro h
                  obtain ⟨z, hz, hz2⟩ := List.any_eq_true.1 h
                  have := HA.out z (by rwa [List.take_of_length_le (by omega)])
                  rw [this] at hz2; cases hz2)
                go_wp2
                go_ret
                exact ⟨ret_int HR.out.symm, B3.out⟩
      · have HR := hide (show ptErr p = 1 by
          rw [HE.out, if_pos]
          cases hq : ptBad3 p with
          | true => rfl
          | false => exact absurd (ptBad3_iff.1 hq) (by omega))
        clear HE
        go_wp2
        all_goals first | (exfalso; omega) | (exfalso; (try simp only [beq_eq_false_iff_ne, bne_eq_false_iff_eq, beq_iff_eq, bne_iff_ne, ne_eq] at *); omega) | (go_ret; exact ⟨ret_int HR.out.symm, B2.out⟩)
    · have HR := hide (show ptErr p = 1 by
        cases hq : ptBad2 p with
        | true => exact pt_err2 H1.out hq
        | false => exact absurd (ptBad2_iff.1 hq) h2)
      unfold ptV
      go_enter Tryz.func115, Tryz.ntmps115
      go_wp2
      all_goals first | (exfalso; omega) | (go_ret; exact ⟨ret_int HR.out.symm, B0.out⟩)
  · have HR := hide (show ptErr p = 2 by
      cases hq : ptBad1 p with
      | true => exact pt_err1 hq
      | false => exact absurd (ptBad1_iff.1 hq) h1)
    unfold ptV
    go_enter Tryz.func115, Tryz.ntmps115
    go_wp2
    all_goals first | (exfalso; omega) | (go_ret; exact ⟨ret_int HR.out.symm, B0.out⟩)
end Go.Proofs.YtbhndfphegflhaaGreat
