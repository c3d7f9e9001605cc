/- Texts laid together by merge.py: PtI. -/
import Derived.Test.YtbhndfphegflhaaGreatMrg30
import Derived.BigGuardPart
set_option linter.unusedSimpArgs false
set_option linter.unusedVariables false
/- Right of the program (patterns). Printed by gen_pt_i.py. -/
namespace Go.Proofs.YtbhndfphegflhaaGreat
open Go.RowKit

theorem in_indexFunc (g : Nat) (lb : Array Value) (p : Int → Bool) (eg : ∀ args w, (callFunc g args).run Tryz.prog w = .ok (.enter g args) w)
    (A : Option Addr) (n c : Nat) (xs : List Int) (w : World) (hs : Is w w.heap.size A n c xs)
    (hp : ∀ W x, x ∈ xs → Below w.heap.size w W → Calls Tryz.prog g (#[.int .i64 x] ++ lb) W fun e w' => e = .returned (.bool (p x)) ∧ Below W.heap.size W w') :
    Calls Tryz.prog 184 #[.slice A n c, .func (.func g) #[] lb] w fun e w' => e = .returned (.int .i64 (ix p xs)) ∧ Below w.heap.size w w' := by
  have hle := hs.le
  have hbig := hs.big
  have HP := hide hp
  clear hp
  go_enter Tryz.func184, Tryz.ntmps184
  go_wp2
  go_loopw [5, 8] (fun _ s8 wr => ∃ k : Nat, k ≤ n ∧ s8 = .int .i64 k ∧ Below w.heap.size w wr ∧ ix p xs = idxP p (xs.drop k) k) (fun _ s8 _ => n - (intOf s8).toNat)
  case atStart => exact ⟨0, Nat.zero_le _, rfl, Below.refl _ _, rfl⟩
  case round =>
    obtain ⟨k, hk, rfl, hb, ha⟩ := hrel
    have HA := hide ha
    have HB := hide hb
    clear ha hb
    by_cases hlt : k < n
    · obtain ⟨b, off, x, rfl, hbB, hx, c0⟩ := Is_at (hs.below HB.out) hlt
      have HX := hide (idxP_step (p := p) hx)
      have hcall := HP.out wr x (List.mem_of_getElem? hx) HB.out
      have HS := hide hs
      clear hx hs
      generalize hq : p x = q at hcall
      have HQ := hide hq
      clear hq
      cases q with
      | true =>
        go_wp2_with (go_at_fn g; refine hcall.mono ?_; rintro e w' ⟨rfl, hb'⟩)
        go_ret
        exact ⟨ret_int (by rw [HA.out, HX.out, if_pos HQ.out]), HB.out.trans (hb'.mono HB.out.size)⟩
      | false =>
        go_wp2_with (go_at_fn g; refine hcall.mono ?_; rintro e w' ⟨rfl, hb'⟩)
        go_roundw
        case rel => exact ⟨k + 1, by omega, by go_num, HB.out.trans (hb'.mono HB.out.size), by rw [HA.out, HX.out, if_neg (by rw [HQ.out]; decide)]⟩
        case measure => simp [intOf]; omega
    · go_wp2
      go_ret
      exact ⟨ret_int (by rw [HA.out, idxP_end (by have := hs.len; omega)]), HB.out⟩
theorem in_containsFunc (g : Nat) (lb : Array Value) (p : Int → Bool) (eg : ∀ args w, (callFunc g args).run Tryz.prog w = .ok (.enter g args) w)
    (A : Option Addr) (n c : Nat) (xs : List Int) (w : World) (hs : Is w w.heap.size A n c xs)
    (hp : ∀ W x, x ∈ xs → Below w.heap.size w W → Calls Tryz.prog g (#[.int .i64 x] ++ lb) W fun e w' => e = .returned (.bool (p x)) ∧ Below W.heap.size W w') :
    Calls Tryz.prog 158 #[.slice A n c, .func (.func g) #[] lb] w fun e w' => e = .returned (.bool (xs.any p)) ∧ Below w.heap.size w w' := by
  have HP := hide hp
  have HS := hide hs
  have HX := hide (show xs.any p = decide (0 ≤ ix p xs) by
    rcases ix_cases p xs with ⟨h1, h2⟩ | ⟨i, y, h1, h2, h3, _⟩
    · rw [h1, List.any_eq_false.2 (by intro x hx; rw [h2 x hx]; decide)]; rfl
    · rw [h1, List.any_eq_true.2 ⟨y, List.mem_of_getElem? h2, h3⟩]; simp)
  clear hp hs
  go_enter Tryz.func158, Tryz.ntmps158
  go_wp2_with (go_at_call 184; refine (in_indexFunc g lb p eg A n c xs _ HS.out HP.out).mono ?_; rintro e w' ⟨rfl, hb'⟩)
  go_ret
  exact ⟨by rw [HX.out]; rfl, hb'⟩
theorem pr1_any (p : Pt) (v : Int) (g : Nat) (w : World) (B : Nat) (hb : Box w g 67 (ptC p)) (hs : PtS w B p) : Calls Tryz.prog 159 #[.int .i64 v, .pointer (some ⟨g, 0, none⟩)] w fun e w' => e = .returned (.bool (inL p.sk v)) ∧ Below w.heap.size w w' := by
  have q4 := hb.cell 4
  simp at q4
  have HC := hide (contains_any p.skA p.skn p.skc p.sk v w B hs.1)
  clear hb hs
  go_enter Tryz.func159, Tryz.ntmps159
  go_wp2_with (go_at_call 160; refine HC.out.mono ?_; rintro e w' ⟨rfl, rfl⟩)
  go_ret
  exact ⟨rfl, Below.refl _ _⟩
theorem e_pr1 : ∀ args w, (callFunc 159 args).run Tryz.prog w = .ok (.enter 159 args) w := enters_of Tryz.func159 (by kernel_rfl) rfl

set_option maxRecDepth 100000 in
set_option maxHeartbeats 8000000 in
theorem pright36_any (p : Pt) (w : World) (hs : PtS w w.heap.size p) :
    Calls Tryz.prog 111 #[ptV p] w fun e w' => e = .returned (.int .i64 (ptErr p)) ∧ Below w.heap.size w w' := by
  have B0 := hide ((Below.refl w.heap.size w).alloc (Nat.le_refl _) (.cells (ptC p) 67))
  have X0 := hide (Box.new w 67 (ptC p))
  have HS := hide hs
  have hl1 := hs.1.len
  have hl2 := hs.2.len
  have hb1 := hs.1.big
  have hb2 := hs.2.big
  clear hs
  by_cases h1 : 0 ≤ p.start ∧ p.start ≤ 109572 ∧ 1 ≤ p.pv ∧ p.pv ≤ 366 ∧ 1 ≤ p.fv ∧ p.fv ≤ 9999
  · have H1 := hide (ptBad1_iff.2 h1)
    obtain ⟨a1, a2, a3, a4, a5, a6⟩ := h1
    by_cases h2 : 1 ≤ p.every ∧ p.every ≤ 4
    · have H2 := hide (ptBad2_iff.2 h2)
      obtain ⟨a7, a8⟩ := h2
      have HM1 := hide (pmonths36_any p.skA p.skn p.skc p.sk _ _ (HS.out.1.below B0.out) B0.out.size)
      have HM2 := hide (fun W (hW : Below w.heap.size w W) => pmonths36_any p.dbA p.dbn p.dbc p.db W _ (HS.out.2.below hW) hW.size)
      have HE3 := hide (fun h => pt_err3 H1.out H2.out h)
      have HE4 := hide (fun h h' => pt_err4 H1.out H2.out h h')
      have HE5 := hide (fun h h' => pt_err5 H1.out H2.out h h')
      obtain ⟨m1, hm1⟩ : ∃ m, monErr p.sk = m := ⟨_, rfl⟩
      obtain ⟨m2, hm2⟩ : ∃ m, monErr p.db = m := ⟨_, rfl⟩
      rw [hm1] at HM1 HE3 HE4 HE5
      rw [hm2] at HM2 HE4 HE5
      clear hm1 hm2
      unfold ptV
      go_enter Tryz.func111, Tryz.ntmps111
      go_wp2_with fail
      refine HM1.out.mono ?_
      rintro e w1 ⟨rfl, hb⟩
      have B1 := hide (B0.out.trans (hb.mono B0.out.size))
      have X1 := hide (X0.out.below hb (by simp))
      have q1 := X1.out.cell 1
      have q4 := X1.out.cell 4
      have q5 := X1.out.cell 5
      simp at q1 q4 q5
      have HM2' := hide (HM2.out w1 B1.out)
      clear hb HM1 HM2
      by_cases hz1 : (m1 != 0) = true
      · have HR := hide (HE3.out hz1)
        clear HE3 HE4 HE5
        go_wp2
        go_ret
        exact ⟨ret_int HR.out.symm, B1.out⟩
      have hz1' : (m1 != 0) = false := by simpa using hz1
      clear hz1
      go_wp2_with fail
      refine HM2'.out.mono ?_
      rintro e w2 ⟨rfl, hb⟩
      have B2 := hide (B1.out.trans (hb.mono B1.out.size))
      have X2 := hide (X1.out.below hb X1.out.lt)
      have HZ1 := hide hz1'
      clear q1 q4 q5
      have q1 := X2.out.cell 1
      have q4 := X2.out.cell 4
      have q5 := X2.out.cell 5
      simp at q1 q4 q5
      clear hb HM2' hz1' X1
      by_cases hz2 : (m2 != 0) = true
      · have HR := hide (HE4.out HZ1.out hz2)
        clear HE3 HE4 HE5
        go_wp2
        go_ret
        exact ⟨ret_int HR.out.symm, B2.out⟩
      have hz2' : (m2 != 0) = false := by simpa using hz2
      have HE := hide (HE5.out HZ1.out hz2')
      clear hz2 HE3 HE4 HE5 HZ1
      by_cases h3 : ¬ (p.skn : Int) = 12 ∧ ((p.skn : Int) = 0 ∨ p.every < 3) ∧ ((p.dbn : Int) = 0 ∨ p.every = 2)
      · have HE3 := hide (show ptErr p = if ptBad4 p = true then 1 else 0 by rw [HE.out, ptBad3_iff.2 (by omega), if_neg (by decide)])
        clear HE
        have HCS : ((p.skn : Int) = 0 ∨ (0 < (p.skn : Int) ∧ ¬ 3 ≤ p.every)) ∧ ((p.dbn : Int) = 0 ∨ (0 < (p.dbn : Int) ∧ p.every = 2)) := by omega
        have n12 := h3.1
        clear h3
        obtain ⟨hsk, hdb⟩ := HCS
        have he34 : 0 < (p.skn : Int) → (p.every == 3) = false ∧ (p.every == 4) = false := fun h => by constructor <;> (rw [beq_eq_false_iff_ne]; omega)
        have HE34 := hide he34
        clear he34
        rcases hdb with hdb | ⟨hdb, hev⟩
        · have hdbN : ¬ 0 < p.dbn := by omega
          clear hdb
          rcases hsk with hsk | ⟨hsk, hs3⟩
          · have hskN : p.skn = 0 := by omega
            have HCF := hide (in_containsFunc 159 #[.pointer (some ⟨w.heap.size, 0, none⟩)] (fun m => inL p.sk m) e_pr1 p.dbA p.dbn p.dbc p.db w2 ((HS.out.2.below B2.out).more B2.out.size) (fun W x _ hW => pr1_any p x w.heap.size W w2.heap.size (X2.out.below hW X2.out.lt) (((HS.out.below B2.out).more B2.out.size).below hW)))
            have HB4 := hide (show p.db.any (fun m => inL p.sk m) = ptBad4 p from rfl)
            rw [HB4.out] at HCF
            generalize ptBad4 p = b4 at HCF HE3
            clear HB4
            cases b4 with
            | true =>
              have HR := hide (show ptErr p = 1 by rw [HE3.out]; rfl)
              clear HE3
              go_wp2_with (go_at_call 158; refine HCF.out.mono ?_; rintro e w3 ⟨rfl, hb3⟩)
              all_goals first | (exfalso; omega) | (go_ret; exact ⟨ret_int HR.out.symm, B2.out.trans (hb3.mono B2.out.size)⟩)
            | false =>
              have HR := hide (show ptErr p = 0 by rw [HE3.out]; rfl)
              clear HE3
              go_wp2_with (go_at_call 158; refine HCF.out.mono ?_; rintro e w3 ⟨rfl, hb3⟩)
              all_goals first | (exfalso; omega) | (go_ret; exact ⟨ret_int HR.out.symm, B2.out.trans (hb3.mono B2.out.size)⟩)
          · obtain ⟨e3, e4⟩ := HE34.out hsk
            have hskN : 0 < p.skn := by omega
            have HCF := hide (in_containsFunc 159 #[.pointer (some ⟨w.heap.size, 0, none⟩)] (fun m => inL p.sk m) e_pr1 p.dbA p.dbn p.dbc p.db w2 ((HS.out.2.below B2.out).more B2.out.size) (fun W x _ hW => pr1_any p x w.heap.size W w2.heap.size (X2.out.below hW X2.out.lt) (((HS.out.below B2.out).more B2.out.size).below hW)))
            have HB4 := hide (show p.db.any (fun m => inL p.sk m) = ptBad4 p from rfl)
            rw [HB4.out] at HCF
            generalize ptBad4 p = b4 at HCF HE3
            clear HB4
            cases b4 with
            | true =>
              have HR := hide (show ptErr p = 1 by rw [HE3.out]; rfl)
              clear HE3
              go_wp2_with (go_at_call 158; refine HCF.out.mono ?_; rintro e w3 ⟨rfl, hb3⟩)
              all_goals first | (exfalso; omega) | (go_ret; exact ⟨ret_int HR.out.symm, B2.out.trans (hb3.mono B2.out.size)⟩)
            | false =>
              have HR := hide (show ptErr p = 0 by rw [HE3.out]; rfl)
              clear HE3
              go_wp2_with (go_at_call 158; refine HCF.out.mono ?_; rintro e w3 ⟨rfl, hb3⟩)
              all_goals first | (exfalso; omega) | (go_ret; exact ⟨ret_int HR.out.symm, B2.out.trans (hb3.mono B2.out.size)⟩)
        · have e2 : (p.every != 2) = false := by rw [hev]; rfl
          have hdbN : 0 < p.dbn := by omega
          rcases hsk with hsk | ⟨hsk, hs3⟩
          · have hskN : p.skn = 0 := by omega
            have HCF := hide (in_containsFunc 159 #[.pointer (some ⟨w.heap.size, 0, none⟩)] (fun m => inL p.sk m) e_pr1 p.dbA p.dbn p.dbc p.db w2 ((HS.out.2.below B2.out).more B2.out.size) (fun W x _ hW => pr1_any p x w.heap.size W w2.heap.size (X2.out.below hW X2.out.lt) (((HS.out.below B2.out).more B2.out.size).below hW)))
            have HB4 := hide (show p.db.any (fun m => inL p.sk m) = ptBad4 p from rfl)
            rw [HB4.out] at HCF
            generalize ptBad4 p = b4 at HCF HE3
            clear HB4
            cases b4 with
            | true =>
              have HR := hide (show ptErr p = 1 by rw [HE3.out]; rfl)
              clear HE3
              go_wp2_with (go_at_call 158; refine HCF.out.mono ?_; rintro e w3 ⟨rfl, hb3⟩)
              all_goals first | (exfalso; omega) | (go_ret; exact ⟨ret_int HR.out.symm, B2.out.trans (hb3.mono B2.out.size)⟩)
            | false =>
              have HR := hide (show ptErr p = 0 by rw [HE3.out]; rfl)
              clear HE3
              go_wp2_with (go_at_call 158; refine HCF.out.mono ?_; rintro e w3 ⟨rfl, hb3⟩)
              all_goals first | (exfalso; omega) | (go_ret; exact ⟨ret_int HR.out.symm, B2.out.trans (hb3.mono B2.out.size)⟩)
          · obtain ⟨e3, e4⟩ := HE34.out hsk
            have hskN : 0 < p.skn := by omega
            have HCF := hide (in_containsFunc 159 #[.pointer (some ⟨w.heap.size, 0, none⟩)] (fun m => inL p.sk m) e_pr1 p.dbA p.dbn p.dbc p.db w2 ((HS.out.2.below B2.out).more B2.out.size) (fun W x _ hW => pr1_any p x w.heap.size W w2.heap.size (X2.out.below hW X2.out.lt) (((HS.out.below B2.out).more B2.out.size).below hW)))
            have HB4 := hide (show p.db.any (fun m => inL p.sk m) = ptBad4 p from rfl)
            rw [HB4.out] at HCF
            generalize ptBad4 p = b4 at HCF HE3
            clear HB4
            cases b4 with
            | true =>
              have HR := hide (show ptErr p = 1 by rw [HE3.out]; rfl)
              clear HE3
              go_wp2_with (go_at_call 158; refine HCF.out.mono ?_; rintro e w3 ⟨rfl, hb3⟩)
              all_goals first | (exfalso; omega) | (go_ret; exact ⟨ret_int HR.out.symm, B2.out.trans (hb3.mono B2.out.size)⟩)
            | false =>
              have HR := hide (show ptErr p = 0 by rw [HE3.out]; rfl)
              clear HE3
              go_wp2_with (go_at_call 158; refine HCF.out.mono ?_; rintro e w3 ⟨rfl, hb3⟩)
              all_goals first | (exfalso; omega) | (go_ret; exact ⟨ret_int HR.out.symm, B2.out.trans (hb3.mono B2.out.size)⟩)
      · have HR := hide (show ptErr p = 1 by
          rw [HE.out, if_pos]
          cases hq : ptBad3 p with
          | true => rfl
          | false => exact absurd (ptBad3_iff.1 hq) (by omega))
        clear HE
        go_wp2
        all_goals first | (exfalso; omega) | (exfalso; (try simp only [beq_eq_false_iff_ne, bne_eq_false_iff_eq, beq_iff_eq, bne_iff_ne, ne_eq] at *); omega) | (go_ret; exact ⟨ret_int HR.out.symm, B2.out⟩)
    · have HR := hide (show ptErr p = 1 by
        cases hq : ptBad2 p with
        | true => exact pt_err2 H1.out hq
        | false => exact absurd (ptBad2_iff.1 hq) h2)
      unfold ptV
      go_enter Tryz.func111, Tryz.ntmps111
      go_wp2
      all_goals first | (exfalso; omega) | (go_ret; exact ⟨ret_int HR.out.symm, B0.out⟩)
  · have HR := hide (show ptErr p = 2 by
      cases hq : ptBad1 p with
      | true => exact pt_err1 hq
      | false => exact absurd (ptBad1_iff.1 hq) h1)
    unfold ptV
    go_enter Tryz.func111, Tryz.ntmps111
    go_wp2
    all_goals first | (exfalso; omega) | (go_ret; exact ⟨ret_int HR.out.symm, B0.out⟩)
end Go.Proofs.YtbhndfphegflhaaGreat
