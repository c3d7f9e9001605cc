/- Texts laid together: SeZ, SeW, SeV. -/
import Derived.Test.YtbhndfphegflhaaGreatMrg51
import Derived.Test.YtbhndfphegflhaaGreatMrg43
import Derived.Test.YtbhndfphegflhaaGreatMrg38
import Derived.BigRegion
import Derived.Test.YtbhndfphegflhaaGreatMrg50
import Derived.Deep.RegionLaw
import Derived.Deep.RegionHeld3
import Derived.Test.YtbhndfphegflhaaGreatMrg49
set_option linter.unusedSimpArgs false
set_option linter.unusedVariables false
/- find, checkItem and Receive of the program's subscriptions. Printed by gen_se_z.py. -/
namespace Go.Proofs.YtbhndfphegflhaaGreat
open Go.RowKit

theorem box_setS {w : World} {g : Nat} {x : Se} (h : Box w g 76 (seC x)) (A : Option Addr) (n c : Nat) (ys : List Iu) :
    Box (w.setCell ⟨g, 8, none⟩ (.slice A n c)) g 76 (seC { x with iuA := A, iun := n, iuc := c, iu := ys }) := by
  have := h.set_ 8 (.slice A n c)
  simpa using this
set_option maxRecDepth 100000 in
theorem sfind1_any (x : Iu) (v n : Int) (gv gn : Nat) (w : World) (hv : Box w gv 3 #[.int .i64 v]) (hn : Box w gn 3 #[.int .i64 n]) :
    Calls Tryz.prog 175 #[iuV x, .pointer (some ⟨gv, 0, none⟩), .pointer (some ⟨gn, 0, none⟩)] w fun e w' => e = .returned (.bool (fndI v n x)) ∧ Below w.heap.size w w' := by
  have B0 := hide ((Below.refl w.heap.size w).alloc (Nat.le_refl _) (.cells (iuC x) 122))
  have k1 := (hv.alloc (.cells (iuC x) 122)).cell 0
  have k2 := (hn.alloc (.cells (iuC x) 122)).cell 0
  simp at k1 k2
  have HN := hide (show fndI v n x = ((x.vol == v) && ((x.num == n) || (decide (x.num ≤ n) && decide (n ≤ x.last)))) from rfl)
  clear hv hn
  unfold iuV
  cases h0 : (x.vol == v) with
  | false =>
    have HR := hide (show fndI v n x = false by rw [HN.out, h0]; rfl)
    go_enter Tryz.func175, Tryz.ntmps175
    go_wp2
    go_ret
    exact ⟨ret_bool HR.out.symm, B0.out⟩
  | true =>
  cases h1 : (x.num == n) with
  | true =>
    have HR := hide (show fndI v n x = true by rw [HN.out, h0, h1]; rfl)
    go_enter Tryz.func175, Tryz.ntmps175
    go_wp2
    go_ret
    exact ⟨ret_bool HR.out.symm, B0.out⟩
  | false =>
  by_cases h2 : x.num ≤ n
  · by_cases h3 : n ≤ x.last
    · have HR := hide (show fndI v n x = true by rw [HN.out, h0, h1, decide_eq_true h2, decide_eq_true h3]; rfl)
      go_enter Tryz.func175, Tryz.ntmps175
      go_wp2
      go_ret
      exact ⟨ret_bool HR.out.symm, B0.out⟩
    · have HR := hide (show fndI v n x = false by rw [HN.out, h0, h1, decide_eq_true h2, decide_eq_false h3]; rfl)
      go_enter Tryz.func175, Tryz.ntmps175
      go_wp2
      go_ret
      exact ⟨ret_bool HR.out.symm, B0.out⟩
  · have HR := hide (show fndI v n x = false by rw [HN.out, h0, h1, decide_eq_false h2]; rfl)
    go_enter Tryz.func175, Tryz.ntmps175
    go_wp2
    go_ret
    exact ⟨ret_bool HR.out.symm, B0.out⟩
theorem e_sfind1 : ∀ args w, (callFunc 175 args).run Tryz.prog w = .ok (.enter 175 args) w := enters_of Tryz.func175 (by kernel_rfl) rfl
set_option maxRecDepth 100000 in
theorem schkI1_any (x : Iu) (t : Int) (g : Nat) (w : World) (ht : Box w g 3 #[.int .i64 t]) :
    Calls Tryz.prog 177 #[iuV x, .pointer (some ⟨g, 0, none⟩)] w fun e w' => e = .returned (.bool (x.itm == t)) ∧ Below w.heap.size w w' := by
  have B0 := hide ((Below.refl w.heap.size w).alloc (Nat.le_refl _) (.cells (iuC x) 122))
  have k1 := (ht.alloc (.cells (iuC x) 122)).cell 0
  simp at k1
  clear ht
  unfold iuV
  go_enter Tryz.func177, Tryz.ntmps177
  go_wp2
  go_ret
  exact ⟨rfl, B0.out⟩
theorem e_schkI1 : ∀ args w, (callFunc 177 args).run Tryz.prog w = .ok (.enter 177 args) w := enters_of Tryz.func177 (by kernel_rfl) rfl
set_option maxRecDepth 100000 in
theorem sfindP_any (s : Se) (v n : Int) (w : World) (hs : Ius w w.heap.size s.iuA s.iun s.iuc s.iu) :
    Calls Tryz.prog 141 #[seV s, .int .i64 v, .int .i64 n] w fun e w' => e = .returned (.int .i64 (ix (fndI v n) s.iu)) ∧ Below w.heap.size w w' := by
  have B0 := hide ((((Below.refl w.heap.size w).alloc (Nat.le_refl _) (.cells (seC s) 76)).alloc (by simp) (.cells #[.int .i64 v] 3)).alloc (by simp; omega) (.cells #[.int .i64 n] 3))
  have V0 := hide ((Box.new (w.alloc (.cells (seC s) 76)) 3 #[.int .i64 v]).alloc (.cells #[.int .i64 n] 3))
  have N0 := hide (Box.new ((w.alloc (.cells (seC s) 76)).alloc (.cells #[.int .i64 v] 3)) 3 #[.int .i64 n])
  simp only [World.size_alloc] at V0 N0
  have HIX := iu_indexFunc 175 #[.pointer (some ⟨w.heap.size + 1, 0, none⟩), .pointer (some ⟨w.heap.size + 1 + 1, 0, none⟩)] (fndI v n) e_sfind1 s.iuA s.iun s.iuc s.iu _ ((hs.below B0.out).more B0.out.size) (fun W c _ hW => sfind1_any c v n (w.heap.size + 1) (w.heap.size + 1 + 1) W (V0.out.below hW V0.out.lt) (N0.out.below hW N0.out.lt))
  have HIX := hide HIX
  clear hs
  unfold seV
  go_enter Tryz.func141, Tryz.ntmps141
  go_wp2_with fail
  refine HIX.out.mono ?_
  rintro e w1 ⟨rfl, hb⟩
  have B1 := hide (B0.out.trans (hb.mono B0.out.size))
  clear hb HIX
  go_wp2
  go_ret
  exact ⟨rfl, B1.out⟩
def chkE (xs : List Iu) (t : Int) : Int := if winB t 1 9999 = false then 2 else if xs.any (fun y => y.itm == t) = true then 7 else 0
set_option maxRecDepth 100000 in
theorem schkP_any (s : Se) (t : Int) (w : World) (hs : Ius w w.heap.size s.iuA s.iun s.iuc s.iu) :
    Calls Tryz.prog 142 #[seV s, .int .i64 t] w fun e w' => e = .returned (.int .i64 (chkE s.iu t)) ∧ Below w.heap.size w w' := by
  have B0 := hide (((Below.refl w.heap.size w).alloc (Nat.le_refl _) (.cells (seC s) 76)).alloc (by simp) (.cells #[.int .i64 t] 3))
  have T0 := hide (Box.new (w.alloc (.cells (seC s) 76)) 3 #[.int .i64 t])
  rw [World.size_alloc] at T0
  have HCF := iu_containsFunc 177 #[.pointer (some ⟨w.heap.size + 1, 0, none⟩)] (fun y => y.itm == t) e_schkI1 s.iuA s.iun s.iuc s.iu _ ((hs.below B0.out).more B0.out.size) (fun W c _ hW => schkI1_any c t (w.heap.size + 1) W (T0.out.below hW T0.out.lt))
  rw [any_ix] at HCF
  have HCF := hide HCF
  have HW := hide (fun W => swin_any t 1 9999 W)
  have HE := hide (show chkE s.iu t = if winB t 1 9999 = false then 2 else if s.iu.any (fun y => y.itm == t) = true then 7 else 0 from rfl)
  obtain ⟨p, hp⟩ : ∃ p, winB t 1 9999 = p := ⟨_, rfl⟩
  rw [hp] at HW HE
  clear hs hp
  unfold seV
  cases p with
  | false =>
    have HEE := hide (show chkE s.iu t = 2 by rw [HE.out]; rfl)
    go_enter Tryz.func142, Tryz.ntmps142
    go_wp2_with (go_at_call 110; refine (HW.out _).mono ?_; rintro e w' ⟨rfl, rfl⟩)
    go_ret
    exact ⟨ret_int HEE.out.symm, B0.out⟩
  | true =>
    go_enter Tryz.func142, Tryz.ntmps142
    go_wp2_with (go_at_call 110; refine (HW.out _).mono ?_; rintro e w' ⟨rfl, rfl⟩)
    refine HCF.out.mono ?_
    rintro e w1 ⟨rfl, hb⟩
    have B1 := hide (B0.out.trans (hb.mono B0.out.size))
    clear hb HCF
    obtain ⟨q, hq⟩ : ∃ q, s.iu.any (fun y => y.itm == t) = q := ⟨_, rfl⟩
    rw [hq] at HE ⊢
    clear hq
    cases q with
    | true =>
      have HEE := hide (show chkE s.iu t = 7 by rw [HE.out]; rfl)
      go_wp2
      go_ret
      exact ⟨ret_int HEE.out.symm, B1.out⟩
    | false =>
      have HEE := hide (show chkE s.iu t = 0 by rw [HE.out]; rfl)
      go_wp2
      go_ret
      exact ⟨ret_int HEE.out.symm, B1.out⟩
end Go.Proofs.YtbhndfphegflhaaGreat

/- Receive of the program's subscriptions. Printed by gen_se_w.py. -/
namespace Go.Proofs.YtbhndfphegflhaaGreat
open Go.RowKit

theorem rcvI_prog {xs : List Iu} {v n t : Int} {i : Nat} {x : Iu} (h : ix (fndI v n) xs = (i : Int)) (hx : xs[i]? = some x) (hh : hasI x = false) :
    rcvI xs v n t = if (chkE xs t != 0) = true then (chkE xs t, []) else (0, xs.set i (arrI x t)) := by
  rw [rcvI_some h hx, if_neg (by rw [hh]; decide)]
  unfold chkE
  split
  · rfl
  · split
    · rfl
    · rfl
set_option maxRecDepth 100000 in
set_option maxHeartbeats 16000000 in
theorem srcv_any (s : Se) (v n t : Int) (w : World) (hs : SeS w w.heap.size s) (hv : SeV s) :
    Calls Tryz.prog 102 #[seV s, .int .i64 v, .int .i64 n, .int .i64 t] w (ResSe w s (rcvS s v n t)) := by
  have B0 := hide (((Below.refl w.heap.size w).alloc (Nat.le_refl _) (.cells (seC s) 76)).alloc (by simp) (.cells (seC se0) 76))
  have X0 := hide ((Box.new w 76 (seC s)).alloc (.cells (seC se0) 76))
  have R0 := hide (Box.new (w.alloc (.cells (seC s) 76)) 76 (seC se0))
  rw [World.size_alloc] at R0
  have HS := hide hs
  have HV := hide hv
  have hlen := hs.iu.len
  have hle := hs.iu.le
  have HLEN := hide hlen
  have hn128 : s.iun ≤ 128 := by have := hv.len; omega
  have HF := hide (sfindP_any s v n _ ((hs.iu.below B0.out).more B0.out.size))
  unfold seC se0 at HF
  rcases ix_cases (fndI v n) s.iu with ⟨h1, _⟩ | ⟨i, x, h1, h2, _, _⟩
  · have HR := hide (rcvS_err (rcvI_none (t := t) h1) (by decide))
    rw [h1] at HF
    clear hs hv h1
    unfold seV at HF ⊢
    go_enter Tryz.func102, Tryz.ntmps102
    go_wp2_with fail
    refine HF.out.mono ?_
    rintro e w1 ⟨rfl, hb⟩
    have B1 := hide (B0.out.trans (hb.mono B0.out.size))
    have R1 := hide (R0.out.below hb (by simp))
    clear hb HF
    have r0 := R1.out.cell 0
    have r1 := R1.out.cell 1
    have r2 := R1.out.cell 2
    have r3 := R1.out.cell 3
    have r4 := R1.out.cell 4
    have r5 := R1.out.cell 5
    have r6 := R1.out.cell 6
    have r7 := R1.out.cell 7
    have r8 := R1.out.cell 8
    simp [se0] at r0 r1 r2 r3 r4 r5 r6 r7 r8
    have fr := fun j => R1.out.frz j
    go_wp2
    refine bodyPost_ret (v := .tuple #[seV se0, .int .i64 9]) (by simp [results, Tryz.results102, go_sem, r0, r1, r2, r3, r4, r5, r6, r7, r8, seV, se0]) rfl ?_
    rw [HR.out]
    exact resSe_err (below_se B1.out (by omega) _ _ _ _ _ _ _ _ _)
  have HRS := hide (rcvI_some (t := t) h1 h2)
  have HRP := hide (fun hh => rcvI_prog (t := t) h1 h2 hh)
  have hil : i < s.iun := by have := (List.getElem?_eq_some_iff.1 h2).1; omega
  have HX := hide h2
  rw [h1] at HF
  clear hs hv h1 h2
  have hi0 : ¬ (i : Int) < 0 := by omega
  have hi0' : (0 : Int) ≤ (i : Int) := by omega
  have hiz : (i : Int) < (s.iun : Int) := by omega
  unfold seV at HF ⊢
  go_enter Tryz.func102, Tryz.ntmps102
  go_wp2_with fail
  refine HF.out.mono ?_
  rintro e w1 ⟨rfl, hb⟩
  have B1 := hide (B0.out.trans (hb.mono B0.out.size))
  have R1 := hide (R0.out.below hb (by simp))
  have X1 := hide (X0.out.below hb (by simp; omega))
  have hz1 := R1.out.lt
  clear hb HF B0 X0 R0
  have x0 := X1.out.cell 0
  have x1 := X1.out.cell 1
  have x2 := X1.out.cell 2
  have x3 := X1.out.cell 3
  have x4 := X1.out.cell 4
  have x5 := X1.out.cell 5
  have x6 := X1.out.cell 6
  have x7 := X1.out.cell 7
  have x8 := X1.out.cell 8
  simp at x0 x1 x2 x3 x4 x5 x6 x7 x8
  obtain ⟨b, off, x', hA, hbB, hx', c0, c1, c2, c3, c4, c5⟩ := Ius_at (HS.out.iu.below B1.out) hil
  have HXE := hide (show x' = x by have h := HX.out; rw [hx'] at h; exact Option.some.inj h)
  rw [HXE.out] at c0 c1 c2 c3 c4 c5
  rw [hA] at x8
  have HA := hide hA
  have HHS := hide (fun W => shas_any x W)
  obtain ⟨hq, hhq⟩ : ∃ hq, hasI x = hq := ⟨_, rfl⟩
  have HQ := hide hhq
  rw [hhq] at HHS
  unfold iuV at HHS
  clear hx' hA hhq
  go_wp2_with fail
  refine (HHS.out _).mono ?_
  rintro e w2 ⟨rfl, rfl⟩
  obtain ⟨w2, hw2⟩ : ∃ w2, w2 = w1.alloc (.cells (iuC x) 122) := ⟨_, rfl⟩
  rw [← hw2]
  have B2 := hide (show Below w.heap.size w w2 by rw [hw2]; exact B1.out.alloc B1.out.size _)
  have R2 := hide (show Box w2 (w.heap.size + 1) 76 (seC se0) by rw [hw2]; exact R1.out.alloc _)
  have X2 := hide (show Box w2 w.heap.size 76 (seC s) by rw [hw2]; exact X1.out.alloc _)
  clear hw2 B1 R1 X1 x0 x1 x2 x3 x4 x5 x6 x7 x8 c0 c1 c2 c3 c4 c5 HHS
  cases hq with
  | true =>
    have HR := hide (rcvS_err (show rcvI s.iu v n t = (12, []) by rw [HRS.out, if_pos HQ.out]) (by decide))
    have r0 := R2.out.cell 0
    have r1 := R2.out.cell 1
    have r2 := R2.out.cell 2
    have r3 := R2.out.cell 3
    have r4 := R2.out.cell 4
    have r5 := R2.out.cell 5
    have r6 := R2.out.cell 6
    have r7 := R2.out.cell 7
    have r8 := R2.out.cell 8
    simp [se0] at r0 r1 r2 r3 r4 r5 r6 r7 r8
    have fr := fun j => R2.out.frz j
    go_wp2
    refine bodyPost_ret (v := .tuple #[seV se0, .int .i64 12]) (by simp [results, Tryz.results102, go_sem, r0, r1, r2, r3, r4, r5, r6, r7, r8, seV, se0]) rfl ?_
    rw [HR.out]
    exact resSe_err (below_se B2.out (by omega) _ _ _ _ _ _ _ _ _)
  | false =>
  have HRI := hide (HRP.out HQ.out)
  have HK := hide (schkP_any s t w2 ((HS.out.iu.below B2.out).more B2.out.size))
  obtain ⟨ke, hke⟩ : ∃ ke, chkE s.iu t = ke := ⟨_, rfl⟩
  rw [hke] at HK HRI
  unfold seV at HK
  clear hke HRP HRS
  have x0 := X2.out.cell 0
  have x1 := X2.out.cell 1
  have x2 := X2.out.cell 2
  have x3 := X2.out.cell 3
  have x4 := X2.out.cell 4
  have x5 := X2.out.cell 5
  have x6 := X2.out.cell 6
  have x7 := X2.out.cell 7
  have x8 := X2.out.cell 8
  simp at x0 x1 x2 x3 x4 x5 x6 x7 x8
  go_wp2_with fail
  refine HK.out.mono ?_
  rintro e w3 ⟨rfl, hb⟩
  have B3 := hide (B2.out.trans (hb.mono B2.out.size))
  have R3 := hide (R2.out.below hb R2.out.lt)
  have X3 := hide (X2.out.below hb X2.out.lt)
  clear hb HK B2 R2 X2 x0 x1 x2 x3 x4 x5 x6 x7 x8
  by_cases hke : (ke != 0) = true
  · have HR := hide (rcvS_err (show rcvI s.iu v n t = (ke, []) by rw [HRI.out, if_pos hke]) (by simpa using hke))
    have r0 := R3.out.cell 0
    have r1 := R3.out.cell 1
    have r2 := R3.out.cell 2
    have r3 := R3.out.cell 3
    have r4 := R3.out.cell 4
    have r5 := R3.out.cell 5
    have r6 := R3.out.cell 6
    have r7 := R3.out.cell 7
    have r8 := R3.out.cell 8
    simp [se0] at r0 r1 r2 r3 r4 r5 r6 r7 r8
    have fr := fun j => R3.out.frz j
    go_wp2
    refine bodyPost_ret (v := .tuple #[seV se0, .int .i64 ke]) (by simp [results, Tryz.results102, go_sem, r0, r1, r2, r3, r4, r5, r6, r7, r8, seV, se0]) rfl ?_
    rw [HR.out]
    exact resSe_err (below_se B3.out (by omega) _ _ _ _ _ _ _ _ _)
  have hke' : (ke != 0) = false := by simpa using hke
  have HR := hide (rcvS_ok (show rcvI s.iu v n t = (0, s.iu.set i (arrI x t)) by rw [HRI.out, if_neg hke]))
  have HCL := hide (iu_clone s.iuA s.iun s.iuc s.iu w3 ((HS.out.iu.below B3.out).more B3.out.size) (by omega))
  rw [HA.out] at HCL
  clear hke HRI
  have x0 := X3.out.cell 0
  have x1 := X3.out.cell 1
  have x2 := X3.out.cell 2
  have x3 := X3.out.cell 3
  have x4 := X3.out.cell 4
  have x5 := X3.out.cell 5
  have x6 := X3.out.cell 6
  have x7 := X3.out.cell 7
  have x8 := X3.out.cell 8
  simp at x0 x1 x2 x3 x4 x5 x6 x7 x8
  rw [HA.out] at x8
  go_wp2_with fail
  refine HCL.out.mono ?_
  rintro e w4 ⟨v1, rfl, ho, hb⟩
  have hb := (show Below w3.heap.size w3 w4 by first | exact hb | exact hb.1)
  have B4 := hide (B3.out.trans (hb.mono B3.out.size))
  have R4 := hide (R3.out.below hb R3.out.lt)
  have X4 := hide (X3.out.below hb X3.out.lt)
  have hz4 := hb.size
  have hz3 := R3.out.lt
  obtain ⟨g, cap, hv1, hgb, hgl⟩ := World.ownsRow.form ho (by rw [HLEN.out]; omega)
  subst hv1
  unfold Iuo at ho
  rw [HLEN.out] at ho ⊢
  have HO4 := hide ho
  have x8' := X4.out.cell 8
  simp at x8'
  have fx := fun j => X4.out.frz j
  clear ho hb HCL B3 R3 X3 x0 x1 x2 x3 x4 x5 x6 x7 x8
  go_upto_region 10 with fail
  obtain ⟨W5, hW5⟩ : ∃ W5, W5 = w4.setCell ⟨w.heap.size, 8, none⟩ (.slice (some ⟨g, 0, none⟩) s.iun cap) := ⟨_, rfl⟩
  rw [← hW5]
  have X5 := hide (show Box W5 w.heap.size 76 (seC { s with iuA := some ⟨g, 0, none⟩, iun := s.iun, iuc := cap, iu := s.iu }) by rw [hW5]; exact box_setS X4.out _ _ _ _)
  have B5 := hide (show Below w.heap.size w W5 by rw [hW5]; exact B4.out.setCell (p := ⟨w.heap.size, 8, none⟩) (Nat.le_refl _) _)
  have R5 := hide (show Box W5 (w.heap.size + 1) 76 (seC se0) by rw [hW5]; exact R4.out.far (p := ⟨w.heap.size, 8, none⟩) (by show _ ≠ w.heap.size; omega) _)
  have HO5 := hide (show W5.ownsRow w3.heap.size 122 6 (.slice (some ⟨g, 0, none⟩) s.iun cap) s.iun (s.iu.flatMap iuE) by rw [hW5]; exact own_setp HO4.out (p := ⟨w.heap.size, 8, none⟩) (by show w.heap.size < _; omega) _)
  clear hW5 x8' fx X4 B4 R4 HO4
  have y8 := X5.out.cell 8
  simp at y8
  have d4 := own_cell iuE_len HO5.out HLEN.out HX.out 4 _ rfl
  have d5 := own_cell iuE_len HO5.out HLEN.out HX.out 5 _ rfl
  have fg : ∀ j, W5.frozen? ⟨g, j, none⟩ = false := by
    rcases HO5.out.2 with hn | ⟨g', cap', cur, hv', hbb, hB, h4⟩
    · cases hn.1
    · cases hv'
      exact fun j => Box.frz (g := g) hB j
  have hgw : g ≠ w.heap.size := by omega
  have hgw1 : w.heap.size + 1 ≠ g := by omega
  go_region
  obtain ⟨W6, hW6⟩ : ∃ W6, W6 = ((W5.setCell ⟨g, i * 6 + 4, none⟩ (.int .i64 2)).setCell ⟨g, i * 6 + 5, none⟩ (.int .i64 t)).drew := ⟨_, rfl⟩
  rw [← hW6]
  have X6 := hide (show Box W6 w.heap.size 76 (seC { s with iuA := some ⟨g, 0, none⟩, iun := s.iun, iuc := cap, iu := s.iu.set i (arrI x t) }) by
    rw [hW6]; exact ((X5.out.far (p := ⟨g, i * 6 + 4, none⟩) (fun e => hgw e.symm) _).far (p := ⟨g, i * 6 + 5, none⟩) (fun e => hgw e.symm) _).drew)
  have R6 := hide (show Box W6 (w.heap.size + 1) 76 (seC se0) by
    rw [hW6]; exact ((R5.out.far (p := ⟨g, i * 6 + 4, none⟩) hgw1 _).far (p := ⟨g, i * 6 + 5, none⟩) hgw1 _).drew)
  have B6 := hide (show Below w.heap.size w W6 by
    rw [hW6]; exact ((B5.out.setCell (p := ⟨g, i * 6 + 4, none⟩) (show w.heap.size ≤ g by omega) _).setCell (p := ⟨g, i * 6 + 5, none⟩) (show w.heap.size ≤ g by omega) _).drew)
  have HO6 := hide (show W6.ownsRow w3.heap.size 122 6 (.slice (some ⟨g, 0, none⟩) s.iun cap) s.iun ((s.iu.set i (arrI x t)).flatMap iuE) by
    have h1 := own_set iuE_len (y := (⟨x.vol, x.num, x.last, x.day, 2, x.itm⟩ : Iu)) HO5.out HX.out (show 4 < 6 by omega) (u := .int .i64 2) rfl
    have h2 := own_set iuE_len (y := arrI x t) h1 (set_get HX.out) (show 5 < 6 by omega) (u := .int .i64 t) rfl
    rw [List.set_set] at h2
    rw [hW6]
    exact World.ownsRow.drew h2)
  clear hW6 d4 d5 fg y8 X5 R5 B5 HO5
  have HB9 := hide (below_se B6.out (show w.heap.size ≤ w.heap.size + 1 by omega) (.int .i64 s.rcd) (.int .i64 s.start) (.int .i64 s.every) (.int .i64 s.pv) (.int .i64 s.fv) (.slice s.skA s.skn s.skc) (.slice s.dbA s.dbn s.dbc) (.int .i64 s.nx) (.slice (some ⟨g, 0, none⟩) s.iun cap))
  have x0 := X6.out.cell 0
  have x1 := X6.out.cell 1
  have x2 := X6.out.cell 2
  have x3 := X6.out.cell 3
  have x4 := X6.out.cell 4
  have x5 := X6.out.cell 5
  have x6 := X6.out.cell 6
  have x7 := X6.out.cell 7
  have x8 := X6.out.cell 8
  simp at x0 x1 x2 x3 x4 x5 x6 x7 x8
  have r0 := R6.out.cell 0
  have r1 := R6.out.cell 1
  have r2 := R6.out.cell 2
  have r3 := R6.out.cell 3
  have r4 := R6.out.cell 4
  have r5 := R6.out.cell 5
  have r6 := R6.out.cell 6
  have r7 := R6.out.cell 7
  have r8 := R6.out.cell 8
  simp [se0] at r0 r1 r2 r3 r4 r5 r6 r7 r8
  have fr := fun j => R6.out.frz j
  go_wp2
  refine bodyPost_ret (v := .tuple #[seV { s with nx := s.nx, iuA := (some ⟨g, 0, none⟩), iun := s.iun, iuc := cap, iu := s.iu.set i (arrI x t) }, .int .i64 0]) (by simp [results, Tryz.results102, go_sem, r0, r1, r2, r3, r4, r5, r6, r7, r8, seV]) rfl ?_
  rw [HR.out]
  have hlm : (s.iu.set i (arrI x t)).length = s.iun := by rw [List.length_set]; exact HLEN.out
  refine ⟨_, rfl, ⟨(HS.out.pt.below HB9.out).more HB9.out.size, ?_⟩, setS_Q _ cap hlm.symm (by rw [hlm, HV.out.nx, HLEN.out]), HB9.out, fun g' hg' h => ⟨h.1, h.2.1, own_notAt HO6.out (show g' < _ by omega)⟩⟩
  refine Sl.of_own iuE_len (base := w3.heap.size) (e := 122) ?_ hlm (show s.iun ≤ 140737488355328 by omega)
  (iterate 9 (refine own_setp ?_ (by show w.heap.size + 1 < _; omega) _))
  exact HO6.out
end Go.Proofs.YtbhndfphegflhaaGreat

/- Expect of the program's subscriptions. Printed by gen_se_w.py. -/
namespace Go.Proofs.YtbhndfphegflhaaGreat
open Go.RowKit

def opSame (o : Op) : Op := o
theorem setS_same {s : Se} {u : Int} (hv : SeV s) (hl : s.iu.length = s.iun) (h : (issU (sePt s) u).length ≤ s.iun) : SeQ (setS s (expI s u)) s := by
  have e : expI s u = s.iu := by unfold expI; rw [List.drop_of_length_le (by omega), List.append_nil]
  rw [e]
  have h1 := hv.nx
  obtain ⟨rcd, start, every, pv, fv, skA, skn, skc, sk, dbA, dbn, dbc, db, nx, iuA, iun, iuc, iu⟩ := s
  simp only at h1 hl
  subst h1 hl
  exact ⟨skA, skc, dbA, dbc, iuA, iuc, rfl⟩

set_option maxRecDepth 100000 in
set_option maxHeartbeats 16000000 in
theorem sexp_any (s : Se) (u : Int) (w : World) (hs : SeS w w.heap.size s) (hv : SeV s) (hu : (issU (sePt s) u).length ≤ 60) :
    Calls Tryz.prog 105 #[seV s, .int .i64 u] w (ResSe w s (0, setS s (expI s u))) := by
  obtain ⟨i0, hi0, hz0, hz1, hz2⟩ := info_parts iu_info
  have HI := hide (And.intro hi0 (And.intro hz0 (And.intro hz1 hz2)))
  clear hi0 hz0 hz1 hz2
  have B0 := hide (((Below.refl w.heap.size w).alloc (Nat.le_refl _) (.cells (seC s) 76)).alloc (by simp) (.cells (seC se0) 76))
  have X0 := hide ((Box.new w 76 (seC s)).alloc (.cells (seC se0) 76))
  have R0 := hide (Box.new (w.alloc (.cells (seC s) 76)) 76 (seC se0))
  rw [World.size_alloc] at R0
  have HS := hide hs
  have HV := hide hv
  have hlen := hs.iu.len
  have hle := hs.iu.le
  have HLEN := hide hlen
  have hn128 : s.iun ≤ 128 := by have := hv.len; omega
  have HU := hide (puntil_any (sePt s) u _ hv.pt ((hs.pt.below B0.out).more B0.out.size))
  have HCO := hide (issU_col (sePt s) u s.iun)
  have HSM := hide (fun h => setS_same (u := u) hv hlen h)
  have HEX := hide (show expI s u = s.iu ++ (issU (sePt s) u).drop s.iu.length from rfl)
  have hnx : s.nx = (s.iun : Int) := by rw [hv.nx, hlen]
  have HNX := hide hnx
  obtain ⟨IS, hIS⟩ : ∃ IS, issU (sePt s) u = IS := ⟨_, rfl⟩
  rw [hIS] at HU HCO HSM HEX hu
  obtain ⟨L, hL⟩ : ∃ L, IS.length = L := ⟨_, rfl⟩
  rw [hL] at HU HCO HSM hu
  have HL := hide hL
  have hL128 : ¬ (128 : Int) < (L : Int) := by omega
  have HPL := hide (fun W (h : Below w.heap.size w W) (h1 : 1 ≤ L - s.iun) => plist_any (sePt s) s.iun (L - s.iun) W hv.pt ((hs.pt.below h).more h.size) (by omega) h1 (by omega))
  have HCL := hide (fun W (h : Below w.heap.size w W) => iu_clone s.iuA s.iun s.iuc s.iu W ((hs.iu.below h).more h.size) (by omega))
  rw [HCO.out] at HPL
  unfold seC se0 ptV sePt at HU
  unfold ptV sePt at HPL
  clear hs hv hu hL hIS hnx
  unfold seV
  go_enter Tryz.func105, Tryz.ntmps105
  go_wp2_with fail
  refine HU.out.mono ?_
  rintro e w1 ⟨rfl, hb⟩
  have B1 := hide (B0.out.trans (hb.mono B0.out.size))
  have R1 := hide (R0.out.below hb (by simp))
  have X1 := hide (X0.out.below hb (by simp; omega))
  have hz1 := R1.out.lt
  clear hb HU B0 X0 R0
  have x0 := X1.out.cell 0
  have x1 := X1.out.cell 1
  have x2 := X1.out.cell 2
  have x3 := X1.out.cell 3
  have x4 := X1.out.cell 4
  have x5 := X1.out.cell 5
  have x6 := X1.out.cell 6
  have x7 := X1.out.cell 7
  have x8 := X1.out.cell 8
  simp at x0 x1 x2 x3 x4 x5 x6 x7 x8
  rw [HNX.out] at x7
  by_cases hle2 : L ≤ s.iun
  · have hlz : (L : Int) ≤ (s.iun : Int) := by omega
    have HSQ := hide (HSM.out hle2)
    have r0 := R1.out.cell 0
    have r1 := R1.out.cell 1
    have r2 := R1.out.cell 2
    have r3 := R1.out.cell 3
    have r4 := R1.out.cell 4
    have r5 := R1.out.cell 5
    have r6 := R1.out.cell 6
    have r7 := R1.out.cell 7
    have r8 := R1.out.cell 8
    simp [se0] at r0 r1 r2 r3 r4 r5 r6 r7 r8
    have fr := fun j => R1.out.frz j
    have HB9 := hide (below_se B1.out (show w.heap.size ≤ w.heap.size + 1 by omega) (.int .i64 s.rcd) (.int .i64 s.start) (.int .i64 s.every) (.int .i64 s.pv) (.int .i64 s.fv) (.slice s.skA s.skn s.skc) (.slice s.dbA s.dbn s.dbc) (.int .i64 (s.iun : Int)) (.slice s.iuA s.iun s.iuc))
    go_wp2
    refine bodyPost_ret (v := .tuple #[seV s, .int .i64 0]) (by simp [results, Tryz.results105, go_sem, r0, r1, r2, r3, r4, r5, r6, r7, r8, seV, HNX.out]) rfl ?_
    exact ⟨s, rfl, (HS.out.below HB9.out).more HB9.out.size, HSQ.out, HB9.out, fun _ _ h => h⟩
  · have hlz : ¬ (L : Int) ≤ (s.iun : Int) := by omega
    have e1 : IntKind.i64.wrap ((L : Int) - (s.iun : Int)) = ((L - s.iun : Nat) : Int) := by rw [IntKind.wrap_i64]; omega
    obtain ⟨d, hd⟩ : ∃ d, L - s.iun = d := ⟨_, rfl⟩
    rw [hd] at HPL e1
    have hd1 : 1 ≤ d := by omega
    have hd60 : d ≤ 128 := by omega
    have HD := hide hd
    have HPL := hide (fun W h => HPL.out W h hd1)
    clear hd
    have H0 := hide (Below.refl w1.heap.size w1).drew
    have HYL := hide (show (s.iu ++ IS.drop s.iun).length = L by rw [List.length_append, List.length_drop, HLEN.out, HL.out]; omega)
    go_upto_region 6 with fail
    have HKS := hide (fun W (h : Hid (Below w1.heap.size w1 W)) => (And.intro ((h.out.cell (p := ⟨w.heap.size, 1, none⟩) X1.out.lt).trans x1) (And.intro ((h.out.cell (p := ⟨w.heap.size, 2, none⟩) X1.out.lt).trans x2) (And.intro ((h.out.cell (p := ⟨w.heap.size, 3, none⟩) X1.out.lt).trans x3) (And.intro ((h.out.cell (p := ⟨w.heap.size, 4, none⟩) X1.out.lt).trans x4) (And.intro ((h.out.cell (p := ⟨w.heap.size, 5, none⟩) X1.out.lt).trans x5) (And.intro ((h.out.cell (p := ⟨w.heap.size, 6, none⟩) X1.out.lt).trans x6) ((h.out.cell (p := ⟨w.heap.size, 7, none⟩) X1.out.lt).trans x7))))))))
    have HKS9 := hide (fun W (h : Hid (Below w1.heap.size w1 W)) (u8 : Value) => show (W.setCell ⟨w.heap.size, 8, none⟩ u8).cell? ⟨w.heap.size, 1, none⟩ = some (.int .i64 s.start) ∧ (W.setCell ⟨w.heap.size, 8, none⟩ u8).cell? ⟨w.heap.size, 2, none⟩ = some (.int .i64 s.every) ∧ (W.setCell ⟨w.heap.size, 8, none⟩ u8).cell? ⟨w.heap.size, 3, none⟩ = some (.int .i64 s.pv) ∧ (W.setCell ⟨w.heap.size, 8, none⟩ u8).cell? ⟨w.heap.size, 4, none⟩ = some (.int .i64 s.fv) ∧ (W.setCell ⟨w.heap.size, 8, none⟩ u8).cell? ⟨w.heap.size, 5, none⟩ = some (.slice s.skA s.skn s.skc) ∧ (W.setCell ⟨w.heap.size, 8, none⟩ u8).cell? ⟨w.heap.size, 6, none⟩ = some (.slice s.dbA s.dbn s.dbc) ∧ (W.setCell ⟨w.heap.size, 8, none⟩ u8).cell? ⟨w.heap.size, 7, none⟩ = some (.int .i64 (s.iun : Int)) from ⟨(by have h9 := ((X1.out.below h.out X1.out.lt).set_ 8 u8).cell 1; simp at h9; first | exact h9 | (rw [HNX.out] at h9; exact h9)), (by have h9 := ((X1.out.below h.out X1.out.lt).set_ 8 u8).cell 2; simp at h9; first | exact h9 | (rw [HNX.out] at h9; exact h9)), (by have h9 := ((X1.out.below h.out X1.out.lt).set_ 8 u8).cell 3; simp at h9; first | exact h9 | (rw [HNX.out] at h9; exact h9)), (by have h9 := ((X1.out.below h.out X1.out.lt).set_ 8 u8).cell 4; simp at h9; first | exact h9 | (rw [HNX.out] at h9; exact h9)), (by have h9 := ((X1.out.below h.out X1.out.lt).set_ 8 u8).cell 5; simp at h9; first | exact h9 | (rw [HNX.out] at h9; exact h9)), (by have h9 := ((X1.out.below h.out X1.out.lt).set_ 8 u8).cell 6; simp at h9; first | exact h9 | (rw [HNX.out] at h9; exact h9)), (by have h9 := ((X1.out.below h.out X1.out.lt).set_ 8 u8).cell 7; simp at h9; first | exact h9 | (rw [HNX.out] at h9; exact h9))⟩)
    have hsm : ∀ o, opSame o = o := fun _ => rfl
    clear x0
    rw [show Op.load 74 (Operand.tmp 19) = opSame (Op.load 74 (Operand.tmp 19)) from rfl]
    go_region_held3 (fun w' => w'.cell? ⟨w.heap.size, 1, none⟩ = some (.int .i64 s.start) ∧ w'.cell? ⟨w.heap.size, 2, none⟩ = some (.int .i64 s.every) ∧ w'.cell? ⟨w.heap.size, 3, none⟩ = some (.int .i64 s.pv) ∧ w'.cell? ⟨w.heap.size, 4, none⟩ = some (.int .i64 s.fv) ∧ w'.cell? ⟨w.heap.size, 5, none⟩ = some (.slice s.skA s.skn s.skc) ∧ w'.cell? ⟨w.heap.size, 6, none⟩ = some (.slice s.dbA s.dbn s.dbc) ∧ w'.cell? ⟨w.heap.size, 7, none⟩ = some (.int .i64 (s.iun : Int)))
      (first | with_reducible exact HKS.out _ H0 | with_reducible exact HKS.out _ hS1 | with_reducible exact HKS.out _ hS2 | with_reducible exact HKS.out _ hL1 | with_reducible exact HKS.out _ B5 | with_reducible exact HKS9.out _ B5 _)
      (first
        | (go_at_call 143; with_reducible refine (HCL.out _ (B1.out.trans (H0.out.mono B1.out.size))).mono ?_; rintro e w2 ⟨vc, rfl, hoc, hbc⟩; have hbc := (show Below _ _ w2 by first | exact hbc | exact hbc.1); have hS1 := hbel_call H0 hbc; have HOC1 := hide (own_base hoc (show w1.heap.size ≤ _ from H0.out.size) : Iuo w2 w1.heap.size vc s.iu))
        | (go_at_call 112; with_reducible refine (HPL.out _ (B1.out.trans (hS1.out.mono B1.out.size))).mono ?_; rintro e w3 ⟨vl, rfl, hol, hbl⟩; have hS2 := hbel_call hS1 hbl; have HOC := hide (own_bel HOC1.out hbl); obtain ⟨AL, cL, rfl, hsl⟩ := Iuo_sl hol (by rw [List.length_drop, HL.out]; omega); rw [List.length_drop, HL.out, HD.out] at hsl ⊢; have HSL := hide hsl)
        | (go_at_call 112; with_reducible refine (HPL.out _ (B1.out.trans (H0.out.mono B1.out.size))).mono ?_; rintro e w2 ⟨vl, rfl, hol, hbl⟩; have hL1 := hbel_call H0 hbl; have z8 := (X1.out.below hL1.out X1.out.lt).cell 8; simp at z8; obtain ⟨AL, cL, rfl, hsl⟩ := Iuo_sl hol (by rw [List.length_drop, HL.out]; omega); rw [List.length_drop, HL.out, HD.out] at hsl ⊢; have HSL1 := hide hsl)
        | (go_at_call 143; with_reducible refine (HCL.out _ (B1.out.trans (hL1.out.mono B1.out.size))).mono ?_; rintro e w3 ⟨vc, rfl, hoc, hbc⟩; have hbc := (show Below _ _ w3 by first | exact hbc | exact hbc.1); have hS2 := hbel_call hL1 hbc; have HOC := hide (own_base hoc (show w1.heap.size ≤ _ from hL1.out.size) : Iuo w3 w1.heap.size vc s.iu); have HSL := hide ((HSL1.out.below hbc).more hbc.size))
        | (refine step_append_sl rfl (.tmp 21) (.tmp 30) 74 rfl w1.heap.size 122 i0 _ 48 Tryz.underlying74 HI.out.1 HI.out.2.1 HI.out.2.2.1 HI.out.2.2.2 rfl (by decide) iuE_len iuE_one vc _ _ (by first | (with_reducible rfl) | (simp [Act.eval]; done) | rfl) HOC.out AL d cL (by first | (with_reducible rfl) | (simp [Act.eval]; done) | rfl) HSL.out (by rw [HLEN.out]; unfold maxLen; omega) (by rw [HLEN.out]; omega) (by exact hS2.out.size) ?_; intro v1 w5 hown hg hat; have B5 := hide (hS2.out.grown hg hS2.out.size (by intro q hq; exact (HOC.out.lt q hq).1)); have ho : Iuo w5 w1.heap.size v1 (s.iu ++ IS.drop s.iun) := (by unfold Iuo; rw [List.length_append, List.length_drop, HL.out, HD.out, List.flatMap_append]; exact hown); have HO5 := hide ho; obtain ⟨A2, c2, hv2, _⟩ := Iuo_sl ho (by rw [HYL.out]; omega); rw [HYL.out] at hv2; subst hv2; have T5 := X1.out.below B5.out X1.out.lt; have t8 := T5.cell 8; have tf := T5.frz 8; simp at t8; clear hown hg hat ho T5))
    all_goals
      have T5 := hide (X1.out.below B5.out X1.out.lt)
      have R5 := hide (R1.out.below B5.out R1.out.lt)
      have B6 := hide (B1.out.trans (B5.out.mono B1.out.size))
      have HB9 := hide (below_se ((B6.out.setCell (p := ⟨w.heap.size, 8, none⟩) (Nat.le_refl _) (.slice A2 L c2)).setCell (p := ⟨w.heap.size, 7, none⟩) (Nat.le_refl _) (.int .i64 (L : Int))) (show w.heap.size ≤ w.heap.size + 1 by omega) (.int .i64 s.rcd) (.int .i64 s.start) (.int .i64 s.every) (.int .i64 s.pv) (.int .i64 s.fv) (.slice s.skA s.skn s.skc) (.slice s.dbA s.dbn s.dbc) (.int .i64 (L : Int)) (.slice A2 L c2))
      try clear t8 tf
      try clear z0 z1 z2 z3 z4 z5 z6 z7 z8
      try clear y0 y1 y2 y3 y4 y5 y6 y7 y8
      have t0 := T5.out.cell 0
      have t1 := T5.out.cell 1
      have t2 := T5.out.cell 2
      have t3 := T5.out.cell 3
      have t4 := T5.out.cell 4
      have t5 := T5.out.cell 5
      have t6 := T5.out.cell 6
      have t7 := T5.out.cell 7
      have t8 := T5.out.cell 8
      simp at t0 t1 t2 t3 t4 t5 t6 t7 t8
      have r0 := R5.out.cell 0
      have r1 := R5.out.cell 1
      have r2 := R5.out.cell 2
      have r3 := R5.out.cell 3
      have r4 := R5.out.cell 4
      have r5 := R5.out.cell 5
      have r6 := R5.out.cell 6
      have r7 := R5.out.cell 7
      have r8 := R5.out.cell 8
      simp [se0] at r0 r1 r2 r3 r4 r5 r6 r7 r8
      have fr := fun j => R5.out.frz j
      have ft := fun j => T5.out.frz j
      go_wp2
      refine bodyPost_ret (v := .tuple #[seV { s with nx := (L : Int), iuA := A2, iun := L, iuc := c2, iu := s.iu ++ IS.drop s.iun }, .int .i64 0]) (by simp [results, Tryz.results105, go_sem, t0, t1, t2, t3, t4, t5, t6, t7, t8, r0, r1, r2, r3, r4, r5, r6, r7, r8, seV]) rfl ?_
      rw [HEX.out, HLEN.out]
      refine ⟨_, rfl, ⟨(HS.out.pt.below HB9.out).more HB9.out.size, ?_⟩, setS_Q A2 c2 HYL.out.symm (by rw [HYL.out]), HB9.out, fun g hg h => ⟨h.1, h.2.1, own_notAt HO5.out (show g < _ by omega)⟩⟩
      refine Sl.of_own iuE_len (base := w1.heap.size) (e := 122) ?_ HYL.out (show L ≤ 140737488355328 by omega)
      (iterate 9 (refine own_setp ?_ (by show w.heap.size + 1 < _; omega) _))
      (iterate 2 (refine own_setp ?_ (by show w.heap.size < _; omega) _))
      have h := HO5.out
      unfold Iuo at h
      rw [HYL.out] at h
      exact h
end Go.Proofs.YtbhndfphegflhaaGreat
