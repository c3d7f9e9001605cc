/- Texts laid together: SeY. -/
import Derived.Test.YtbhndfphegflhaaGreatMrg50
import Derived.Deep.Cut
import Derived.Deep.CutRange
import Derived.Test.YtbhndfphegflhaaGreatMrg49
set_option linter.unusedSimpArgs false
set_option linter.unusedVariables false
/- Receive and Expect of the reference's subscriptions. Printed by gen_se_y.py. -/
namespace Go.Proofs.YtbhndfphegflhaaGreat
open Go.RowKit

/-- A block in which none of a subscription's lists lies. -/
def SeN (s : Se) (g : Nat) : Prop := NotAt s.skA s.skn g ∧ NotAt s.dbA s.dbn g ∧ NotAt s.iuA s.iun g
theorem SeN.zero (g : Nat) : SeN se0 g := ⟨fun _ _ hA _ => (by cases hA), fun _ _ hA _ => (by cases hA), fun _ _ hA _ => (by cases hA)⟩
theorem SeS.old {w : World} {B : Nat} {s : Se} (h : SeS w B s) {g : Nat} (hg : B ≤ g) : SeN s g := ⟨Sl.old h.pt.1 hg, Sl.old h.pt.2 hg, Sl.old h.iu hg⟩
/-- What New, Receive and Expect hand back. -/
def ResSe (w : World) (s : Se) (r : Int × Se) (e : Ending) (w' : World) : Prop :=
  ∃ z : Se, e = .returned (.tuple #[seV z, .int .i64 r.1]) ∧ SeS w' w'.heap.size z ∧ SeQ r.2 z ∧ Below w.heap.size w w' ∧ ∀ g, g < w.heap.size → SeN s g → SeN z g
theorem resSe_err {w w' : World} {s : Se} {er : Int} (h : Below w.heap.size w w') : ResSe w s (er, se0) (.returned (.tuple #[seV se0, .int .i64 er])) w' := ⟨se0, rfl, se0_S _ _, SeQ.refl _, h, fun g _ _ => SeN.zero g⟩
theorem own_notAt {w : World} {base k n c m : Nat} {t : TypeId} {A : Option Addr} {ys : List Value} (h : w.ownsRow base t k (.slice A n c) m ys) {g : Nat} (hg : g < base) : NotAt A n g := by
  rcases h.2 with hn | ⟨g', cap, cur, he, hbb, _⟩
  · cases hn.1
    intro b off hA
    cases hA
  · cases he
    intro b off hA h0 e
    cases hA
    omega
theorem rcvS_err {s : Se} {v n t e : Int} {l : List Iu} (h : rcvI s.iu v n t = (e, l)) (he : ¬ e = 0) : rcvS s v n t = (e, se0) := by unfold rcvS; rw [h, if_neg he]
theorem rcvS_ok {s : Se} {v n t : Int} {l : List Iu} (h : rcvI s.iu v n t = (0, l)) : rcvS s v n t = (0, setS s l) := by unfold rcvS; rw [h, if_pos rfl]
theorem hasI_no {x : Iu} (h : hasI x = false) (hst : 1 ≤ x.st ∧ x.st ≤ 5) : x.st = 1 ∨ x.st = 3 ∨ x.st = 5 := by
  unfold hasI at h
  simp at h
  omega
theorem hasI_yes {x : Iu} (h : hasI x = true) : (x.st != 1) = true ∧ (x.st != 3) = true ∧ (x.st != 5) = true := by
  unfold hasI at h
  simp at h
  refine ⟨?_, ?_, ?_⟩ <;> (simp; omega)

set_option maxRecDepth 100000 in
set_option maxHeartbeats 16000000 in
theorem rrcv37_any (s : Se) (v n t : Int) (w : World) (hs : SeS w w.heap.size s) (hv : SeV s) :
    Calls Tryz.prog 103 #[seV s, .int .i64 v, .int .i64 n, .int .i64 t] w (ResSe w s (rcvS s v n t)) := by
  have B0 := hide (((Below.refl w.heap.size w).alloc (Nat.le_refl _) (.cells (seC s) 76)).alloc (by simp) (.cells (seC se0) 76))
  have X0 := hide ((Box.new w 76 (seC s)).alloc (.cells (seC se0) 76))
  have R0 := hide (Box.new (w.alloc (.cells (seC s) 76)) 76 (seC se0))
  rw [World.size_alloc] at R0
  have HS := hide hs
  have HV := hide hv
  have hlen := hs.iu.len
  have hle := hs.iu.le
  have HLEN := hide hlen
  have hn128 : s.iun ≤ 128 := by have := hv.len; omega
  have HF := hide (rfind_any s v n _ ((hs.iu.below B0.out).more B0.out.size))
  unfold seC se0 at HF
  rcases ix_cases (fndI v n) s.iu with ⟨h1, _⟩ | ⟨i, x, h1, h2, _, _⟩
  · have HR := hide (rcvS_err (rcvI_none (t := t) h1) (by decide))
    rw [h1] at HF
    clear hs hv h1
    unfold seV at HF ⊢
    go_enter Tryz.func103, Tryz.ntmps103
    go_wp2_with fail
    refine HF.out.mono ?_
    rintro e w1 ⟨rfl, hb⟩
    have B1 := hide (B0.out.trans (hb.mono B0.out.size))
    have R1 := hide (R0.out.below hb (by simp))
    clear hb HF
    have r0 := R1.out.cell 0
    have r1 := R1.out.cell 1
    have r2 := R1.out.cell 2
    have r3 := R1.out.cell 3
    have r4 := R1.out.cell 4
    have r5 := R1.out.cell 5
    have r6 := R1.out.cell 6
    have r7 := R1.out.cell 7
    have r8 := R1.out.cell 8
    simp [se0] at r0 r1 r2 r3 r4 r5 r6 r7 r8
    have fr := fun j => R1.out.frz j
    go_wp2
    refine bodyPost_ret (v := .tuple #[seV se0, .int .i64 9]) (by simp [results, Tryz.results103, go_sem, r0, r1, r2, r3, r4, r5, r6, r7, r8, seV, se0]) rfl ?_
    rw [HR.out]
    exact resSe_err (below_se B1.out (by omega) _ _ _ _ _ _ _ _ _)
  have HRI := hide (rcvI_some (t := t) h1 h2)
  have hil : i < s.iun := by have := (List.getElem?_eq_some_iff.1 h2).1; omega
  have HX := hide h2
  have hst := hv.st x (List.mem_of_getElem? h2)
  rw [h1] at HF
  clear hs hv h1 h2
  have hi0 : ¬ (i : Int) < 0 := by omega
  have hiz : (i : Int) < (s.iun : Int) := by omega
  unfold seV at HF ⊢
  go_enter Tryz.func103, Tryz.ntmps103
  go_wp2_with fail
  refine HF.out.mono ?_
  rintro e w1 ⟨rfl, hb⟩
  have B1 := hide (B0.out.trans (hb.mono B0.out.size))
  have R1 := hide (R0.out.below hb (by simp))
  have X1 := hide (X0.out.below hb (by simp; omega))
  have hz1 := R1.out.lt
  clear hb HF B0 X0 R0
  have x0 := X1.out.cell 0
  have x1 := X1.out.cell 1
  have x2 := X1.out.cell 2
  have x3 := X1.out.cell 3
  have x4 := X1.out.cell 4
  have x5 := X1.out.cell 5
  have x6 := X1.out.cell 6
  have x7 := X1.out.cell 7
  have x8 := X1.out.cell 8
  simp at x0 x1 x2 x3 x4 x5 x6 x7 x8
  obtain ⟨b, off, x', hA, hbB, hx', c0, c1, c2, c3, c4, c5⟩ := Ius_at (HS.out.iu.below B1.out) hil
  have HXE := hide (show x' = x by have h := HX.out; rw [hx'] at h; exact Option.some.inj h)
  rw [HXE.out] at c0 c1 c2 c3 c4 c5
  rw [hA] at x8
  have HA := hide hA
  clear hx' hA
  go_upto_region 5 with fail
  obtain ⟨w2, hw2⟩ : ∃ w2, w2 = w1.alloc (.cells (iuC x) 122) := ⟨_, rfl⟩
  have hf2 : w1.alloc (.cells #[.int .i64 x.vol, .int .i64 x.num, .int .i64 x.last, .int .i64 x.day, .int .i64 x.st, .int .i64 x.itm] 122) = w2 := hw2.symm
  rw [hf2]
  have Y2 := hide (show Box w2 w1.heap.size 122 (iuC x) by rw [hw2]; exact Box.new w1 122 (iuC x))
  have B2 := hide (show Below w.heap.size w w2 by rw [hw2]; exact B1.out.alloc B1.out.size _)
  have R2 := hide (show Box w2 (w.heap.size + 1) 76 (seC se0) by rw [hw2]; exact R1.out.alloc _)
  have X2 := hide (show Box w2 w.heap.size 76 (seC s) by rw [hw2]; exact X1.out.alloc _)
  clear hf2 hw2 B1 R1 X1 x0 x1 x2 x3 x4 x5 x6 x7 x8 c0 c1 c2 c3 c4 c5
  have y0 := Y2.out.cell 0
  have y1 := Y2.out.cell 1
  have y2 := Y2.out.cell 2
  have y3 := Y2.out.cell 3
  have y4 := Y2.out.cell 4
  have y5 := Y2.out.cell 5
  simp at y0 y1 y2 y3 y4 y5
  have r0 := R2.out.cell 0
  have r1 := R2.out.cell 1
  have r2 := R2.out.cell 2
  have r3 := R2.out.cell 3
  have r4 := R2.out.cell 4
  have r5 := R2.out.cell 5
  have r6 := R2.out.cell 6
  have r7 := R2.out.cell 7
  have r8 := R2.out.cell 8
  simp [se0] at r0 r1 r2 r3 r4 r5 r6 r7 r8
  have fr := fun j => R2.out.frz j
  by_cases hh : hasI x = true
  · have HR := hide (rcvS_err (show rcvI s.iu v n t = (12, []) by rw [HRI.out, if_pos hh]) (by decide))
    obtain ⟨k1, k3, k5⟩ := hasI_yes hh
    clear hh
    go_wp2
    refine bodyPost_ret (v := .tuple #[seV se0, .int .i64 12]) (by simp [results, Tryz.results103, go_sem, r0, r1, r2, r3, r4, r5, r6, r7, r8, seV, se0]) rfl ?_
    rw [HR.out]
    exact resSe_err (below_se B2.out (by omega) _ _ _ _ _ _ _ _ _)
  have hh : hasI x = false := by simpa using hh
  have HRJ := hide (show rcvI s.iu v n t = if winB t 1 9999 = false then (2, []) else if s.iu.any (fun y => y.itm == t) = true then (7, []) else (0, s.iu.set i (arrI x t)) by rw [HRI.out, if_neg (by rw [hh]; decide)])
  have hst3 := hasI_no hh hst
  clear hh HRI
  go_cut [36] from 24 (fun s36 wx => s36 = .bool false ∧ wx = w2)
  case first =>
    rcases hst3 with h | h | h
    · have k1 : (x.st != 1) = false := by simp [h]
      clear h hst
      go_wp2
      go_meet
      case rel => exact ⟨rfl, rfl⟩
    · have k1 : (x.st != 1) = true := by simp [h]
      have k3 : (x.st != 3) = false := by simp [h]
      clear h hst
      go_wp2
      go_meet
      case rel => exact ⟨rfl, rfl⟩
    · have k1 : (x.st != 1) = true := by simp [h]
      have k3 : (x.st != 3) = true := by simp [h]
      have k5 : (x.st != 5) = false := by simp [h]
      clear h hst
      go_wp2
      go_meet
      case rel => exact ⟨rfl, rfl⟩
  case rest =>
    obtain ⟨rfl, rfl⟩ := hcut
    clear hst hst3
    by_cases ht1 : t < 1
    · have HR := hide (rcvS_err (show rcvI s.iu v n t = (2, []) by rw [HRJ.out, if_pos]; unfold winB; simp; omega) (by decide))
      go_wp2
      refine bodyPost_ret (v := .tuple #[seV se0, .int .i64 2]) (by simp [results, Tryz.results103, go_sem, r0, r1, r2, r3, r4, r5, r6, r7, r8, seV, se0]) rfl ?_
      rw [HR.out]
      exact resSe_err (below_se B2.out (by omega) _ _ _ _ _ _ _ _ _)
    by_cases ht2 : 9999 < t
    · have HR := hide (rcvS_err (show rcvI s.iu v n t = (2, []) by rw [HRJ.out, if_pos]; unfold winB; simp; omega) (by decide))
      go_wp2
      refine bodyPost_ret (v := .tuple #[seV se0, .int .i64 2]) (by simp [results, Tryz.results103, go_sem, r0, r1, r2, r3, r4, r5, r6, r7, r8, seV, se0]) rfl ?_
      rw [HR.out]
      exact resSe_err (below_se B2.out (by omega) _ _ _ _ _ _ _ _ _)
    have HRK := hide (show rcvI s.iu v n t = if s.iu.any (fun y => y.itm == t) = true then (7, []) else (0, s.iu.set i (arrI x t)) by rw [HRJ.out, if_neg]; unfold winB; simp; omega)
    have HK := hide (rknown_any s t wc ((HS.out.iu.below B2.out).more B2.out.size))
    obtain ⟨q, hq⟩ : ∃ q, s.iu.any (fun y => y.itm == t) = q := ⟨_, rfl⟩
    rw [hq] at HK HRK
    unfold seV at HK
    clear hq HRJ
    have x0 := X2.out.cell 0
    have x1 := X2.out.cell 1
    have x2 := X2.out.cell 2
    have x3 := X2.out.cell 3
    have x4 := X2.out.cell 4
    have x5 := X2.out.cell 5
    have x6 := X2.out.cell 6
    have x7 := X2.out.cell 7
    have x8 := X2.out.cell 8
    simp at x0 x1 x2 x3 x4 x5 x6 x7 x8
    go_wp2_with fail
    refine HK.out.mono ?_
    rintro e w3 ⟨rfl, hb⟩
    have B3 := hide (B2.out.trans (hb.mono B2.out.size))
    have R3 := hide (R2.out.below hb R2.out.lt)
    have X3 := hide (X2.out.below hb X2.out.lt)
    have Y3 := hide (Y2.out.below hb Y2.out.lt)
    clear hb HK B2 R2 X2 Y2 x0 x1 x2 x3 x4 x5 x6 x7 x8 r0 r1 r2 r3 r4 r5 r6 r7 r8 fr y0 y1 y2 y3 y4 y5
    cases q with
    | true =>
      have HR := hide (rcvS_err (show rcvI s.iu v n t = (7, []) by rw [HRK.out, if_pos rfl]) (by decide))
      have r0 := R3.out.cell 0
      have r1 := R3.out.cell 1
      have r2 := R3.out.cell 2
      have r3 := R3.out.cell 3
      have r4 := R3.out.cell 4
      have r5 := R3.out.cell 5
      have r6 := R3.out.cell 6
      have r7 := R3.out.cell 7
      have r8 := R3.out.cell 8
      simp [se0] at r0 r1 r2 r3 r4 r5 r6 r7 r8
      have fr := fun j => R3.out.frz j
      go_wp2
      refine bodyPost_ret (v := .tuple #[seV se0, .int .i64 7]) (by simp [results, Tryz.results103, go_sem, r0, r1, r2, r3, r4, r5, r6, r7, r8, seV, se0]) rfl ?_
      rw [HR.out]
      exact resSe_err (below_se B3.out (by omega) _ _ _ _ _ _ _ _ _)
    | false =>
      have HR := hide (rcvS_ok (show rcvI s.iu v n t = (0, s.iu.set i (arrI x t)) by rw [HRK.out, if_neg (by decide)]))
      have HCH := hide (fun W => rchg_any x 2 t W)
      have HPU := hide (fun W (h : Below w3.heap.size w3 W) => rput_any s i (arrI x t) W ((HS.out.iu.below (B3.out.trans (h.mono B3.out.size))).more (B3.out.trans (h.mono B3.out.size)).size) hil (by omega))
      unfold iuV at HCH
      unfold arrI iuV seV at HPU
      go_upto_region 11 with fail
      have x0 := X3.out.cell 0
      have x1 := X3.out.cell 1
      have x2 := X3.out.cell 2
      have x3 := X3.out.cell 3
      have x4 := X3.out.cell 4
      have x5 := X3.out.cell 5
      have x6 := X3.out.cell 6
      have x7 := X3.out.cell 7
      have x8 := X3.out.cell 8
      simp at x0 x1 x2 x3 x4 x5 x6 x7 x8
      have y0 := Y3.out.cell 0
      have y1 := Y3.out.cell 1
      have y2 := Y3.out.cell 2
      have y3 := Y3.out.cell 3
      have y4 := Y3.out.cell 4
      have y5 := Y3.out.cell 5
      simp at y0 y1 y2 y3 y4 y5
      have dx0 : ∀ j : Nat, j = j := fun _ => rfl
      go_region_with (first
        | (go_at_call 147; refine (HCH.out _).mono ?_; rintro e w5 ⟨rfl, hb5⟩; have H5 : Hid (Below w3.heap.size w3 w5) := hide (Below.trans (Below.refl _ _).drew (hb5.mono (Nat.le_refl _))); have X5 := X3.out.below H5.out X3.out.lt; have z0 := X5.cell 0; have z1 := X5.cell 1; have z2 := X5.cell 2; have z3 := X5.cell 3; have z4 := X5.cell 4; have z5 := X5.cell 5; have z6 := X5.cell 6; have z7 := X5.cell 7; have z8 := X5.cell 8; simp at z0 z1 z2 z3 z4 z5 z6 z7 z8; clear X5 hb5)
        | (go_at_call 146; refine (HPU.out _ H5.out).mono ?_; rintro e w6 ⟨A6, m6, c6, hm6, rfl, hsl6, hb6⟩; have H6 := hide (H5.out.trans (hb6.mono H5.out.size)); have HM6 := hide hm6; have HS6 := hide hsl6; have R6 := hide (R3.out.below H6.out R3.out.lt); have r0 := R6.out.cell 0; have r1 := R6.out.cell 1; have r2 := R6.out.cell 2; have r3 := R6.out.cell 3; have r4 := R6.out.cell 4; have r5 := R6.out.cell 5; have r6 := R6.out.cell 6; have r7 := R6.out.cell 7; have r8 := R6.out.cell 8; simp [se0] at r0 r1 r2 r3 r4 r5 r6 r7 r8; have fr := fun j => R6.out.frz j; clear hb6 hm6 hsl6))
      all_goals
        have hB := below_se (B3.out.trans (H6.out.mono B3.out.size)) (show w.heap.size ≤ w.heap.size + 1 by omega) (.int .i64 s.rcd) (.int .i64 s.start) (.int .i64 s.every) (.int .i64 s.pv) (.int .i64 s.fv) (.slice s.skA s.skn s.skc) (.slice s.dbA s.dbn s.dbc) (.int .i64 (m6 : Int)) (.slice A6 m6 c6)
        have HB := hide hB
        clear hB
        go_wp2
        refine bodyPost_ret (v := .tuple #[seV { s with nx := (m6 : Int), iuA := A6, iun := m6, iuc := c6, iu := s.iu.set i (arrI x t) }, .int .i64 0]) (by simp [results, Tryz.results103, go_sem, r0, r1, r2, r3, r4, r5, r6, r7, r8, seV]) rfl ?_
        rw [HR.out]
        have hlm : (s.iu.set i (arrI x t)).length = m6 := by rw [List.length_set, HM6.out]; exact HLEN.out
        have h9 := HS6.out
        have hz3 := R3.out.lt
        have hz5 := H5.out.size
        refine ⟨_, rfl, ⟨(HS.out.pt.below HB.out).more HB.out.size, ?_⟩, setS_Q A6 c6 hlm.symm (by rw [hlm]), HB.out, fun g hg h => ⟨h.1, h.2.1, own_notAt HS6.out (show g < _ by omega)⟩⟩
        obtain ⟨A', c', hv', hsl'⟩ := Iuo_sl (w := (((((((((w6.setCell ⟨w.heap.size + 1, 0, none⟩ (.int .i64 s.rcd)).setCell ⟨w.heap.size + 1, 1, none⟩ (.int .i64 s.start)).setCell ⟨w.heap.size + 1, 2, none⟩ (.int .i64 s.every)).setCell ⟨w.heap.size + 1, 3, none⟩ (.int .i64 s.pv)).setCell ⟨w.heap.size + 1, 4, none⟩ (.int .i64 s.fv)).setCell ⟨w.heap.size + 1, 5, none⟩ (.slice s.skA s.skn s.skc)).setCell ⟨w.heap.size + 1, 6, none⟩ (.slice s.dbA s.dbn s.dbc)).setCell ⟨w.heap.size + 1, 7, none⟩ (.int .i64 (m6 : Int))).setCell ⟨w.heap.size + 1, 8, none⟩ (.slice A6 m6 c6))) (B := w5.heap.size) (v := .slice A6 m6 c6) (xs := s.iu.set i (arrI x t)) (by
          (iterate 9 (refine own_setp ?_ (by show w.heap.size + 1 < _; omega) _))
          exact h9) (by rw [hlm]; have := HM6.out; omega)
        rw [hlm] at hv' hsl'
        cases hv'
        exact hsl'

set_option maxRecDepth 100000 in
set_option maxHeartbeats 16000000 in
theorem rexp37_any (s : Se) (u : Int) (w : World) (hs : SeS w w.heap.size s) (hv : SeV s) (hu : (issU (sePt s) u).length ≤ 60) :
    Calls Tryz.prog 106 #[seV s, .int .i64 u] w (ResSe w s (0, setS s (expI s u))) := by
  obtain ⟨i0, hi0, hz0, hz1, hz2⟩ := info_parts iu_info
  have HI := hide (And.intro hi0 (And.intro hz0 (And.intro hz1 hz2)))
  have B0 := hide (((Below.refl w.heap.size w).alloc (Nat.le_refl _) (.cells (seC s) 76)).alloc (by simp) (.cells (seC se0) 76))
  have X0 := hide ((Box.new w 76 (seC s)).alloc (.cells (seC se0) 76))
  have R0 := hide (Box.new (w.alloc (.cells (seC s) 76)) 76 (seC se0))
  rw [World.size_alloc] at R0
  have HS := hide hs
  have hlen := hs.iu.len
  have hle := hs.iu.le
  have HLEN := hide hlen
  have hn128 : s.iun ≤ 128 := by have := hv.len; omega
  have HII := hide (rissues_any (sePt s) (min u 109572) 129 _ hv.pt ((hs.pt.below B0.out).more B0.out.size) (by omega))
  rw [issU_take _ _ (by omega), List.take_of_length_le (by omega)] at HII
  obtain ⟨IS, hIS⟩ : ∃ IS, issU (sePt s) u = IS := ⟨_, rfl⟩
  have HEX := hide (show expI s u = s.iu ++ IS.drop s.iu.length by rw [← hIS]; rfl)
  rw [hIS] at hu HII
  obtain ⟨L, hL⟩ : ∃ L, IS.length = L := ⟨_, rfl⟩
  have HL := hide hL
  have hL60 : L ≤ 60 := by omega
  have hL128 : ¬ (128 : Int) < (L : Int) := by omega
  obtain ⟨m, hm⟩ : ∃ m, min u 109572 = m := ⟨_, rfl⟩
  rw [hm] at HII
  clear hs hv hu hL hIS hi0 hz0 hz1 hz2 hlen
  unfold seC se0 ptV sePt at HII
  unfold seV
  by_cases hu9 : u ≤ 109572
  · have hum : u = m := by omega
    have HIT := HII
    clear HII
    obtain ⟨u', hu'⟩ : ∃ u', u' = u := ⟨_, rfl⟩
    rw [← hum] at HIT
    have HII := HIT
    clear HIT hum hm
    have hun : ¬ 109572 < u := by omega
    go_enter Tryz.func106, Tryz.ntmps106
    go_wp2_with fail
    refine HII.out.mono ?_
    rintro e w1 ⟨v0, rfl, ho, hb⟩
    have B1 := hide (B0.out.trans (hb.mono B0.out.size))
    have R1 := hide (R0.out.below hb (by simp))
    have X1 := hide (X0.out.below hb (by simp; omega))
    obtain ⟨A1, c1, rfl, hsl⟩ := Iuo_sl ho (by rw [HL.out]; omega)
    rw [HL.out] at hsl ⊢
    have SL := hide hsl
    have hz1 : w.heap.size + 1 < w1.heap.size := R1.out.lt
    clear ho hb hsl HII
    have x0 := X1.out.cell 0
    have x1 := X1.out.cell 1
    have x2 := X1.out.cell 2
    have x3 := X1.out.cell 3
    have x4 := X1.out.cell 4
    have x5 := X1.out.cell 5
    have x6 := X1.out.cell 6
    have x7 := X1.out.cell 7
    have x8 := X1.out.cell 8
    simp at x0 x1 x2 x3 x4 x5 x6 x7 x8
    have HSe := hide ((HS.out.iu.below B1.out).alloc (by omega) (.cells #[] 122))
    have HMD := hide (World.ownsRow_made (base := w1.heap.size) (e := 122) (size := 6) w1 #[] 0 (Nat.le_refl _) (Nat.zero_le _) rfl)
    have x8e := (X1.out.alloc (.cells #[] 122)).cell 8
    simp at x8e
    have Z1e := hide ((Below.refl w1.heap.size w1).alloc (Nat.le_refl _) (.cells #[] 122))
    go_wp2_with (at_builtin; go_must (refine wpList_append_sl _ rfl _ _ 74 rfl w1.heap.size 122 i0 _ 48 Tryz.underlying74 HI.out.1 HI.out.2.1 HI.out.2.2.1 HI.out.2.2.2 rfl (by decide) iuE_len iuE_one _ 0 [] rfl HMD.out _ _ _ rfl HSe.out (by unfold maxLen; omega) (by omega) (by first | omega | (simp; omega) | simp) ?_))
    intro v1 w2 hown hg hat
    have HG1 := hide (Z1e.out.grown hg (by simp) (by intro q hq; simp [Value.ownBlock] at hq; omega))
    have HO1 := hide (show Iuo w2 w1.heap.size v1 (s.iu ++ (IS.drop s.iun).take (s.iun - s.iun)) by
      unfold Iuo
      rw [Nat.sub_self, List.take_zero, List.append_nil, HLEN.out]
      simpa using hown)
    have x8 := (X1.out.below HG1.out X1.out.lt).cell 8
    simp at x8
    clear hown hg hat HSe HMD Z1e x8e x0 x1 x2 x3 x4 x5 x6 x7
    go_wp2
    clear x8
    go_loopw [7, 8] (fun v s8 wr => ∃ k : Nat, s.iun ≤ k ∧ (k ≤ L ∨ k = s.iun) ∧ s8 = .int .i64 k ∧ Iuo wr w1.heap.size v (s.iu ++ (IS.drop s.iun).take (k - s.iun)) ∧ Below w1.heap.size w1 wr) (fun _ s8 _ => L - (intOf s8).toNat)
    case atStart => exact ⟨s.iun, Nat.le_refl _, .inr rfl, rfl, HO1.out, HG1.out⟩
    case round =>
      clear HO1 HG1
      obtain ⟨k, hk1, hk2, rfl, ho, hb⟩ := hrel
      have HO := hide ho
      have HB := hide hb
      have hzr : w1.heap.size ≤ wr.heap.size := hb.size
      clear ho hb
      by_cases hlt : k < L
      · have hkz : (k : Int) < (L : Int) := by omega
        obtain ⟨b, off, x, hA, hbB, hx, c0, c1', c2, c3, c4, c5⟩ := Ius_at (SL.out.below HB.out) hlt
        have HTK := hide (show s.iu ++ (IS.drop s.iun).take (k + 1 - s.iun) = (s.iu ++ (IS.drop s.iun).take (k - s.iun)) ++ [x] by
          rw [show k + 1 - s.iun = (k - s.iun) + 1 by omega, take_step (show (IS.drop s.iun)[k - s.iun]? = some x by rw [List.getElem?_drop, show s.iun + (k - s.iun) = k by omega]; exact hx), List.append_assoc])
        have hlen : (s.iu ++ (IS.drop s.iun).take (k - s.iun)).length = k := by rw [List.length_append, List.length_take, List.length_drop, HLEN.out, HL.out]; omega
        have HLN := hide hlen
        rw [hA]
        obtain ⟨P, hP⟩ : ∃ P, s.iu ++ (IS.drop s.iun).take (k - s.iun) = P := ⟨_, rfl⟩
        rw [hP] at HO HTK HLN
        have HO2 := hide (show ∀ o, (wr.alloc o).ownsRow w1.heap.size 122 6 u7 P.length (P.flatMap iuE) from fun o => HO.out.alloc o)
        clear hx hlen hA hP
        go_wp2_with (at_builtin; go_must (refine wpList_append_sl _ rfl _ _ 74 rfl w1.heap.size 122 i0 _ 48 Tryz.underlying74 HI.out.1 HI.out.2.1 HI.out.2.2.1 HI.out.2.2.2 rfl (by decide) iuE_len iuE_one _ _ _ rfl (HO2.out _) _ 1 1 rfl (iu_sl1 (x := x) (Box.new _ _ _)) (by rw [HLN.out]; unfold maxLen; omega) (by rw [HLN.out]; omega) (by first | (simp; omega) | (simp only [World.size_alloc]; omega)) ?_))
        intro v' w4 hown hg hat
        have H1 := hide hown
        have H2 := hide ((HB.out.alloc (by omega) _).grown hg (by first | (simp; omega) | omega) (by intro q hq; exact (HO.out.lt q hq).1))
        clear hown hg hat
        go_wp2
        go_roundw
        case rel =>
          refine ⟨k + 1, by omega, by omega, by go_num, ?_, H2.out⟩
          unfold Iuo
          rw [HTK.out, List.flatMap_append, List.length_append]
          have h1 := H1.out
          simpa using h1
        case measure => simp [intOf]; omega
      · have hkz : ¬ (k : Int) < (L : Int) := by omega
        have HFIN := hide (show s.iu ++ (IS.drop s.iun).take (k - s.iun) = expI s u by
          rw [HEX.out, HLEN.out, List.take_of_length_le (by rw [List.length_drop, HL.out]; omega)])
        obtain ⟨ys, hys⟩ : ∃ ys, expI s u = ys := ⟨_, rfl⟩
        have HYS := hide hys
        rw [hys] at HFIN
        have hyl : ys.length ≤ 200 := by rw [← hys, HEX.out, List.length_append, List.length_drop, HLEN.out, HL.out]; omega
        have ho := HO.out
        rw [HFIN.out] at ho
        have HO3 := hide ho
        obtain ⟨A3, c3, hv3, _⟩ := Iuo_sl ho (by omega)
        subst hv3
        obtain ⟨m3, hm3⟩ : ∃ m3, ys.length = m3 := ⟨_, rfl⟩
        have HM3 := hide hm3
        have HWT := hide (fun W => rwithS_any s A3 ys.length c3 ys W)
        rw [hm3] at HWT ⊢
        unfold seV at HWT
        have B3 := hide (B1.out.trans (HB.out.mono B1.out.size))
        have R3 := hide (R1.out.below HB.out R1.out.lt)
        have X3 := hide (X1.out.below HB.out X1.out.lt)
        clear hys ho hm3 HO B1 R1 X1
        have x0 := X3.out.cell 0
        have x1 := X3.out.cell 1
        have x2 := X3.out.cell 2
        have x3 := X3.out.cell 3
        have x4 := X3.out.cell 4
        have x5 := X3.out.cell 5
        have x6 := X3.out.cell 6
        have x7 := X3.out.cell 7
        have x8 := X3.out.cell 8
        simp at x0 x1 x2 x3 x4 x5 x6 x7 x8
        go_wp2_with fail
        refine (HWT.out _).mono ?_
        rintro e w4 ⟨rfl, hb⟩
        have B4 := hide (B3.out.trans (hb.mono B3.out.size))
        have R4 := hide (R3.out.below hb R3.out.lt)
        have HO4 := hide (own_bel HO3.out hb)
        clear hb HWT x0 x1 x2 x3 x4 x5 x6 x7 x8 B3 R3 X3
        have r0 := R4.out.cell 0
        have r1 := R4.out.cell 1
        have r2 := R4.out.cell 2
        have r3 := R4.out.cell 3
        have r4 := R4.out.cell 4
        have r5 := R4.out.cell 5
        have r6 := R4.out.cell 6
        have r7 := R4.out.cell 7
        have r8 := R4.out.cell 8
        simp [se0] at r0 r1 r2 r3 r4 r5 r6 r7 r8
        have fr := fun j => R4.out.frz j
        have HB9 := hide (below_se B4.out (show w.heap.size ≤ w.heap.size + 1 by omega) (.int .i64 s.rcd) (.int .i64 s.start) (.int .i64 s.every) (.int .i64 s.pv) (.int .i64 s.fv) (.slice s.skA s.skn s.skc) (.slice s.dbA s.dbn s.dbc) (.int .i64 (m3 : Int)) (.slice A3 m3 c3))
        go_wp2
        refine bodyPost_ret (v := .tuple #[seV { s with nx := (m3 : Int), iuA := A3, iun := m3, iuc := c3, iu := ys }, .int .i64 0]) (by simp [results, Tryz.results106, go_sem, r0, r1, r2, r3, r4, r5, r6, r7, r8, seV]) rfl ?_
        rw [HYS.out]
        have h9 := HO4.out
        unfold Iuo at h9
        rw [HM3.out] at h9
        refine ⟨_, rfl, ⟨(HS.out.pt.below HB9.out).more HB9.out.size, ?_⟩, setS_Q A3 c3 HM3.out.symm (by rw [HM3.out]), HB9.out, fun g hg h => ⟨h.1, h.2.1, own_notAt h9 (show g < _ by omega)⟩⟩
        refine Sl.of_own iuE_len (base := w1.heap.size) (e := 122) ?_ HM3.out (show m3 ≤ 140737488355328 by have := HM3.out; omega)
        (iterate 9 (refine own_setp ?_ (by show w.heap.size + 1 < _; omega) _))
        exact h9
  · have hum : m = 109572 := by omega
    rw [hum] at HII
    clear hum hm
    have hun : 109572 < u := by omega
    go_enter Tryz.func106, Tryz.ntmps106
    go_wp2_with fail
    refine HII.out.mono ?_
    rintro e w1 ⟨v0, rfl, ho, hb⟩
    have B1 := hide (B0.out.trans (hb.mono B0.out.size))
    have R1 := hide (R0.out.below hb (by simp))
    have X1 := hide (X0.out.below hb (by simp; omega))
    obtain ⟨A1, c1, rfl, hsl⟩ := Iuo_sl ho (by rw [HL.out]; omega)
    rw [HL.out] at hsl ⊢
    have SL := hide hsl
    have hz1 : w.heap.size + 1 < w1.heap.size := R1.out.lt
    clear ho hb hsl HII
    have x0 := X1.out.cell 0
    have x1 := X1.out.cell 1
    have x2 := X1.out.cell 2
    have x3 := X1.out.cell 3
    have x4 := X1.out.cell 4
    have x5 := X1.out.cell 5
    have x6 := X1.out.cell 6
    have x7 := X1.out.cell 7
    have x8 := X1.out.cell 8
    simp at x0 x1 x2 x3 x4 x5 x6 x7 x8
    have HSe := hide ((HS.out.iu.below B1.out).alloc (by omega) (.cells #[] 122))
    have HMD := hide (World.ownsRow_made (base := w1.heap.size) (e := 122) (size := 6) w1 #[] 0 (Nat.le_refl _) (Nat.zero_le _) rfl)
    have x8e := (X1.out.alloc (.cells #[] 122)).cell 8
    simp at x8e
    have Z1e := hide ((Below.refl w1.heap.size w1).alloc (Nat.le_refl _) (.cells #[] 122))
    go_wp2_with (at_builtin; go_must (refine wpList_append_sl _ rfl _ _ 74 rfl w1.heap.size 122 i0 _ 48 Tryz.underlying74 HI.out.1 HI.out.2.1 HI.out.2.2.1 HI.out.2.2.2 rfl (by decide) iuE_len iuE_one _ 0 [] rfl HMD.out _ _ _ rfl HSe.out (by unfold maxLen; omega) (by omega) (by first | omega | (simp; omega) | simp) ?_))
    intro v1 w2 hown hg hat
    have HG1 := hide (Z1e.out.grown hg (by simp) (by intro q hq; simp [Value.ownBlock] at hq; omega))
    have HO1 := hide (show Iuo w2 w1.heap.size v1 (s.iu ++ (IS.drop s.iun).take (s.iun - s.iun)) by
      unfold Iuo
      rw [Nat.sub_self, List.take_zero, List.append_nil, HLEN.out]
      simpa using hown)
    have x8 := (X1.out.below HG1.out X1.out.lt).cell 8
    simp at x8
    clear hown hg hat HSe HMD Z1e x8e x0 x1 x2 x3 x4 x5 x6 x7
    go_wp2
    clear x8
    go_loopw [7, 8] (fun v s8 wr => ∃ k : Nat, s.iun ≤ k ∧ (k ≤ L ∨ k = s.iun) ∧ s8 = .int .i64 k ∧ Iuo wr w1.heap.size v (s.iu ++ (IS.drop s.iun).take (k - s.iun)) ∧ Below w1.heap.size w1 wr) (fun _ s8 _ => L - (intOf s8).toNat)
    case atStart => exact ⟨s.iun, Nat.le_refl _, .inr rfl, rfl, HO1.out, HG1.out⟩
    case round =>
      clear HO1 HG1
      obtain ⟨k, hk1, hk2, rfl, ho, hb⟩ := hrel
      have HO := hide ho
      have HB := hide hb
      have hzr : w1.heap.size ≤ wr.heap.size := hb.size
      clear ho hb
      by_cases hlt : k < L
      · have hkz : (k : Int) < (L : Int) := by omega
        obtain ⟨b, off, x, hA, hbB, hx, c0, c1', c2, c3, c4, c5⟩ := Ius_at (SL.out.below HB.out) hlt
        have HTK := hide (show s.iu ++ (IS.drop s.iun).take (k + 1 - s.iun) = (s.iu ++ (IS.drop s.iun).take (k - s.iun)) ++ [x] by
          rw [show k + 1 - s.iun = (k - s.iun) + 1 by omega, take_step (show (IS.drop s.iun)[k - s.iun]? = some x by rw [List.getElem?_drop, show s.iun + (k - s.iun) = k by omega]; exact hx), List.append_assoc])
        have hlen : (s.iu ++ (IS.drop s.iun).take (k - s.iun)).length = k := by rw [List.length_append, List.length_take, List.length_drop, HLEN.out, HL.out]; omega
        have HLN := hide hlen
        rw [hA]
        obtain ⟨P, hP⟩ : ∃ P, s.iu ++ (IS.drop s.iun).take (k - s.iun) = P := ⟨_, rfl⟩
        rw [hP] at HO HTK HLN
        have HO2 := hide (show ∀ o, (wr.alloc o).ownsRow w1.heap.size 122 6 u7 P.length (P.flatMap iuE) from fun o => HO.out.alloc o)
        clear hx hlen hA hP
        go_wp2_with (at_builtin; go_must (refine wpList_append_sl _ rfl _ _ 74 rfl w1.heap.size 122 i0 _ 48 Tryz.underlying74 HI.out.1 HI.out.2.1 HI.out.2.2.1 HI.out.2.2.2 rfl (by decide) iuE_len iuE_one _ _ _ rfl (HO2.out _) _ 1 1 rfl (iu_sl1 (x := x) (Box.new _ _ _)) (by rw [HLN.out]; unfold maxLen; omega) (by rw [HLN.out]; omega) (by first | (simp; omega) | (simp only [World.size_alloc]; omega)) ?_))
        intro v' w4 hown hg hat
        have H1 := hide hown
        have H2 := hide ((HB.out.alloc (by omega) _).grown hg (by first | (simp; omega) | omega) (by intro q hq; exact (HO.out.lt q hq).1))
        clear hown hg hat
        go_wp2
        go_roundw
        case rel =>
          refine ⟨k + 1, by omega, by omega, by go_num, ?_, H2.out⟩
          unfold Iuo
          rw [HTK.out, List.flatMap_append, List.length_append]
          have h1 := H1.out
          simpa using h1
        case measure => simp [intOf]; omega
      · have hkz : ¬ (k : Int) < (L : Int) := by omega
        have HFIN := hide (show s.iu ++ (IS.drop s.iun).take (k - s.iun) = expI s u by
          rw [HEX.out, HLEN.out, List.take_of_length_le (by rw [List.length_drop, HL.out]; omega)])
        obtain ⟨ys, hys⟩ : ∃ ys, expI s u = ys := ⟨_, rfl⟩
        have HYS := hide hys
        rw [hys] at HFIN
        have hyl : ys.length ≤ 200 := by rw [← hys, HEX.out, List.length_append, List.length_drop, HLEN.out, HL.out]; omega
        have ho := HO.out
        rw [HFIN.out] at ho
        have HO3 := hide ho
        obtain ⟨A3, c3, hv3, _⟩ := Iuo_sl ho (by omega)
        subst hv3
        obtain ⟨m3, hm3⟩ : ∃ m3, ys.length = m3 := ⟨_, rfl⟩
        have HM3 := hide hm3
        have HWT := hide (fun W => rwithS_any s A3 ys.length c3 ys W)
        rw [hm3] at HWT ⊢
        unfold seV at HWT
        have B3 := hide (B1.out.trans (HB.out.mono B1.out.size))
        have R3 := hide (R1.out.below HB.out R1.out.lt)
        have X3 := hide (X1.out.below HB.out X1.out.lt)
        clear hys ho hm3 HO B1 R1 X1
        have x0 := X3.out.cell 0
        have x1 := X3.out.cell 1
        have x2 := X3.out.cell 2
        have x3 := X3.out.cell 3
        have x4 := X3.out.cell 4
        have x5 := X3.out.cell 5
        have x6 := X3.out.cell 6
        have x7 := X3.out.cell 7
        have x8 := X3.out.cell 8
        simp at x0 x1 x2 x3 x4 x5 x6 x7 x8
        go_wp2_with fail
        refine (HWT.out _).mono ?_
        rintro e w4 ⟨rfl, hb⟩
        have B4 := hide (B3.out.trans (hb.mono B3.out.size))
        have R4 := hide (R3.out.below hb R3.out.lt)
        have HO4 := hide (own_bel HO3.out hb)
        clear hb HWT x0 x1 x2 x3 x4 x5 x6 x7 x8 B3 R3 X3
        have r0 := R4.out.cell 0
        have r1 := R4.out.cell 1
        have r2 := R4.out.cell 2
        have r3 := R4.out.cell 3
        have r4 := R4.out.cell 4
        have r5 := R4.out.cell 5
        have r6 := R4.out.cell 6
        have r7 := R4.out.cell 7
        have r8 := R4.out.cell 8
        simp [se0] at r0 r1 r2 r3 r4 r5 r6 r7 r8
        have fr := fun j => R4.out.frz j
        have HB9 := hide (below_se B4.out (show w.heap.size ≤ w.heap.size + 1 by omega) (.int .i64 s.rcd) (.int .i64 s.start) (.int .i64 s.every) (.int .i64 s.pv) (.int .i64 s.fv) (.slice s.skA s.skn s.skc) (.slice s.dbA s.dbn s.dbc) (.int .i64 (m3 : Int)) (.slice A3 m3 c3))
        go_wp2
        refine bodyPost_ret (v := .tuple #[seV { s with nx := (m3 : Int), iuA := A3, iun := m3, iuc := c3, iu := ys }, .int .i64 0]) (by simp [results, Tryz.results106, go_sem, r0, r1, r2, r3, r4, r5, r6, r7, r8, seV]) rfl ?_
        rw [HYS.out]
        have h9 := HO4.out
        unfold Iuo at h9
        rw [HM3.out] at h9
        refine ⟨_, rfl, ⟨(HS.out.pt.below HB9.out).more HB9.out.size, ?_⟩, setS_Q A3 c3 HM3.out.symm (by rw [HM3.out]), HB9.out, fun g hg h => ⟨h.1, h.2.1, own_notAt h9 (show g < _ by omega)⟩⟩
        refine Sl.of_own iuE_len (base := w1.heap.size) (e := 122) ?_ HM3.out (show m3 ≤ 140737488355328 by have := HM3.out; omega)
        (iterate 9 (refine own_setp ?_ (by show w.heap.size + 1 < _; omega) _))
        exact h9
end Go.Proofs.YtbhndfphegflhaaGreat
