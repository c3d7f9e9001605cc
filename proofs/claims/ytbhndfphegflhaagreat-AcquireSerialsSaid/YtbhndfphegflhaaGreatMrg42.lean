/- Texts laid together by merge.py: AqT. -/
import Derived.Test.YtbhndfphegflhaaGreatMrg15
import Derived.Test.YtbhndfphegflhaaGreatMrg40
import Derived.Test.YtbhndfphegflhaaGreatMrg41
import Derived.Test.YtbhndfphegflhaaGreatMrg39
import Derived.Test.YtbhndfphegflhaaGreatMrg23
set_option linter.unusedSimpArgs false
set_option linter.unusedVariables false
/- Walks: Sample, alive of the law. Printed by gen_aq_t.py. -/
namespace Go.Proofs.YtbhndfphegflhaaGreat
open Go.RowKit

theorem aq_put {w : World} {g : Nat} {y : Aq} (h : Box w g 27 (aqC y)) (z : Aq) :
    Box ((((((w.setCell ⟨g, 0, none⟩ (.int .i64 z.yr)).setCell ⟨g, 1, none⟩ (.slice z.fA z.fn z.fc)).setCell ⟨g, 2, none⟩ (.slice z.oA z.on z.oc)).setCell ⟨g, 3, none⟩ (.slice z.bA z.bn z.bc)).setCell ⟨g, 4, none⟩ (.slice z.sA z.sn z.sc)).setCell ⟨g, 5, none⟩ (.int .i64 z.nx)) g 27 (aqC z) :=
  (((((h.set_ 0 (.int .i64 z.yr)).set_ 1 (.slice z.fA z.fn z.fc)).set_ 2 (.slice z.oA z.on z.oc)).set_ 3 (.slice z.bA z.bn z.bc)).set_ 4 (.slice z.sA z.sn z.sc)).set_ 5 (.int .i64 z.nx)
theorem fn_of {w : World} {B : Nat} {z : Aq} {P : Pa} (h : AqS w B z) (hp : aqP z = P) : z.fn = P.f.length := by
  rw [← h.f.len, ← hp]; rfl
theorem on_of {w : World} {B : Nat} {z : Aq} {P : Pa} (h : AqS w B z) (hp : aqP z = P) : z.on = P.o.length := by
  rw [← h.o.len, ← hp]; rfl
theorem fM_of {z : Aq} {P : Pa} (hp : aqP z = P) (h : ∀ f ∈ P.f, FuM f) : ∀ f ∈ z.f, FuM f := by
  have : z.f = P.f := by rw [← hp]; rfl
  rw [this]; exact h
theorem oV_of {z : Aq} {P : Pa} (hp : aqP z = P) (h : VldO P.o) : VldO z.o := by
  have : z.o = P.o := by rw [← hp]; rfl
  rw [this]; exact h
theorem nx_of {z : Aq} {P : Pa} (hp : aqP z = P) : z.nx = P.nx := by rw [← hp]; rfl
theorem yr_of {z : Aq} {P : Pa} (hp : aqP z = P) : z.yr = P.yr := by rw [← hp]; rfl
theorem M2 {x y : Fu} (hx : FuM x) (hy : FuM y) : ∀ f ∈ [x, y], FuM f := by
  intro f hf
  rcases List.mem_cons.1 hf with rfl | hf
  · exact hx
  · rw [List.mem_singleton.1 hf]; exact hy
theorem Mk (x : Fu) (h1 : 0 ≤ x.budget ∧ x.budget ≤ 100000000) (h2 : 0 ≤ x.enc ∧ x.enc ≤ 100000000) (h3 : 0 ≤ x.spent ∧ x.spent ≤ 100000000) : FuM x := ⟨h1, h2, h3⟩
theorem ms2 : ∀ f ∈ s2.f, FuM f := M2 (Mk _ (by decide) (by decide) (by decide)) (Mk _ (by decide) (by decide) (by decide))
theorem ms4 (g : Nat) : ∀ f ∈ (s4 g).f, FuM f := M2 (Mk _ (by decide) (by decide) (by decide)) (Mk _ (by decide) (by decide) (by decide))
theorem ms5 (g : Nat) : ∀ f ∈ (s5 g).f, FuM f := M2 (Mk _ (by decide) (by decide) (by decide)) (Mk _ (by decide) (by decide) (by decide))
theorem ms6 (g : Nat) : ∀ f ∈ (s6 g).f, FuM f := M2 (Mk _ (by decide) (by decide) (by decide)) (Mk _ (by decide) (by decide) (by decide))
theorem vo3 (g : Nat) : VldO (s3 g).o := VldO.of (by kernel_rfl)
theorem vo4 (g : Nat) : VldO (s4 g).o := VldO.of (by kernel_rfl)
theorem vo5 (g : Nat) : VldO (s5 g).o := VldO.of (by kernel_rfl)
theorem vo6 (g : Nat) : VldO (s6 g).o := VldO.of (by kernel_rfl)

set_option maxRecDepth 100000 in
set_option maxHeartbeats 4000000 in
theorem sample_any (w : World) : Calls Tryz.prog 50 #[] w fun e w' => ∃ z g, e = .returned (.tuple #[aqV z, .int .i64 0]) ∧ AqS w' w'.heap.size z ∧ aqP z = s4 g ∧ Below w.heap.size w w' := by
  have B0 := hide ((Below.refl w.heap.size w).alloc (Nat.le_refl _) (.cells (aqC aq0) 27))
  have R0 := hide (Box.new w 27 (aqC aq0))
  have HN := hide (pnew_any 2026 (w.alloc (.cells (aqC aq0) 27)) (by omega))
  unfold aqV aq0 at HN
  go_enter Tryz.func50, Tryz.ntmps50
  go_wp2_with fail
  refine HN.out.mono ?_
  rintro e w1 ⟨rfl, hb⟩
  have B1 := hide (B0.out.trans (hb.mono B0.out.size))
  have R1 := hide (R0.out.below hb R0.out.lt)
  have hz1 := R1.out.lt
  clear hb HN
  have hc := paddA_any ⟨2026, none, 0, 0, [], none, 0, 0, [], none, 0, 0, [], none, 0, 0, [], 1⟩ f1 w1 ⟨Sl.none_, Sl.none_, fun _ h => (by cases h), Sl.none_, Sl.none_, fun _ h => (by cases h)⟩ (by decide)
  rw [show addFA (aqP ⟨2026, none, 0, 0, [], none, 0, 0, [], none, 0, 0, [], none, 0, 0, [], 1⟩) f1 = (0, s1) from al1] at hc
  unfold aqV fuV f1 at hc
  skip
  have HC1 := hide hc
  clear hc
  go_wp2_with fail
  refine HC1.out.mono ?_
  rintro e w2 ⟨z1, rfl, hz, hp, hb⟩
  have B3 := hide (B1.out.trans (hb.mono B1.out.size))
  have X4 := hide (R1.out.below hb R1.out.lt)
  have S5 := hide hz
  have P6 := hide hp
  clear hz hp hb HC1 
  unfold aqV
  have B7 := hide (B3.out.alloc B3.out.size (.cells (aqC z1) 27))
  have X8 := hide (X4.out.alloc (.cells (aqC z1) 27))
  have S9 := hide ((S5.out.below ((Below.refl w2.heap.size w2).alloc (Nat.le_refl _) (.cells (aqC z1) 27))).more (B' := (w2.alloc (.cells (aqC z1) 27)).heap.size) (by simp))
  have hlt_T_R := X4.out.lt
  have X10 := hide (Box.new w2 27 (aqC z1))
  go_wp2_with fail
  have hc := paddA_any z1 f2 _ S9.out (by rw [fn_of S9.out P6.out]; decide)
  rw [show addFA (aqP z1) f2 = (0, s2) by rw [P6.out]; exact al2] at hc
  unfold aqV fuV f2 at hc
  skip
  have HC11 := hide hc
  clear hc
  refine HC11.out.mono ?_
  rintro e w12 ⟨z2, rfl, hz, hp, hb⟩
  have B13 := hide (B7.out.trans (hb.mono B7.out.size))
  have X14 := hide (X8.out.below hb X8.out.lt)
  have X15 := hide (X10.out.below hb X10.out.lt)
  have S16 := hide ((S9.out.below hb).more hb.size)
  have S17 := hide hz
  have P18 := hide hp
  clear hz hp hb HC11 
  unfold aqV
  have t_0 := X15.out.cell 0
  have t_1 := X15.out.cell 1
  have t_2 := X15.out.cell 2
  have t_3 := X15.out.cell 3
  have t_4 := X15.out.cell 4
  have t_5 := X15.out.cell 5
  simp [aq0] at t_0 t_1 t_2 t_3 t_4 t_5
  have tf := fun j => X15.out.frz j
  go_wp2_with fail
  clear t_0 t_1 t_2 t_3 t_4 t_5 tf
  have B19 := hide (below_aq B13.out (show w.heap.size ≤ w2.heap.size by first | exact Nat.le_refl _ | omega | simp) (.int .i64 z2.yr) (.slice z2.fA z2.fn z2.fc) (.slice z2.oA z2.on z2.oc) (.slice z2.bA z2.bn z2.bc) (.slice z2.sA z2.sn z2.sc) (.int .i64 z2.nx))
  have S20 := hide (AqS.put (w0 := w) S17.out X15.out (fun x hx => by rw [show z2.s = [] from congrArg Pa.s P18.out] at hx; cases hx) (.int .i64 z2.yr) (.slice z2.fA z2.fn z2.fc) (.slice z2.oA z2.on z2.oc) (.slice z2.bA z2.bn z2.bc) (.slice z2.sA z2.sn z2.sc) (.int .i64 z2.nx) B19.out)
  have X21 := hide (aq_put X15.out z2)
  have X22 := hide (Box.far (p := ⟨w2.heap.size, 5, none⟩) (Box.far (p := ⟨w2.heap.size, 4, none⟩) (Box.far (p := ⟨w2.heap.size, 3, none⟩) (Box.far (p := ⟨w2.heap.size, 2, none⟩) (Box.far (p := ⟨w2.heap.size, 1, none⟩) (Box.far (p := ⟨w2.heap.size, 0, none⟩) X14.out (by first | (show _ ≠ w2.heap.size; omega) | (simp; omega) | simp) (.int .i64 z2.yr)) (by first | (show _ ≠ w2.heap.size; omega) | (simp; omega) | simp) (.slice z2.fA z2.fn z2.fc)) (by first | (show _ ≠ w2.heap.size; omega) | (simp; omega) | simp) (.slice z2.oA z2.on z2.oc)) (by first | (show _ ≠ w2.heap.size; omega) | (simp; omega) | simp) (.slice z2.bA z2.bn z2.bc)) (by first | (show _ ≠ w2.heap.size; omega) | (simp; omega) | simp) (.slice z2.sA z2.sn z2.sc)) (by first | (show _ ≠ w2.heap.size; omega) | (simp; omega) | simp) (.int .i64 z2.nx))
  obtain ⟨w23, hw24⟩ : ∃ W, W = ((((((w12.setCell ⟨w2.heap.size, 0, none⟩ (.int .i64 z2.yr)).setCell ⟨w2.heap.size, 1, none⟩ (.slice z2.fA z2.fn z2.fc)).setCell ⟨w2.heap.size, 2, none⟩ (.slice z2.oA z2.on z2.oc)).setCell ⟨w2.heap.size, 3, none⟩ (.slice z2.bA z2.bn z2.bc)).setCell ⟨w2.heap.size, 4, none⟩ (.slice z2.sA z2.sn z2.sc)).setCell ⟨w2.heap.size, 5, none⟩ (.int .i64 z2.nx)) := ⟨_, rfl⟩
  have HSZ := hide (show w23.heap.size = w12.heap.size by rw [hw24]; simp)
  rw [← hw24] at B19  X22 X21 S20 ⊢
  clear hw24
  have B25 := hide (B19.out.alloc B19.out.size (.cells #[.int .i64 1, .int .i64 2, .int .i64 2, .int .i64 1] 86))
  have X26 := hide (X22.out.alloc (.cells #[.int .i64 1, .int .i64 2, .int .i64 2, .int .i64 1] 86))
  have X27 := hide (X21.out.alloc (.cells #[.int .i64 1, .int .i64 2, .int .i64 2, .int .i64 1] 86))
  have S28 := hide ((S20.out.below ((Below.refl w23.heap.size w23).alloc (Nat.le_refl _) (.cells #[.int .i64 1, .int .i64 2, .int .i64 2, .int .i64 1] 86))).more (B' := (w23.alloc (.cells #[.int .i64 1, .int .i64 2, .int .i64 2, .int .i64 1] 86)).heap.size) (by simp))
  have hsl : Shs (w23.alloc (.cells #[.int .i64 1, .int .i64 2, .int .i64 2, .int .i64 1] 86)) (w23.alloc (.cells #[.int .i64 1, .int .i64 2, .int .i64 2, .int .i64 1] 86)).heap.size (some ⟨w12.heap.size, 0, none⟩) 2 2 [⟨1, 2⟩, ⟨2, 1⟩] := by rw [← HSZ.out]; exact Sl.more (Sl.of_box shE_len (Box.new w23 86 #[.int .i64 1, .int .i64 2, .int .i64 2, .int .i64 1]) rfl (Nat.le_refl _) (by omega)) (by simp)
  have hc := pord_any z2 (exI w12.heap.size) _ S28.out (by rw [fn_of S28.out P18.out]; decide) (fM_of P18.out ms2) (by rw [on_of S28.out P18.out]; decide) hsl (by rw [nx_of P18.out]; decide)
  rw [show ordA (aqP z2) (exI w12.heap.size) = (0, s3 w12.heap.size) by rw [P18.out]; exact al3 _] at hc
  unfold aqV odV exI at hc
  dsimp only at hc
  have HC29 := hide hc
  clear hc
  clear hsl
  refine HC29.out.mono ?_
  rintro e w30 ⟨z3, rfl, hz, hp, hb⟩
  have B31 := hide (B25.out.trans (hb.mono B25.out.size))
  have X32 := hide (X26.out.below hb X26.out.lt)
  have X33 := hide (X27.out.below hb X27.out.lt)
  have S34 := hide ((S28.out.below hb).more hb.size)
  have S35 := hide hz
  have P36 := hide hp
  clear hz hp hb HC29 
  unfold aqV
  have t_0 := X33.out.cell 0
  have t_1 := X33.out.cell 1
  have t_2 := X33.out.cell 2
  have t_3 := X33.out.cell 3
  have t_4 := X33.out.cell 4
  have t_5 := X33.out.cell 5
  simp [aq0] at t_0 t_1 t_2 t_3 t_4 t_5
  have tf := fun j => X33.out.frz j
  go_wp2_with fail
  clear t_0 t_1 t_2 t_3 t_4 t_5 tf
  have B37 := hide (below_aq B31.out (show w.heap.size ≤ w2.heap.size by first | exact Nat.le_refl _ | omega | simp) (.int .i64 z3.yr) (.slice z3.fA z3.fn z3.fc) (.slice z3.oA z3.on z3.oc) (.slice z3.bA z3.bn z3.bc) (.slice z3.sA z3.sn z3.sc) (.int .i64 z3.nx))
  have S38 := hide (AqS.put (w0 := w) S35.out X33.out (fun x hx => by rw [show z3.s = [] from congrArg Pa.s P36.out] at hx; cases hx) (.int .i64 z3.yr) (.slice z3.fA z3.fn z3.fc) (.slice z3.oA z3.on z3.oc) (.slice z3.bA z3.bn z3.bc) (.slice z3.sA z3.sn z3.sc) (.int .i64 z3.nx) B37.out)
  have X39 := hide (aq_put X33.out z3)
  have X40 := hide (Box.far (p := ⟨w2.heap.size, 5, none⟩) (Box.far (p := ⟨w2.heap.size, 4, none⟩) (Box.far (p := ⟨w2.heap.size, 3, none⟩) (Box.far (p := ⟨w2.heap.size, 2, none⟩) (Box.far (p := ⟨w2.heap.size, 1, none⟩) (Box.far (p := ⟨w2.heap.size, 0, none⟩) X32.out (by first | (show _ ≠ w2.heap.size; omega) | (simp; omega) | simp) (.int .i64 z3.yr)) (by first | (show _ ≠ w2.heap.size; omega) | (simp; omega) | simp) (.slice z3.fA z3.fn z3.fc)) (by first | (show _ ≠ w2.heap.size; omega) | (simp; omega) | simp) (.slice z3.oA z3.on z3.oc)) (by first | (show _ ≠ w2.heap.size; omega) | (simp; omega) | simp) (.slice z3.bA z3.bn z3.bc)) (by first | (show _ ≠ w2.heap.size; omega) | (simp; omega) | simp) (.slice z3.sA z3.sn z3.sc)) (by first | (show _ ≠ w2.heap.size; omega) | (simp; omega) | simp) (.int .i64 z3.nx))
  obtain ⟨w41, hw42⟩ : ∃ W, W = ((((((w30.setCell ⟨w2.heap.size, 0, none⟩ (.int .i64 z3.yr)).setCell ⟨w2.heap.size, 1, none⟩ (.slice z3.fA z3.fn z3.fc)).setCell ⟨w2.heap.size, 2, none⟩ (.slice z3.oA z3.on z3.oc)).setCell ⟨w2.heap.size, 3, none⟩ (.slice z3.bA z3.bn z3.bc)).setCell ⟨w2.heap.size, 4, none⟩ (.slice z3.sA z3.sn z3.sc)).setCell ⟨w2.heap.size, 5, none⟩ (.int .i64 z3.nx)) := ⟨_, rfl⟩
  rw [← hw42] at B37  X40 X39 S38 ⊢
  clear hw42
  have hc := prcvA_any z3 1 2 _ S38.out (oV_of P36.out (vo3 _))
  rw [show rcvA (aqP z3) 1 2 = (0, s4 w12.heap.size) by rw [P36.out]; exact al4 _] at hc
  unfold aqV at hc
  skip
  have HC43 := hide hc
  clear hc
  refine HC43.out.mono ?_
  rintro e w44 ⟨z4, rfl, hz, hp, hb⟩
  have B45 := hide (B37.out.trans (hb.mono B37.out.size))
  have X46 := hide (X40.out.below hb X40.out.lt)
  have X47 := hide (X39.out.below hb X39.out.lt)
  have S48 := hide ((S38.out.below hb).more hb.size)
  have S49 := hide hz
  have P50 := hide hp
  clear hz hp hb HC43 
  unfold aqV
  have t_0 := X47.out.cell 0
  have t_1 := X47.out.cell 1
  have t_2 := X47.out.cell 2
  have t_3 := X47.out.cell 3
  have t_4 := X47.out.cell 4
  have t_5 := X47.out.cell 5
  simp [aq0] at t_0 t_1 t_2 t_3 t_4 t_5
  have tf := fun j => X47.out.frz j
  have r_0 := X46.out.cell 0
  have r_1 := X46.out.cell 1
  have r_2 := X46.out.cell 2
  have r_3 := X46.out.cell 3
  have r_4 := X46.out.cell 4
  have r_5 := X46.out.cell 5
  simp [aq0] at r_0 r_1 r_2 r_3 r_4 r_5
  have rf := fun j => X46.out.frz j
  have hTR : w.heap.size ≠ w2.heap.size := by have := B45.out.size; have := hz1; omega
  go_wp2
  have B51 := hide (below_aq B45.out (show w.heap.size ≤ w2.heap.size by first | exact Nat.le_refl _ | omega | simp) (.int .i64 z4.yr) (.slice z4.fA z4.fn z4.fc) (.slice z4.oA z4.on z4.oc) (.slice z4.bA z4.bn z4.bc) (.slice z4.sA z4.sn z4.sc) (.int .i64 z4.nx))
  have S52 := hide (AqS.put (w0 := w) S49.out X47.out (fun x hx => by rw [show z4.s = [] from congrArg Pa.s P50.out] at hx; cases hx) (.int .i64 z4.yr) (.slice z4.fA z4.fn z4.fc) (.slice z4.oA z4.on z4.oc) (.slice z4.bA z4.bn z4.bc) (.slice z4.sA z4.sn z4.sc) (.int .i64 z4.nx) B51.out)
  have X53 := hide (aq_put X47.out z4)
  have X54 := hide (Box.far (p := ⟨w2.heap.size, 5, none⟩) (Box.far (p := ⟨w2.heap.size, 4, none⟩) (Box.far (p := ⟨w2.heap.size, 3, none⟩) (Box.far (p := ⟨w2.heap.size, 2, none⟩) (Box.far (p := ⟨w2.heap.size, 1, none⟩) (Box.far (p := ⟨w2.heap.size, 0, none⟩) X46.out (by first | (show _ ≠ w2.heap.size; omega) | (simp; omega) | simp) (.int .i64 z4.yr)) (by first | (show _ ≠ w2.heap.size; omega) | (simp; omega) | simp) (.slice z4.fA z4.fn z4.fc)) (by first | (show _ ≠ w2.heap.size; omega) | (simp; omega) | simp) (.slice z4.oA z4.on z4.oc)) (by first | (show _ ≠ w2.heap.size; omega) | (simp; omega) | simp) (.slice z4.bA z4.bn z4.bc)) (by first | (show _ ≠ w2.heap.size; omega) | (simp; omega) | simp) (.slice z4.sA z4.sn z4.sc)) (by first | (show _ ≠ w2.heap.size; omega) | (simp; omega) | simp) (.int .i64 z4.nx))
  have B55 := hide (below_aq B51.out (show w.heap.size ≤ w.heap.size by first | exact Nat.le_refl _ | omega | simp) (.int .i64 z4.yr) (.slice z4.fA z4.fn z4.fc) (.slice z4.oA z4.on z4.oc) (.slice z4.bA z4.bn z4.bc) (.slice z4.sA z4.sn z4.sc) (.int .i64 z4.nx))
  have S56 := hide (AqS.put (w0 := w) S52.out X54.out (fun x hx => by rw [show z4.s = [] from congrArg Pa.s P50.out] at hx; cases hx) (.int .i64 z4.yr) (.slice z4.fA z4.fn z4.fc) (.slice z4.oA z4.on z4.oc) (.slice z4.bA z4.bn z4.bc) (.slice z4.sA z4.sn z4.sc) (.int .i64 z4.nx) B55.out)
  have X57 := hide (aq_put X54.out z4)
  have X58 := hide (Box.far (p := ⟨w.heap.size, 5, none⟩) (Box.far (p := ⟨w.heap.size, 4, none⟩) (Box.far (p := ⟨w.heap.size, 3, none⟩) (Box.far (p := ⟨w.heap.size, 2, none⟩) (Box.far (p := ⟨w.heap.size, 1, none⟩) (Box.far (p := ⟨w.heap.size, 0, none⟩) X53.out (by first | (show _ ≠ w.heap.size; omega) | (simp; omega) | simp) (.int .i64 z4.yr)) (by first | (show _ ≠ w.heap.size; omega) | (simp; omega) | simp) (.slice z4.fA z4.fn z4.fc)) (by first | (show _ ≠ w.heap.size; omega) | (simp; omega) | simp) (.slice z4.oA z4.on z4.oc)) (by first | (show _ ≠ w.heap.size; omega) | (simp; omega) | simp) (.slice z4.bA z4.bn z4.bc)) (by first | (show _ ≠ w.heap.size; omega) | (simp; omega) | simp) (.slice z4.sA z4.sn z4.sc)) (by first | (show _ ≠ w.heap.size; omega) | (simp; omega) | simp) (.int .i64 z4.nx))
  refine bodyPost_ret (v := .tuple #[aqV z4, .int .i64 0]) (by simp [results, Tryz.results50, go_sem, r_0, r_1, r_2, r_3, r_4, r_5, aqV]) rfl ⟨z4, _, rfl, S56.out, P50.out, B55.out⟩

theorem rd2 {w : World} {B : Nat} {z : Aq} {x0 x1 : Fu} (h : AqS w B z) (hf : z.f = [x0, x1]) : ∃ b off, z.fA = some ⟨b, off, none⟩ ∧ z.fn = 2 ∧ b < B ∧
    (w.cell? ⟨b, off + 2, none⟩ = some (.int .i64 x0.budget) ∧ w.cell? ⟨b, off + 3, none⟩ = some (.int .i64 x0.enc) ∧ w.cell? ⟨b, off + 4, none⟩ = some (.int .i64 x0.spent) ∧
     w.cell? ⟨b, off + 5 + 3, none⟩ = some (.int .i64 x1.enc) ∧ w.cell? ⟨b, off + 5 + 4, none⟩ = some (.int .i64 x1.spent)) := by
  have hl := h.f.len
  rw [hf] at hl
  have hl2 : z.fn = 2 := hl.symm
  obtain ⟨b, off, y0, hA, hb, hy0, c0, c1, c2, c3, c4⟩ := Fs_at h.f (k := 0) (by omega)
  obtain ⟨b', off', y1, hA', hb', hy1, d0, d1, d2, d3, d4⟩ := Fs_at h.f (k := 1) (by omega)
  rw [hA] at hA'; cases hA'
  rw [hf] at hy0 hy1
  simp at hy0 hy1
  subst hy0 hy1
  simp only [Nat.zero_mul, Nat.one_mul, Nat.add_zero] at c2 c3 c4 d3 d4
  exact ⟨b, off, hA, hl2, hb, c2, c3, c4, d3, d4⟩

theorem rd3 {w : World} {B : Nat} {z : Aq} {x0 x1 : Fu} (h : AqS w B z) (hf : z.f = [x0, x1]) {b off : Nat} (hA : z.fA = some ⟨b, off, none⟩) : w.cell? ⟨b, off + 2, none⟩ = some (.int .i64 x0.budget) ∧ w.cell? ⟨b, off + 3, none⟩ = some (.int .i64 x0.enc) := by
  obtain ⟨b', off', hA', _, _, c2, c3, _⟩ := rd2 h hf
  rw [hA] at hA'; cases hA'
  exact ⟨c2, c3⟩
theorem osC {w : World} {B : Nat} {z : Aq} {g : Nat} (h : AqS w B z) (hp : aqP z = s4 g) : OdS w B (exC g) := by
  have h1 := h.os (exB g) (by rw [show z.o = [exB g] from congrArg Pa.o hp]; simp)
  exact h1
theorem notAt1 {α : Type} {enc : α → List Value} {k : Nat} {w : World} {B n c : Nat} {A : Option Addr} {x : α} {r : List α} (h : Sl enc k w B A n c (x :: r)) {g : Nat} {t : TypeId} {cs : Array Value} (hb : Box w g t cs) (hne : ∀ (off : Nat), ¬ ∀ (j : Nat) (u : Value), (enc x)[j]? = some u → cs[off + j]? = some u) : NotAt A n g := fun b off hA h0 e => by
  obtain ⟨b', off', y, hA', _, hy, hc⟩ := h.at_ h0
  rw [hA] at hA'; cases hA'
  subst e
  simp at hy
  subst hy
  refine hne (off + 0 * k) (fun j u hu => ?_)
  have := hc j u hu
  rw [hb.cell] at this
  simpa using this
theorem q_noF (off : Nat) : ¬ ∀ (j : Nat) (u : Value), (fuE { f1 with enc := 133, spent := 300 })[j]? = some u → (#[.int .i64 3, .int .i64 77, .int .i64 1, .int .i64 2, .int .i64 450] : Array Value)[off + j]? = some u := fun h => by
  have h0 := h 0 (.int .i64 1) rfl
  have h1 := h 1 (.int .i64 0) rfl
  match off with
  | 0 => simp at h0
  | 1 => simp at h0
  | 2 => simp at h1
  | 3 => simp at h0
  | 4 => simp at h0
  | off + 5 => rw [Array.getElem?_eq_none (by simp)] at h0; cases h0
theorem AqS.setq {w : World} {z : Aq} {q B : Nat} {cs : Array Value} (h : AqS w B z) (hQ : Box w q 43 cs) (hcs : cs.size = 5) (nf : NotAt z.fA z.fn q) (nb : NotAt z.bA z.bn q) (j : Nat) (u : Value) (hos : ∀ x ∈ z.o, OdS (w.setCell ⟨q, j, none⟩ u) B x) (hs0 : z.s = []) :
    AqS (w.setCell ⟨q, j, none⟩ u) B z :=
  ⟨h.f.far (p := ⟨q, j, none⟩) nf u, h.o.far (p := ⟨q, j, none⟩) (h.o.notAt hQ (fun x off hh => by
      have := hh 9 _ rfl
      rw [Array.getElem?_eq_none (by omega)] at this; cases this)) u, hos, h.b.far (p := ⟨q, j, none⟩) nb u, h.s.far (p := ⟨q, j, none⟩) (h.s.notAt hQ (fun x off hh => by
      have := hh 8 _ rfl
      rw [Array.getElem?_eq_none (by omega)] at this; cases this)) u, fun x hx => by rw [hs0] at hx; cases hx⟩

set_option maxRecDepth 100000 in
set_option maxHeartbeats 2000000 in
theorem aalive_any (w : World) : Calls Tryz.prog 11 #[] w fun e w' => e = .returned (.bool true) ∧ Below w.heap.size w w' := by
  have B0 := hide (Below.refl w.heap.size w)
  have HS0 := hide (sample_any w)
  go_enter Tryz.func11, Tryz.ntmps11
  go_wp2_with fail
  refine HS0.out.mono ?_
  rintro e w1 ⟨z4, g, rfl, hz, hp, hb⟩
  have B1 := hide hb
  have S1 := hide hz
  have P1 := hide hp
  have hw1 := hb.size
  clear hz hp hb HS0
  unfold aqV
  have L0 := hide (Below.refl w1.heap.size w1)
  obtain ⟨bb4, off4, hA, hfn, hbb, e2, e3, e4, e8, e9⟩ := rd2 S1.out (show z4.f = [{ f1 with enc := 400 }, { f2 with enc := 200 }] from congrArg Pa.f P1.out)
  have HA4 := hide hA
  have HF4 := hide hfn
  have hbb4 := hbb
  have E4_2 : Hid (_ = some (Value.int .i64 1000)) := hide e2
  have E4_3 : Hid (_ = some (Value.int .i64 400)) := hide e3
  have E4_4 : Hid (_ = some (Value.int .i64 0)) := hide e4
  have E4_8 : Hid (_ = some (Value.int .i64 200)) := hide e8
  have E4_9 : Hid (_ = some (Value.int .i64 0)) := hide e9
  rw [hA, hfn]
  clear hA hfn hbb e2 e3 e4 e8 e9
  have k3 := (World.cell?_alloc_lt w1 (.cells #[.int .i64 z4.yr, .slice (some ⟨bb4, off4, none⟩) 2 z4.fc, .slice z4.oA z4.on z4.oc, .slice z4.bA z4.bn z4.bc, .slice z4.sA z4.sn z4.sc, .int .i64 z4.nx] 27) ⟨bb4, off4 + 3, none⟩ (by exact hbb4)).trans E4_3.out
  have k8 := (World.cell?_alloc_lt w1 (.cells #[.int .i64 z4.yr, .slice (some ⟨bb4, off4, none⟩) 2 z4.fc, .slice z4.oA z4.on z4.oc, .slice z4.bA z4.bn z4.bc, .slice z4.sA z4.sn z4.sc, .int .i64 z4.nx] 27) ⟨bb4, off4 + 5 + 3, none⟩ (by exact hbb4)).trans E4_8.out
  have B1 := hide (B1.out.alloc B1.out.size (.cells #[.int .i64 z4.yr, .slice (some ⟨bb4, off4, none⟩) 2 z4.fc, .slice z4.oA z4.on z4.oc, .slice z4.bA z4.bn z4.bc, .slice z4.sA z4.sn z4.sc, .int .i64 z4.nx] 27))
  have L2 := hide (L0.out.alloc L0.out.size (.cells #[.int .i64 z4.yr, .slice (some ⟨bb4, off4, none⟩) 2 z4.fc, .slice z4.oA z4.on z4.oc, .slice z4.bA z4.bn z4.bc, .slice z4.sA z4.sn z4.sc, .int .i64 z4.nx] 27))
  have S3 := hide ((S1.out.below ((Below.refl w1.heap.size w1).alloc (Nat.le_refl _) (.cells #[.int .i64 z4.yr, .slice (some ⟨bb4, off4, none⟩) 2 z4.fc, .slice z4.oA z4.on z4.oc, .slice z4.bA z4.bn z4.bc, .slice z4.sA z4.sn z4.sc, .int .i64 z4.nx] 27))).more (B' := (w1.alloc (.cells #[.int .i64 z4.yr, .slice (some ⟨bb4, off4, none⟩) 2 z4.fc, .slice z4.oA z4.on z4.oc, .slice z4.bA z4.bn z4.bc, .slice z4.sA z4.sn z4.sc, .int .i64 z4.nx] 27)).heap.size) (by simp))
  have X4 := hide (Box.new w1 27 #[.int .i64 z4.yr, .slice (some ⟨bb4, off4, none⟩) 2 z4.fc, .slice z4.oA z4.on z4.oc, .slice z4.bA z4.bn z4.bc, .slice z4.sA z4.sn z4.sc, .int .i64 z4.nx])
  have B5 := hide (B1.out.alloc B1.out.size (.cells #[.int .i64 3, .int .i64 77, .int .i64 1, .int .i64 2, .int .i64 450] 43))
  have L6 := hide (L2.out.alloc L2.out.size (.cells #[.int .i64 3, .int .i64 77, .int .i64 1, .int .i64 2, .int .i64 450] 43))
  have X7 := hide (X4.out.alloc (.cells #[.int .i64 3, .int .i64 77, .int .i64 1, .int .i64 2, .int .i64 450] 43))
  have S8 := hide ((S3.out.below ((Below.refl (w1.alloc (.cells #[.int .i64 z4.yr, .slice (some ⟨bb4, off4, none⟩) 2 z4.fc, .slice z4.oA z4.on z4.oc, .slice z4.bA z4.bn z4.bc, .slice z4.sA z4.sn z4.sc, .int .i64 z4.nx] 27)).heap.size (w1.alloc (.cells #[.int .i64 z4.yr, .slice (some ⟨bb4, off4, none⟩) 2 z4.fc, .slice z4.oA z4.on z4.oc, .slice z4.bA z4.bn z4.bc, .slice z4.sA z4.sn z4.sc, .int .i64 z4.nx] 27))).alloc (Nat.le_refl _) (.cells #[.int .i64 3, .int .i64 77, .int .i64 1, .int .i64 2, .int .i64 450] 43))).more (B' := ((w1.alloc (.cells #[.int .i64 z4.yr, .slice (some ⟨bb4, off4, none⟩) 2 z4.fc, .slice z4.oA z4.on z4.oc, .slice z4.bA z4.bn z4.bc, .slice z4.sA z4.sn z4.sc, .int .i64 z4.nx] 27)).alloc (.cells #[.int .i64 3, .int .i64 77, .int .i64 1, .int .i64 2, .int .i64 450] 43)).heap.size) (by simp))
  have hlt_Q_T := X4.out.lt
  have X9 := hide (Box.new (w1.alloc (.cells #[.int .i64 z4.yr, .slice (some ⟨bb4, off4, none⟩) 2 z4.fc, .slice z4.oA z4.on z4.oc, .slice z4.bA z4.bn z4.bc, .slice z4.sA z4.sn z4.sc, .int .i64 z4.nx] 27)) 43 #[.int .i64 3, .int .i64 77, .int .i64 1, .int .i64 2, .int .i64 450])
  rw [World.size_alloc] at X9
  have hc := pbilN_any z4 bl1 _ S8.out (by rw [fn_of S8.out P1.out]; show 2 ≤ 1000; decide) (fM_of P1.out (ms4 g)) (oV_of P1.out (vo4 g))
  rw [show bilA (aqP z4) bl1 = (0, s5 g) by rw [P1.out]; exact al5 g] at hc
  unfold aqV blV bl1 at hc
  rw [HA4.out, HF4.out] at hc
  have HC10 := hide hc
  clear hc
  try dsimp only at HC10
  go_wp2_with fail
  clear k3 k8
  refine HC10.out.mono ?_
  rintro e w11 ⟨z5, rfl, hz, hp, hb, hnw⟩
  have B12 := hide (B5.out.trans (hb.mono B5.out.size))
  have L13 := hide (L6.out.trans (hb.mono L6.out.size))
  have X14 := hide (X7.out.below hb X7.out.lt)
  have X15 := hide (X9.out.below hb X9.out.lt)
  have S16 := hide ((S8.out.below hb).more hb.size)
  have S17 := hide hz
  have P18 := hide hp
  clear hz hp hb HC10 
  unfold aqV
  have HNW := hide hnw
  clear hnw
  obtain ⟨bb5, off5, hA, hfn, hbb, e2, e3, e4, e8, e9⟩ := rd2 S17.out (show z5.f = [{ f1 with enc := 133, spent := 300 }, { f2 with enc := 67, spent := 150 }] from congrArg Pa.f P18.out)
  have HA5 := hide hA
  have HF5 := hide hfn
  have hbb5 := hbb
  have E5_2 : Hid (_ = some (Value.int .i64 1000)) := hide e2
  have E5_3 : Hid (_ = some (Value.int .i64 133)) := hide e3
  have E5_4 : Hid (_ = some (Value.int .i64 300)) := hide e4
  have E5_8 : Hid (_ = some (Value.int .i64 67)) := hide e8
  have E5_9 : Hid (_ = some (Value.int .i64 150)) := hide e9
  rw [hA, hfn]
  clear hA hfn hbb e2 e3 e4 e8 e9
  have hne5 := (S17.out.f.notAt (show Box _ _ _ (aqC { z4 with fA := some ⟨bb4, off4, none⟩, fn := 2 }) from X14.out) (aq_noFu { z4 with fA := some ⟨bb4, off4, none⟩, fn := 2 })) bb5 off5 HA5.out (by rw [HF5.out]; decide)
  have t_0 := X14.out.cell 0
  have t_1 := X14.out.cell 1
  have t_2 := X14.out.cell 2
  have t_3 := X14.out.cell 3
  have t_4 := X14.out.cell 4
  have t_5 := X14.out.cell 5
  simp at t_0 t_1 t_2 t_3 t_4 t_5
  have tf := fun j => X14.out.frz j
  have k3 := E5_3.out
  have k4 := E5_4.out
  have k8 := E5_8.out
  have k9 := E5_9.out
  have q_0 := X15.out.cell 0
  have q_1 := X15.out.cell 1
  have q_2 := X15.out.cell 2
  have q_3 := X15.out.cell 3
  have q_4 := X15.out.cell 4
  simp at q_0 q_1 q_2 q_3 q_4
  go_wp2_with fail
  clear t_0 t_1 t_2 t_3 t_4 t_5 q_0 q_1 q_2 q_3 q_4 tf k3 k4 k8 k9
  have B19 := hide (below_aq B12.out (show w.heap.size ≤ w1.heap.size by omega) (.int .i64 z5.yr) (.slice (some ⟨bb5, off5, none⟩) 2 z5.fc) (.slice z5.oA z5.on z5.oc) (.slice z5.bA z5.bn z5.bc) (.slice z5.sA z5.sn z5.sc) (.int .i64 z5.nx))
  have L20 := hide (below_aq L13.out (show w1.heap.size ≤ w1.heap.size by omega) (.int .i64 z5.yr) (.slice (some ⟨bb5, off5, none⟩) 2 z5.fc) (.slice z5.oA z5.on z5.oc) (.slice z5.bA z5.bn z5.bc) (.slice z5.sA z5.sn z5.sc) (.int .i64 z5.nx))
  have S21 := hide (AqS.put (w0 := w) (y := { z4 with fA := some ⟨bb4, off4, none⟩, fn := 2 }) S17.out X14.out (fun x hx => by rw [show z5.s = [] from congrArg Pa.s P18.out] at hx; cases hx) (.int .i64 z5.yr) (.slice (some ⟨bb5, off5, none⟩) 2 z5.fc) (.slice z5.oA z5.on z5.oc) (.slice z5.bA z5.bn z5.bc) (.slice z5.sA z5.sn z5.sc) (.int .i64 z5.nx) B19.out)
  have X22 : Hid (Box ((((((w11.setCell ⟨w1.heap.size, 0, none⟩ (.int .i64 z5.yr)).setCell ⟨w1.heap.size, 1, none⟩ (.slice (some ⟨bb5, off5, none⟩) 2 z5.fc)).setCell ⟨w1.heap.size, 2, none⟩ (.slice z5.oA z5.on z5.oc)).setCell ⟨w1.heap.size, 3, none⟩ (.slice z5.bA z5.bn z5.bc)).setCell ⟨w1.heap.size, 4, none⟩ (.slice z5.sA z5.sn z5.sc)).setCell ⟨w1.heap.size, 5, none⟩ (.int .i64 z5.nx)) w1.heap.size 27 #[.int .i64 z5.yr, .slice (some ⟨bb5, off5, none⟩) 2 z5.fc, .slice z5.oA z5.on z5.oc, .slice z5.bA z5.bn z5.bc, .slice z5.sA z5.sn z5.sc, .int .i64 z5.nx]) := hide (((((((X14.out.set_ 0 (.int .i64 z5.yr)).set_ 1 (.slice (some ⟨bb5, off5, none⟩) 2 z5.fc)).set_ 2 (.slice z5.oA z5.on z5.oc)).set_ 3 (.slice z5.bA z5.bn z5.bc)).set_ 4 (.slice z5.sA z5.sn z5.sc)).set_ 5 (.int .i64 z5.nx)))
  have X23 := hide (Box.far (p := ⟨w1.heap.size, 5, none⟩) (Box.far (p := ⟨w1.heap.size, 4, none⟩) (Box.far (p := ⟨w1.heap.size, 3, none⟩) (Box.far (p := ⟨w1.heap.size, 2, none⟩) (Box.far (p := ⟨w1.heap.size, 1, none⟩) (Box.far (p := ⟨w1.heap.size, 0, none⟩) X15.out (by show _ ≠ w1.heap.size; omega) (.int .i64 z5.yr)) (by show _ ≠ w1.heap.size; omega) (.slice (some ⟨bb5, off5, none⟩) 2 z5.fc)) (by show _ ≠ w1.heap.size; omega) (.slice z5.oA z5.on z5.oc)) (by show _ ≠ w1.heap.size; omega) (.slice z5.bA z5.bn z5.bc)) (by show _ ≠ w1.heap.size; omega) (.slice z5.sA z5.sn z5.sc)) (by show _ ≠ w1.heap.size; omega) (.int .i64 z5.nx))
  obtain ⟨w24, hw25⟩ : ∃ W, W = ((((((w11.setCell ⟨w1.heap.size, 0, none⟩ (.int .i64 z5.yr)).setCell ⟨w1.heap.size, 1, none⟩ (.slice (some ⟨bb5, off5, none⟩) 2 z5.fc)).setCell ⟨w1.heap.size, 2, none⟩ (.slice z5.oA z5.on z5.oc)).setCell ⟨w1.heap.size, 3, none⟩ (.slice z5.bA z5.bn z5.bc)).setCell ⟨w1.heap.size, 4, none⟩ (.slice z5.sA z5.sn z5.sc)).setCell ⟨w1.heap.size, 5, none⟩ (.int .i64 z5.nx)) := ⟨_, rfl⟩
  rw [← hw25] at B19 L20 X22 X23 S21 ⊢
  clear hw25
  have hc := pbil_any z5 bl1 _ S21.out (by rw [fn_of S21.out P18.out]; show 2 ≤ 1000; decide) (fM_of P18.out (ms5 g)) (oV_of P18.out (vo5 g))
  rw [show bilA (aqP z5) bl1 = (7, pa0) by rw [P18.out]; exact al6 g] at hc
  unfold aqV blV bl1 at hc
  rw [HA5.out, HF5.out] at hc
  have HC26 := hide hc
  clear hc
  try dsimp only at HC26
  refine HC26.out.mono ?_
  rintro e w27 ⟨z6, rfl, hz, hp, hb⟩
  have B28 := hide (B19.out.trans (hb.mono B19.out.size))
  have L29 := hide (L20.out.trans (hb.mono L20.out.size))
  have X30 := hide (X22.out.below hb X22.out.lt)
  have X31 := hide (X23.out.below hb X23.out.lt)
  have S32 := hide ((S21.out.below hb).more hb.size)
  have S33 := hide hz
  have P34 := hide hp
  clear hz hp hb HC26 
  unfold aqV
  have hl6 := X31.out.lt
  have t_0 := X30.out.cell 0
  have t_1 := X30.out.cell 1
  have t_2 := X30.out.cell 2
  have t_3 := X30.out.cell 3
  have t_4 := X30.out.cell 4
  have t_5 := X30.out.cell 5
  simp at t_0 t_1 t_2 t_3 t_4 t_5
  have q_0 := X31.out.cell 0
  have q_1 := X31.out.cell 1
  have q_2 := X31.out.cell 2
  have q_3 := X31.out.cell 3
  have q_4 := X31.out.cell 4
  simp at q_0 q_1 q_2 q_3 q_4
  have qf := fun j => X31.out.frz j
  have hlT := X30.out.lt
  have tt_0 := fun o => (World.cell?_alloc_lt w27 o ⟨w1.heap.size, 0, none⟩ (by exact hlT)).trans t_0
  have tt_1 := fun o => (World.cell?_alloc_lt w27 o ⟨w1.heap.size, 1, none⟩ (by exact hlT)).trans t_1
  have tt_2 := fun o => (World.cell?_alloc_lt w27 o ⟨w1.heap.size, 2, none⟩ (by exact hlT)).trans t_2
  have tt_3 := fun o => (World.cell?_alloc_lt w27 o ⟨w1.heap.size, 3, none⟩ (by exact hlT)).trans t_3
  have tt_4 := fun o => (World.cell?_alloc_lt w27 o ⟨w1.heap.size, 4, none⟩ (by exact hlT)).trans t_4
  have tt_5 := fun o => (World.cell?_alloc_lt w27 o ⟨w1.heap.size, 5, none⟩ (by exact hlT)).trans t_5
  have hf5 : z5.f = [{ f1 with enc := 133, spent := 300 }, { f2 with enc := 67, spent := 150 }] := congrArg Pa.f P18.out
  have NF := hide (notAt1 (r := [{ f2 with enc := 67, spent := 150 }]) (x := { f1 with enc := 133, spent := 300 }) (hf5 ▸ S32.out.f) X31.out q_noF)
  have NB := hide (HNW.out (w1.heap.size + 1) (by simp))
  have BC1 := hide (B28.out.setCell (p := ⟨w1.heap.size + 1, 1, none⟩) (by show w.heap.size ≤ w1.heap.size + 1; omega) (.int .i64 78))
  have BC2 := hide (BC1.out.setCell (p := ⟨w1.heap.size + 1, 3, none⟩) (by show w.heap.size ≤ w1.heap.size + 1; omega) (.int .i64 1))
  have QC1 := hide (X31.out.set_ 1 (.int .i64 78))
  have QC2 : Hid (Box ((w27.setCell ⟨w1.heap.size + 1, 1, none⟩ (.int .i64 78)).setCell ⟨w1.heap.size + 1, 3, none⟩ (.int .i64 1)) (w1.heap.size + 1) 43 #[.int .i64 3, .int .i64 78, .int .i64 1, .int .i64 1, .int .i64 450]) := hide (QC1.out.set_ 3 (.int .i64 1))
  have TC := hide ((X30.out.far (p := ⟨w1.heap.size + 1, 1, none⟩) (by show _ ≠ w1.heap.size + 1; omega) (.int .i64 78)).far (p := ⟨w1.heap.size + 1, 3, none⟩) (by show _ ≠ w1.heap.size + 1; omega) (.int .i64 1))
  skip
  have hos : ∀ W, Below w1.heap.size w1 W → ∀ B, w1.heap.size ≤ B → ∀ x ∈ z5.o, OdS W B x := fun W hW B hB x hx => by
    rw [show z5.o = [exC g] from congrArg Pa.o P18.out, List.mem_singleton] at hx
    subst hx
    exact ((osC S1.out P1.out).below hW).more hB
  have hzs : z5.s = [] := congrArg Pa.s P18.out
  have SC1 := hide (S32.out.setq X31.out rfl NF.out NB.out 1 (.int .i64 78) (hos _ (L29.out.setCell (p := ⟨w1.heap.size + 1, 1, none⟩) (by show w1.heap.size ≤ w1.heap.size + 1; omega) _) _ L29.out.size) hzs)
  have SC2 := hide (SC1.out.setq QC1.out rfl NF.out NB.out 3 (.int .i64 1) (hos _ ((L29.out.setCell (p := ⟨w1.heap.size + 1, 1, none⟩) (by show w1.heap.size ≤ w1.heap.size + 1; omega) _).setCell (p := ⟨w1.heap.size + 1, 3, none⟩) (by show w1.heap.size ≤ w1.heap.size + 1; omega) _) _ L29.out.size) hzs)
  have SC3 : Hid (AqS ((w27.setCell ⟨w1.heap.size + 1, 1, none⟩ (.int .i64 78)).setCell ⟨w1.heap.size + 1, 3, none⟩ (.int .i64 1)) ((w27.setCell ⟨w1.heap.size + 1, 1, none⟩ (.int .i64 78)).setCell ⟨w1.heap.size + 1, 3, none⟩ (.int .i64 1)).heap.size z5) := hide (SC2.out.more (by simp))
  clear hos hzs hf5 SC1 SC2 QC1 BC1 NF NB
  have B35 := hide (BC2.out.alloc BC2.out.size (.cells #[.int .i64 z6.yr, .slice z6.fA z6.fn z6.fc, .slice z6.oA z6.on z6.oc, .slice z6.bA z6.bn z6.bc, .slice z6.sA z6.sn z6.sc, .int .i64 z6.nx] 27))
  have X36 := hide (TC.out.alloc (.cells #[.int .i64 z6.yr, .slice z6.fA z6.fn z6.fc, .slice z6.oA z6.on z6.oc, .slice z6.bA z6.bn z6.bc, .slice z6.sA z6.sn z6.sc, .int .i64 z6.nx] 27))
  have X37 := hide (QC2.out.alloc (.cells #[.int .i64 z6.yr, .slice z6.fA z6.fn z6.fc, .slice z6.oA z6.on z6.oc, .slice z6.bA z6.bn z6.bc, .slice z6.sA z6.sn z6.sc, .int .i64 z6.nx] 27))
  have S38 := hide ((SC3.out.below ((Below.refl ((w27.setCell ⟨w1.heap.size + 1, 1, none⟩ (.int .i64 78)).setCell ⟨w1.heap.size + 1, 3, none⟩ (.int .i64 1)).heap.size ((w27.setCell ⟨w1.heap.size + 1, 1, none⟩ (.int .i64 78)).setCell ⟨w1.heap.size + 1, 3, none⟩ (.int .i64 1))).alloc (Nat.le_refl _) (.cells #[.int .i64 z6.yr, .slice z6.fA z6.fn z6.fc, .slice z6.oA z6.on z6.oc, .slice z6.bA z6.bn z6.bc, .slice z6.sA z6.sn z6.sc, .int .i64 z6.nx] 27))).more (B' := (((w27.setCell ⟨w1.heap.size + 1, 1, none⟩ (.int .i64 78)).setCell ⟨w1.heap.size + 1, 3, none⟩ (.int .i64 1)).alloc (.cells #[.int .i64 z6.yr, .slice z6.fA z6.fn z6.fc, .slice z6.oA z6.on z6.oc, .slice z6.bA z6.bn z6.bc, .slice z6.sA z6.sn z6.sc, .int .i64 z6.nx] 27)).heap.size) (by simp))
  go_wp2_with fail
  clear t_0 t_1 t_2 t_3 t_4 t_5 q_0 q_1 q_2 q_3 q_4 qf hlT tt_0 tt_1 tt_2 tt_3 tt_4 tt_5
  obtain ⟨w39, hw40⟩ : ∃ W, W = (((w27.setCell ⟨w1.heap.size + 1, 1, none⟩ (.int .i64 78)).setCell ⟨w1.heap.size + 1, 3, none⟩ (.int .i64 1)).alloc (.cells #[.int .i64 z6.yr, .slice z6.fA z6.fn z6.fc, .slice z6.oA z6.on z6.oc, .slice z6.bA z6.bn z6.bc, .slice z6.sA z6.sn z6.sc, .int .i64 z6.nx] 27)) := ⟨_, rfl⟩
  rw [← hw40] at B35  X36 X37 S38 ⊢
  clear hw40
  have hc := pbil_any z5 bl2 _ S38.out (by rw [fn_of S38.out P18.out]; show 2 ≤ 1000; decide) (fM_of P18.out (ms5 g)) (oV_of P18.out (vo5 g))
  rw [show bilA (aqP z5) bl2 = (12, pa0) by rw [P18.out]; exact al7 g] at hc
  unfold aqV blV bl2 at hc
  rw [HA5.out, HF5.out] at hc
  have HC41 := hide hc
  clear hc
  try dsimp only at HC41
  refine HC41.out.mono ?_
  rintro e w42 ⟨z7, rfl, hz, hp, hb⟩
  have B43 := hide (B35.out.trans (hb.mono B35.out.size))
  have X44 := hide (X36.out.below hb X36.out.lt)
  have X45 := hide (X37.out.below hb X37.out.lt)
  have S46 := hide ((S38.out.below hb).more hb.size)
  have S47 := hide hz
  have P48 := hide hp
  clear hz hp hb HC41 
  unfold aqV
  have t_0 := X44.out.cell 0
  have t_1 := X44.out.cell 1
  have t_2 := X44.out.cell 2
  have t_3 := X44.out.cell 3
  have t_4 := X44.out.cell 4
  have t_5 := X44.out.cell 5
  simp at t_0 t_1 t_2 t_3 t_4 t_5
  have hlt := X44.out.lt
  have tt_0 := fun o => (World.cell?_alloc_lt w42 o ⟨w1.heap.size, 0, none⟩ (by exact hlt)).trans t_0
  have tt_1 := fun o => (World.cell?_alloc_lt w42 o ⟨w1.heap.size, 1, none⟩ (by exact hlt)).trans t_1
  have tt_2 := fun o => (World.cell?_alloc_lt w42 o ⟨w1.heap.size, 2, none⟩ (by exact hlt)).trans t_2
  have tt_3 := fun o => (World.cell?_alloc_lt w42 o ⟨w1.heap.size, 3, none⟩ (by exact hlt)).trans t_3
  have tt_4 := fun o => (World.cell?_alloc_lt w42 o ⟨w1.heap.size, 4, none⟩ (by exact hlt)).trans t_4
  have tt_5 := fun o => (World.cell?_alloc_lt w42 o ⟨w1.heap.size, 5, none⟩ (by exact hlt)).trans t_5
  have B49 := hide (B43.out.alloc B43.out.size (.cells #[.int .i64 z7.yr, .slice z7.fA z7.fn z7.fc, .slice z7.oA z7.on z7.oc, .slice z7.bA z7.bn z7.bc, .slice z7.sA z7.sn z7.sc, .int .i64 z7.nx] 27))
  have X50 := hide (X44.out.alloc (.cells #[.int .i64 z7.yr, .slice z7.fA z7.fn z7.fc, .slice z7.oA z7.on z7.oc, .slice z7.bA z7.bn z7.bc, .slice z7.sA z7.sn z7.sc, .int .i64 z7.nx] 27))
  have X51 := hide (X45.out.alloc (.cells #[.int .i64 z7.yr, .slice z7.fA z7.fn z7.fc, .slice z7.oA z7.on z7.oc, .slice z7.bA z7.bn z7.bc, .slice z7.sA z7.sn z7.sc, .int .i64 z7.nx] 27))
  have S52 := hide ((S46.out.below ((Below.refl w42.heap.size w42).alloc (Nat.le_refl _) (.cells #[.int .i64 z7.yr, .slice z7.fA z7.fn z7.fc, .slice z7.oA z7.on z7.oc, .slice z7.bA z7.bn z7.bc, .slice z7.sA z7.sn z7.sc, .int .i64 z7.nx] 27))).more (B' := (w42.alloc (.cells #[.int .i64 z7.yr, .slice z7.fA z7.fn z7.fc, .slice z7.oA z7.on z7.oc, .slice z7.bA z7.bn z7.bc, .slice z7.sA z7.sn z7.sc, .int .i64 z7.nx] 27)).heap.size) (by simp))
  have S53 := hide ((S47.out.below ((Below.refl w42.heap.size w42).alloc (Nat.le_refl _) (.cells #[.int .i64 z7.yr, .slice z7.fA z7.fn z7.fc, .slice z7.oA z7.on z7.oc, .slice z7.bA z7.bn z7.bc, .slice z7.sA z7.sn z7.sc, .int .i64 z7.nx] 27))).more (B' := (w42.alloc (.cells #[.int .i64 z7.yr, .slice z7.fA z7.fn z7.fc, .slice z7.oA z7.on z7.oc, .slice z7.bA z7.bn z7.bc, .slice z7.sA z7.sn z7.sc, .int .i64 z7.nx] 27)).heap.size) (by simp))
  have hc := pstp_any z5 1 _ S52.out (by rw [fn_of S52.out P18.out]; show 2 ≤ 1000; decide) (fM_of P18.out (ms5 g)) (oV_of P18.out (vo5 g))
  rw [show stpA (aqP z5) 1 = (0, s6 g) by rw [P18.out]; exact al8 g] at hc
  unfold aqV at hc
  rw [HA5.out, HF5.out] at hc
  have HC54 := hide hc
  clear hc
  try dsimp only at HC54
  go_wp2_with fail
  clear t_0 t_1 t_2 t_3 t_4 t_5 hlt tt_0 tt_1 tt_2 tt_3 tt_4 tt_5
  refine HC54.out.mono ?_
  rintro e w55 ⟨z8, rfl, hz, hp, hb⟩
  have B56 := hide (B49.out.trans (hb.mono B49.out.size))
  have X57 := hide (X50.out.below hb X50.out.lt)
  have X58 := hide (X51.out.below hb X51.out.lt)
  have S59 := hide ((S52.out.below hb).more hb.size)
  have S60 := hide ((S53.out.below hb).more hb.size)
  have S61 := hide hz
  have P62 := hide hp
  clear hz hp hb HC54 
  unfold aqV
  obtain ⟨bb8, off8, hA, hfn, hbb, e2, e3, e4, e8, e9⟩ := rd2 S61.out (show z8.f = [{ f1 with spent := 300 }, { f2 with spent := 150 }] from congrArg Pa.f P62.out)
  have HA8 := hide hA
  have HF8 := hide hfn
  have hbb8 := hbb
  have E8_2 : Hid (_ = some (Value.int .i64 1000)) := hide e2
  have E8_3 : Hid (_ = some (Value.int .i64 0)) := hide e3
  have E8_4 : Hid (_ = some (Value.int .i64 300)) := hide e4
  have E8_8 : Hid (_ = some (Value.int .i64 0)) := hide e8
  have E8_9 : Hid (_ = some (Value.int .i64 150)) := hide e9
  rw [hA, hfn]
  clear hA hfn hbb e2 e3 e4 e8 e9
  have B63 := hide (B56.out.alloc B56.out.size (.cells #[.int .i64 z8.yr, .slice (some ⟨bb8, off8, none⟩) 2 z8.fc, .slice z8.oA z8.on z8.oc, .slice z8.bA z8.bn z8.bc, .slice z8.sA z8.sn z8.sc, .int .i64 z8.nx] 27))
  have X64 := hide (X57.out.alloc (.cells #[.int .i64 z8.yr, .slice (some ⟨bb8, off8, none⟩) 2 z8.fc, .slice z8.oA z8.on z8.oc, .slice z8.bA z8.bn z8.bc, .slice z8.sA z8.sn z8.sc, .int .i64 z8.nx] 27))
  have X65 := hide (X58.out.alloc (.cells #[.int .i64 z8.yr, .slice (some ⟨bb8, off8, none⟩) 2 z8.fc, .slice z8.oA z8.on z8.oc, .slice z8.bA z8.bn z8.bc, .slice z8.sA z8.sn z8.sc, .int .i64 z8.nx] 27))
  have S66 := hide ((S59.out.below ((Below.refl w55.heap.size w55).alloc (Nat.le_refl _) (.cells #[.int .i64 z8.yr, .slice (some ⟨bb8, off8, none⟩) 2 z8.fc, .slice z8.oA z8.on z8.oc, .slice z8.bA z8.bn z8.bc, .slice z8.sA z8.sn z8.sc, .int .i64 z8.nx] 27))).more (B' := (w55.alloc (.cells #[.int .i64 z8.yr, .slice (some ⟨bb8, off8, none⟩) 2 z8.fc, .slice z8.oA z8.on z8.oc, .slice z8.bA z8.bn z8.bc, .slice z8.sA z8.sn z8.sc, .int .i64 z8.nx] 27)).heap.size) (by simp))
  have S67 := hide ((S60.out.below ((Below.refl w55.heap.size w55).alloc (Nat.le_refl _) (.cells #[.int .i64 z8.yr, .slice (some ⟨bb8, off8, none⟩) 2 z8.fc, .slice z8.oA z8.on z8.oc, .slice z8.bA z8.bn z8.bc, .slice z8.sA z8.sn z8.sc, .int .i64 z8.nx] 27))).more (B' := (w55.alloc (.cells #[.int .i64 z8.yr, .slice (some ⟨bb8, off8, none⟩) 2 z8.fc, .slice z8.oA z8.on z8.oc, .slice z8.bA z8.bn z8.bc, .slice z8.sA z8.sn z8.sc, .int .i64 z8.nx] 27)).heap.size) (by simp))
  have S68 := hide ((S61.out.below ((Below.refl w55.heap.size w55).alloc (Nat.le_refl _) (.cells #[.int .i64 z8.yr, .slice (some ⟨bb8, off8, none⟩) 2 z8.fc, .slice z8.oA z8.on z8.oc, .slice z8.bA z8.bn z8.bc, .slice z8.sA z8.sn z8.sc, .int .i64 z8.nx] 27))).more (B' := (w55.alloc (.cells #[.int .i64 z8.yr, .slice (some ⟨bb8, off8, none⟩) 2 z8.fc, .slice z8.oA z8.on z8.oc, .slice z8.bA z8.bn z8.bc, .slice z8.sA z8.sn z8.sc, .int .i64 z8.nx] 27)).heap.size) (by simp))
  have hlt_X_T := X57.out.lt
  have hlt_X_Q := X58.out.lt
  have X69 := hide (Box.new w55 27 #[.int .i64 z8.yr, .slice (some ⟨bb8, off8, none⟩) 2 z8.fc, .slice z8.oA z8.on z8.oc, .slice z8.bA z8.bn z8.bc, .slice z8.sA z8.sn z8.sc, .int .i64 z8.nx])
  have hc := pclsA_any z8 _ S68.out (by rw [fn_of S68.out P62.out]; show 2 ≤ 1000; decide) (fM_of P62.out (ms6 g)) (by rw [yr_of P62.out]; show (0 : Int) ≤ 2026; decide)
  rw [show clsA (aqP z8) = (0, s7 g) by rw [P62.out]; exact al9 g] at hc
  unfold aqV at hc
  rw [HA8.out, HF8.out] at hc
  have HC70 := hide hc
  clear hc
  try dsimp only at HC70
  go_wp2_with fail
  refine HC70.out.mono ?_
  rintro e w71 ⟨z9, rfl, hz, hp, hb⟩
  have B72 := hide (B63.out.trans (hb.mono B63.out.size))
  have X73 := hide (X64.out.below hb X64.out.lt)
  have X74 := hide (X65.out.below hb X65.out.lt)
  have X75 := hide (X69.out.below hb X69.out.lt)
  have S76 := hide ((S66.out.below hb).more hb.size)
  have S77 := hide ((S67.out.below hb).more hb.size)
  have S78 := hide ((S68.out.below hb).more hb.size)
  have S79 := hide hz
  have P80 := hide hp
  clear hz hp hb HC70 
  unfold aqV
  obtain ⟨bb9, off9, hA, hfn, hbb, e2, e3, e4, e8, e9⟩ := rd2 S79.out (show z9.f = [{ f1 with budget := 0 }, { f2 with budget := 0 }] from congrArg Pa.f P80.out)
  have HA9 := hide hA
  have HF9 := hide hfn
  have hbb9 := hbb
  have E9_2 : Hid (_ = some (Value.int .i64 0)) := hide e2
  have E9_3 : Hid (_ = some (Value.int .i64 0)) := hide e3
  have E9_4 : Hid (_ = some (Value.int .i64 0)) := hide e4
  have E9_8 : Hid (_ = some (Value.int .i64 0)) := hide e8
  have E9_9 : Hid (_ = some (Value.int .i64 0)) := hide e9
  rw [hA, hfn]
  clear hA hfn hbb e2 e3 e4 e8 e9
  have x_0 := X75.out.cell 0
  have x_1 := X75.out.cell 1
  have x_2 := X75.out.cell 2
  have x_3 := X75.out.cell 3
  have x_4 := X75.out.cell 4
  have x_5 := X75.out.cell 5
  simp at x_0 x_1 x_2 x_3 x_4 x_5
  have hlx := X75.out.lt
  have xx_0 := fun o => (World.cell?_alloc_lt w71 o ⟨w55.heap.size, 0, none⟩ (by exact hlx)).trans x_0
  have xx_1 := fun o => (World.cell?_alloc_lt w71 o ⟨w55.heap.size, 1, none⟩ (by exact hlx)).trans x_1
  have xx_2 := fun o => (World.cell?_alloc_lt w71 o ⟨w55.heap.size, 2, none⟩ (by exact hlx)).trans x_2
  have xx_3 := fun o => (World.cell?_alloc_lt w71 o ⟨w55.heap.size, 3, none⟩ (by exact hlx)).trans x_3
  have xx_4 := fun o => (World.cell?_alloc_lt w71 o ⟨w55.heap.size, 4, none⟩ (by exact hlx)).trans x_4
  have xx_5 := fun o => (World.cell?_alloc_lt w71 o ⟨w55.heap.size, 5, none⟩ (by exact hlx)).trans x_5
  have B81 := hide (B72.out.alloc B72.out.size (.cells #[.int .i64 z9.yr, .slice (some ⟨bb9, off9, none⟩) 2 z9.fc, .slice z9.oA z9.on z9.oc, .slice z9.bA z9.bn z9.bc, .slice z9.sA z9.sn z9.sc, .int .i64 z9.nx] 27))
  have X82 := hide (X73.out.alloc (.cells #[.int .i64 z9.yr, .slice (some ⟨bb9, off9, none⟩) 2 z9.fc, .slice z9.oA z9.on z9.oc, .slice z9.bA z9.bn z9.bc, .slice z9.sA z9.sn z9.sc, .int .i64 z9.nx] 27))
  have X83 := hide (X74.out.alloc (.cells #[.int .i64 z9.yr, .slice (some ⟨bb9, off9, none⟩) 2 z9.fc, .slice z9.oA z9.on z9.oc, .slice z9.bA z9.bn z9.bc, .slice z9.sA z9.sn z9.sc, .int .i64 z9.nx] 27))
  have X84 := hide (X75.out.alloc (.cells #[.int .i64 z9.yr, .slice (some ⟨bb9, off9, none⟩) 2 z9.fc, .slice z9.oA z9.on z9.oc, .slice z9.bA z9.bn z9.bc, .slice z9.sA z9.sn z9.sc, .int .i64 z9.nx] 27))
  have S85 := hide ((S76.out.below ((Below.refl w71.heap.size w71).alloc (Nat.le_refl _) (.cells #[.int .i64 z9.yr, .slice (some ⟨bb9, off9, none⟩) 2 z9.fc, .slice z9.oA z9.on z9.oc, .slice z9.bA z9.bn z9.bc, .slice z9.sA z9.sn z9.sc, .int .i64 z9.nx] 27))).more (B' := (w71.alloc (.cells #[.int .i64 z9.yr, .slice (some ⟨bb9, off9, none⟩) 2 z9.fc, .slice z9.oA z9.on z9.oc, .slice z9.bA z9.bn z9.bc, .slice z9.sA z9.sn z9.sc, .int .i64 z9.nx] 27)).heap.size) (by simp))
  have S86 := hide ((S77.out.below ((Below.refl w71.heap.size w71).alloc (Nat.le_refl _) (.cells #[.int .i64 z9.yr, .slice (some ⟨bb9, off9, none⟩) 2 z9.fc, .slice z9.oA z9.on z9.oc, .slice z9.bA z9.bn z9.bc, .slice z9.sA z9.sn z9.sc, .int .i64 z9.nx] 27))).more (B' := (w71.alloc (.cells #[.int .i64 z9.yr, .slice (some ⟨bb9, off9, none⟩) 2 z9.fc, .slice z9.oA z9.on z9.oc, .slice z9.bA z9.bn z9.bc, .slice z9.sA z9.sn z9.sc, .int .i64 z9.nx] 27)).heap.size) (by simp))
  have S87 := hide ((S78.out.below ((Below.refl w71.heap.size w71).alloc (Nat.le_refl _) (.cells #[.int .i64 z9.yr, .slice (some ⟨bb9, off9, none⟩) 2 z9.fc, .slice z9.oA z9.on z9.oc, .slice z9.bA z9.bn z9.bc, .slice z9.sA z9.sn z9.sc, .int .i64 z9.nx] 27))).more (B' := (w71.alloc (.cells #[.int .i64 z9.yr, .slice (some ⟨bb9, off9, none⟩) 2 z9.fc, .slice z9.oA z9.on z9.oc, .slice z9.bA z9.bn z9.bc, .slice z9.sA z9.sn z9.sc, .int .i64 z9.nx] 27)).heap.size) (by simp))
  have S88 := hide ((S79.out.below ((Below.refl w71.heap.size w71).alloc (Nat.le_refl _) (.cells #[.int .i64 z9.yr, .slice (some ⟨bb9, off9, none⟩) 2 z9.fc, .slice z9.oA z9.on z9.oc, .slice z9.bA z9.bn z9.bc, .slice z9.sA z9.sn z9.sc, .int .i64 z9.nx] 27))).more (B' := (w71.alloc (.cells #[.int .i64 z9.yr, .slice (some ⟨bb9, off9, none⟩) 2 z9.fc, .slice z9.oA z9.on z9.oc, .slice z9.bA z9.bn z9.bc, .slice z9.sA z9.sn z9.sc, .int .i64 z9.nx] 27)).heap.size) (by simp))
  have hlt_Y_T := X73.out.lt
  have hlt_Y_Q := X74.out.lt
  have hlt_Y_X := X75.out.lt
  have X89 := hide (Box.new w71 27 #[.int .i64 z9.yr, .slice (some ⟨bb9, off9, none⟩) 2 z9.fc, .slice z9.oA z9.on z9.oc, .slice z9.bA z9.bn z9.bc, .slice z9.sA z9.sn z9.sc, .int .i64 z9.nx])
  have hc := prsvA_any z8 1 _ S87.out.o S87.out.os (oV_of P62.out (vo6 g)) (by unfold I64; omega)
  rw [show rsvA z8.o 1 = 0 by rw [show z8.o = (s6 g).o from congrArg Pa.o P62.out]; exact al10 g] at hc
  unfold aqV at hc
  rw [HA8.out, HF8.out] at hc
  have HC90 := hide hc
  clear hc
  go_wp2_with fail
  clear x_0 x_1 x_2 x_3 x_4 x_5 hlx xx_0 xx_1 xx_2 xx_3 xx_4 xx_5
  refine HC90.out.mono ?_
  rintro e w91 ⟨rfl, hb⟩
  have B92 := hide (B81.out.trans (hb.mono B81.out.size))
  have X93 := hide (X84.out.below hb X84.out.lt)
  have X94 := hide (X89.out.below hb X89.out.lt)
  have S95 := hide ((S87.out.below hb).more hb.size)
  have S96 := hide ((S88.out.below hb).more hb.size)
  clear hb HC90
  have x_0 := X93.out.cell 0
  have x_1 := X93.out.cell 1
  have x_2 := X93.out.cell 2
  have x_3 := X93.out.cell 3
  have x_4 := X93.out.cell 4
  have x_5 := X93.out.cell 5
  simp at x_0 x_1 x_2 x_3 x_4 x_5
  have y_0 := X94.out.cell 0
  have y_1 := X94.out.cell 1
  have y_2 := X94.out.cell 2
  have y_3 := X94.out.cell 3
  have y_4 := X94.out.cell 4
  have y_5 := X94.out.cell 5
  simp at y_0 y_1 y_2 y_3 y_4 y_5
  obtain ⟨_, k3⟩ := rd3 S95.out (show z8.f = [{ f1 with spent := 300 }, { f2 with spent := 150 }] from congrArg Pa.f P62.out) HA8.out
  obtain ⟨m2, _⟩ := rd3 S96.out (show z9.f = [{ f1 with budget := 0 }, { f2 with budget := 0 }] from congrArg Pa.f P80.out) HA9.out
  replace k3 : _ = some (Value.int .i64 0) := k3
  replace m2 : _ = some (Value.int .i64 0) := m2
  have hy9 : z9.yr = 2027 := yr_of P80.out
  rw [hy9] at y_0
  have hc := pright40_any z9 _ S96.out seErr (fun _ => rfl) (fun x hx => by rw [show z9.s = [] from congrArg Pa.s P80.out] at hx; cases hx)
  rw [show okA (aqP z9) = true by rw [P80.out]; exact al11 g] at hc
  unfold aqV at hc
  rw [HA9.out, HF9.out, hy9] at hc
  have HCR := hide hc
  clear hc hy9
  go_wp2_with fail
  refine HCR.out.mono ?_
  rintro e wz ⟨rfl, hb⟩
  have BZ := hide (B92.out.trans (hb.mono B92.out.size))
  clear hb HCR
  go_wp2
  go_ret
  exact ⟨rfl, BZ.out⟩
end Go.Proofs.YtbhndfphegflhaaGreat
