/- Walks: the law HoldPlaces. Printed by gen_ho_places.py. -/
import Derived.Test.YtgjhjabnnhhkbaaHoLw
namespace Go.Proofs.Ytgjhjabnnhhkbaa
open Go.RowKit

theorem hoo_below {w w' : World} {B : Nat} {v : Value} {xs : List Ho} (h : Hoo w B v xs) (hb : Below w.heap.size w w') : Hoo w' B v xs := by
  refine ⟨h.1, ?_⟩
  rcases h.2 with hn | ⟨g, cap, cur, rfl, hbb, hB, h4⟩
  · exact .inl hn
  · exact .inr ⟨g, cap, cur, rfl, hbb, Box.below (g := g) hB hb (Box.lt hB), h4⟩
theorem splice_all' {l c : List Value} (h : l.length = c.length) : splice l 0 c = c := by
  unfold splice
  rw [List.drop_of_length_le (by omega)]; simp
theorem Hoo_ne {w : World} {B g : Nat} {v : Value} {xs : List Ho} (h : Hoo w B v xs) (hg : g < B) : v.ownBlock ≠ some g := by
  intro e; have := (h.lt _ e).1; omega
set_option maxRecDepth 100000 in
set_option maxHeartbeats 8000000 in
theorem holdPlaces_any (A : Option Addr) (n c : Nat) (xs : List Ho) (h : Ho) (id : Int) (w : World) (hs : Hos w w.heap.size A n c xs) :
    LawH 9 #[.slice A n c, hoV h, .int .i64 id] w := by
  unfold LawH
  obtain rfl := hs.len
  have hbig := hs.big
  have hle := hs.le
  have hsl : ∀ W, Below w.heap.size w W → Hos W W.heap.size A xs.length c xs := fun W hW => (hs.below hW).more hW.size
  have HV := hide (fun W (hW : Below w.heap.size w W) => hvalid_any A _ c xs W (hsl W hW))
  have B0 := hide ((Below.refl w.heap.size w).alloc (Nat.le_refl _) (.cells (hoC h) 47))
  have X0 := hide (Box.new w 47 (hoC h))
  cases hv : validH xs with
  | false =>
    rw [hv] at HV
    clear hv hs hsl
    unfold hoV
    go_enter Try.func9, Try.ntmps9
    go_wp2_with fail
    refine (halive_any _).mono ?_
    rintro e w1 ⟨rfl, hb⟩
    have B1 := hide (B0.out.trans (hb.mono (Nat.le_trans (by simp) B0.out.size)))
    have X1 := hide (X0.out.below hb X0.out.lt)
    clear hb 
    go_wp2_with fail
    refine (HV.out _ B1.out).mono ?_
    rintro e w2 ⟨rfl, hb⟩
    have B2 := hide (B1.out.trans (hb.mono (Nat.le_trans (by simp) B1.out.size)))
    have X2 := hide (X1.out.below hb X1.out.lt)
    clear hb B1 X1
    go_wp2
    go_ret
    exact ⟨rfl, B2.out⟩
  | true =>
    rw [hv] at HV
    obtain ⟨hV, h60⟩ := validH_of hv
    have hg := fun W (hW : Below w.heap.size w W) => hget_any A _ c xs id W (hsl W hW)
    have hrg := fun W (hW : Below w.heap.size w W) => hrget_any A _ c xs id W (hsl W hW)
    have hpl := fun W (hW : Below w.heap.size w W) => hplace_any A _ c xs h W (hsl W hW) h60
    have hrp := fun W (hW : Below w.heap.size w W) => hrplace_any A _ c xs h W (hsl W hW) h60
    have hc := fun W (hW : Below w.heap.size w W) => hcancel_own A _ c xs id W (hsl W hW) (by omega)
    have hrc := fun W (hW : Below w.heap.size w W) => rcancel_own A _ c xs id W (hsl W hW) (by omega)
    have hcl := cancelH_len xs id
    simp only [cancR_eq hV] at hrc
    generalize cancelH xs id = r2 at hc hrc hcl
    generalize placeH xs h = r1 at hpl hrp
    generalize getH xs id = y0 at hg hrg
    obtain ⟨y, is⟩ := y0
    obtain ⟨r2e, r2l, z⟩ := r2
    have hgd := ho_guard
    have hq := fun w => ho_neq y y w
    simp only [decide_true, Bool.not_true] at hq
    have hq2 := fun w => ho_eql z z w
    simp only [decide_true] at hq2
    unfold hoV at hg hrg hpl hrp hq hq2
    simp only at hg hrg hcl
    have HG := hide hg
    have HRG := hide hrg
    have HPL := hide hpl
    have HRP := hide hrp
    have HC := hide hc
    have HRC := hide hrc
    have HCL := hide (show r2l.length ≤ 140737488355328 by omega)
    clear hv hs hsl hV hg hrg hpl hrp hc hrc hcl
    unfold hoV
    go_enter Try.func9, Try.ntmps9
    go_wp2_with fail
    refine (halive_any _).mono ?_
    rintro e w1 ⟨rfl, hb⟩
    have B1 := hide (B0.out.trans (hb.mono (Nat.le_trans (by simp) B0.out.size)))
    have X1 := hide (X0.out.below hb X0.out.lt)
    clear hb 
    go_wp2_with fail
    refine (HV.out _ B1.out).mono ?_
    rintro e w2 ⟨rfl, hb⟩
    have B2 := hide (B1.out.trans (hb.mono (Nat.le_trans (by simp) B1.out.size)))
    have X2 := hide (X1.out.below hb X1.out.lt)
    clear hb B1 X1
    clear HV
    go_wp2_with fail
    refine (HG.out _ B2.out).mono ?_
    rintro e w3 ⟨rfl, hb⟩
    have B3 := hide (B2.out.trans (hb.mono (Nat.le_trans (by simp) B2.out.size)))
    have X3 := hide (X2.out.below hb X2.out.lt)
    clear hb B2 X2
    have LY := hide (B3.out.size)
    have B4 := hide (B3.out.alloc B3.out.size (.cells (hoC y) 47))
    have XY := hide X3.out.lt
    have X4 := hide (X3.out.alloc (.cells (hoC y) 47))
    have Y4 := hide (Box.new w3 47 (hoC y))
    clear B3 X3
    go_wp2_with fail
    refine (HRG.out _ B4.out).mono ?_
    rintro e w5 ⟨rfl, hb⟩
    have B5 := hide (B4.out.trans (hb.mono (Nat.le_trans (by simp) B4.out.size)))
    have X5 := hide (X4.out.below hb X4.out.lt)
    have Y5 := hide (Y4.out.below hb Y4.out.lt)
    clear hb B4 X4 Y4
    have LV := hide (B5.out.size)
    have B6 := hide (B5.out.alloc B5.out.size (.cells (hoC y) 47))
    have XV := hide X5.out.lt
    have X6 := hide (X5.out.alloc (.cells (hoC y) 47))
    have YV := hide Y5.out.lt
    have Y6 := hide (Y5.out.alloc (.cells (hoC y) 47))
    have V6 := hide (Box.new w5 47 (hoC y))
    clear B5 X5 Y5
    clear HG HRG
    have q0 := Y6.out.cell 0
    have q1 := Y6.out.cell 1
    have q2 := Y6.out.cell 2
    have q3 := Y6.out.cell 3
    have q4 := Y6.out.cell 4
    have q5 := Y6.out.cell 5
    have q6 := Y6.out.cell 6
    have q7 := Y6.out.cell 7
    have q8 := Y6.out.cell 8
    have q9 := Y6.out.cell 9
    have q10 := Y6.out.cell 10
    simp at q0 q1 q2 q3 q4 q5 q6 q7 q8 q9 q10
    have s0 := V6.out.cell 0
    have s1 := V6.out.cell 1
    have s2 := V6.out.cell 2
    have s3 := V6.out.cell 3
    have s4 := V6.out.cell 4
    have s5 := V6.out.cell 5
    have s6 := V6.out.cell 6
    have s7 := V6.out.cell 7
    have s8 := V6.out.cell 8
    have s9 := V6.out.cell 9
    have s10 := V6.out.cell 10
    simp at s0 s1 s2 s3 s4 s5 s6 s7 s8 s9 s10
    have d0 := X6.out.cell 0
    have d1 := X6.out.cell 1
    have d2 := X6.out.cell 2
    have d3 := X6.out.cell 3
    have d4 := X6.out.cell 4
    have d5 := X6.out.cell 5
    have d6 := X6.out.cell 6
    have d7 := X6.out.cell 7
    have d8 := X6.out.cell 8
    have d9 := X6.out.cell 9
    have d10 := X6.out.cell 10
    simp at d0 d1 d2 d3 d4 d5 d6 d7 d8 d9 d10
    go_wp2_with fail
    refine (HPL.out _ B6.out).mono ?_
    rintro e w7 ⟨A1, n1, c1, rfl, hsl1, hb⟩
    have B7 := hide (B6.out.trans (hb.mono (Nat.le_trans (by simp) B6.out.size)))
    have X7 := hide (X6.out.below hb X6.out.lt)
    have Y7 := hide (Y6.out.below hb Y6.out.lt)
    have V7 := hide (V6.out.below hb V6.out.lt)
    clear hb B6 X6 Y6 V6
    have S1 := hide hsl1
    clear hsl1 hq HPL
    clear q0 q1 q2 q3 q4 q5 q6 q7 q8 q9 q10
    clear s0 s1 s2 s3 s4 s5 s6 s7 s8 s9 s10
    clear d0 d1 d2 d3 d4 d5 d6 d7 d8 d9 d10
    have d0 := X7.out.cell 0
    have d1 := X7.out.cell 1
    have d2 := X7.out.cell 2
    have d3 := X7.out.cell 3
    have d4 := X7.out.cell 4
    have d5 := X7.out.cell 5
    have d6 := X7.out.cell 6
    have d7 := X7.out.cell 7
    have d8 := X7.out.cell 8
    have d9 := X7.out.cell 9
    have d10 := X7.out.cell 10
    simp at d0 d1 d2 d3 d4 d5 d6 d7 d8 d9 d10
    go_wp2_with fail
    refine (HRP.out _ B7.out).mono ?_
    rintro e w8 ⟨A2, n2, c2, rfl, hsl2, hb⟩
    have B8 := hide (B7.out.trans (hb.mono (Nat.le_trans (by simp) B7.out.size)))
    have X8 := hide (X7.out.below hb X7.out.lt)
    have Y8 := hide (Y7.out.below hb Y7.out.lt)
    have V8 := hide (V7.out.below hb V7.out.lt)
    have S3 := hide ((S1.out.below hb).more hb.size)
    clear hb B7 X7 Y7 V7
    have S2 := hide hsl2
    clear hsl2 S1 HRP
    clear d0 d1 d2 d3 d4 d5 d6 d7 d8 d9 d10
    go_wp2_with fail
    refine (hsame_any A1 A2 n1 c1 n2 c2 _ _ S3.out S2.out).mono ?_
    rintro e w9 ⟨rfl, hb⟩
    have B9 := hide (B8.out.trans (hb.mono (Nat.le_trans (by simp) B8.out.size)))
    have X9 := hide (X8.out.below hb X8.out.lt)
    have Y9 := hide (Y8.out.below hb Y8.out.lt)
    have V9 := hide (V8.out.below hb V8.out.lt)
    clear hb B8 X8 Y8 V8
    clear S2 S3
    clear X9
    have YL := hide Y9.out.lt
    have VL := hide V9.out.lt
    go_wp2_with fail
    refine (HC.out _ B9.out).mono ?_
    rintro e w10 ⟨v3, rfl, ho3, hb⟩
    have B10 := hide (B9.out.trans (hb.mono (Nat.le_trans (by simp) B9.out.size)))
    have Y10 := hide (Y9.out.below hb Y9.out.lt)
    have V10 := hide (V9.out.below hb V9.out.lt)
    clear hb B9 Y9 V9
    have R10 := hide ho3
    clear ho3 HC
    unfold hoV
    have q0 := Y10.out.cell 0
    have q1 := Y10.out.cell 1
    have q2 := Y10.out.cell 2
    have q3 := Y10.out.cell 3
    have q4 := Y10.out.cell 4
    have q5 := Y10.out.cell 5
    have q6 := Y10.out.cell 6
    have q7 := Y10.out.cell 7
    have q8 := Y10.out.cell 8
    have q9 := Y10.out.cell 9
    have q10 := Y10.out.cell 10
    simp at q0 q1 q2 q3 q4 q5 q6 q7 q8 q9 q10
    have hf1 := fun j => Y10.out.frz j
    have B11 := hide (below_setCells LY.out (hoE z) 0 _ B10.out)
    have Y11 := hide (show Box (w10.setCells w3.heap.size 0 (hoE z)) w3.heap.size 47 (hoC z) by have hx := Y10.out.setCells (hoE z) 0 _ _ (by simp [hoE]); rwa [splice_all' (by simp [hoE])] at hx)
    have V11 := hide (V10.out.far_setCells (b := w3.heap.size) (by have := YV.out; omega) (hoE z) 0 w10)
    have R11 := hide (Hoo_far_cells (b := w3.heap.size) (by intro e; have := (R10.out.lt _ e).1; have := YL.out; omega) (hoE z) 0 _ R10.out)
    clear Y10 B10 V10 R10
    have VM := hide V11.out.lt
    have RL11 := R11
    go_wp2_with fail
    refine (HRC.out (w10.setCells w3.heap.size 0 (hoE z)) B11.out).mono ?_
    rintro e w12 ⟨v4, rfl, ho4, hb⟩
    have hb : Below ((w10.setCells w3.heap.size 0 (hoE z))).heap.size ((w10.setCells w3.heap.size 0 (hoE z))) w12 := hb
    have B12 := hide (B11.out.trans (hb.mono (Nat.le_trans (by simp) B11.out.size)))
    have Y12 := hide (Y11.out.below hb Y11.out.lt)
    have V12 := hide (V11.out.below hb V11.out.lt)
    have R12 := hide (hoo_below R11.out hb)
    clear hb B11 Y11 V11
    have U12 := hide ho4
    clear ho4 HRC R11 RL11
    unfold hoV
    clear q0 q1 q2 q3 q4 q5 q6 q7 q8 q9 q10
    clear hf1
    have s0 := V12.out.cell 0
    have s1 := V12.out.cell 1
    have s2 := V12.out.cell 2
    have s3 := V12.out.cell 3
    have s4 := V12.out.cell 4
    have s5 := V12.out.cell 5
    have s6 := V12.out.cell 6
    have s7 := V12.out.cell 7
    have s8 := V12.out.cell 8
    have s9 := V12.out.cell 9
    have s10 := V12.out.cell 10
    simp at s0 s1 s2 s3 s4 s5 s6 s7 s8 s9 s10
    have hf2 := fun j => V12.out.frz j
    go_upto_region 15 with fail
    generalize hW : (((((((((((w12.setCell ⟨w5.heap.size, 0, none⟩ (.int .i64 z.id)).setCell ⟨w5.heap.size, 1, none⟩ (.int .i64 z.pat)).setCell ⟨w5.heap.size, 2, none⟩ (.int .i64 z.rcd)).setCell ⟨w5.heap.size, 3, none⟩ (.int .i64 z.itm)).setCell ⟨w5.heap.size, 4, none⟩ (.int .i64 z.pk)).setCell ⟨w5.heap.size, 5, none⟩ (.int .i64 z.plc)).setCell ⟨w5.heap.size, 6, none⟩ (.int .i64 z.st)).setCell ⟨w5.heap.size, 7, none⟩ (.int .i64 z.got)).setCell ⟨w5.heap.size, 8, none⟩ (.int .i64 z.unt)).setCell ⟨w5.heap.size, 9, none⟩ (.int .i64 z.slp)).setCell ⟨w5.heap.size, 10, none⟩ (.int .i64 z.rnk)) = W
    have hW2 : w12.setCells w5.heap.size 0 (hoE z) = W := hW
    clear hW
    have B13 := hide (below_setCells LV.out (hoE z) 0 _ B12.out)
    have V13 := hide (show Box (w12.setCells w5.heap.size 0 (hoE z)) w5.heap.size 47 (hoC z) by have hx := V12.out.setCells (hoE z) 0 _ _ (by simp [hoE]); rwa [splice_all' (by simp [hoE])] at hx)
    have Y13 := hide (Y12.out.far_setCells (b := w5.heap.size) (by have := YV.out; omega) (hoE z) 0 w12)
    have R13 := hide (Hoo_far_cells (b := w5.heap.size) (by intro e; have := (R12.out.lt _ e).1; have := VL.out; omega) (hoE z) 0 _ R12.out)
    have U13 := hide (Hoo_far_cells (b := w5.heap.size) (by intro e; have := (U12.out.lt _ e).1; have := VM.out; omega) (hoE z) 0 _ U12.out)
    clear V12 B12 Y12 R12 U12
    have BX := hide (show _ from B13.out)
    rw [hW2] at BX
    clear B13
    have YX := hide (show _ from Y13.out)
    rw [hW2] at YX
    clear Y13
    have VX := hide (show _ from V13.out)
    rw [hW2] at VX
    clear V13
    have RX := hide (show _ from R13.out)
    rw [hW2] at RX
    clear R13
    have UX := hide (show _ from U13.out)
    rw [hW2] at UX
    clear U13
    obtain ⟨A3, c3, e3, S3⟩ := Hoo_sl RX.out HCL.out
    obtain ⟨A4, c4, e4, S4⟩ := Hoo_sl UX.out HCL.out
    subst e3 e4
    clear RX UX hf2 hW2
    clear s0 s1 s2 s3 s4 s5 s6 s7 s8 s9 s10
    have q0 := YX.out.cell 0
    have t0 := VX.out.cell 0
    have q1 := YX.out.cell 1
    have t1 := VX.out.cell 1
    have q2 := YX.out.cell 2
    have t2 := VX.out.cell 2
    have q3 := YX.out.cell 3
    have t3 := VX.out.cell 3
    have q4 := YX.out.cell 4
    have t4 := VX.out.cell 4
    have q5 := YX.out.cell 5
    have t5 := VX.out.cell 5
    have q6 := YX.out.cell 6
    have t6 := VX.out.cell 6
    have q7 := YX.out.cell 7
    have t7 := VX.out.cell 7
    have q8 := YX.out.cell 8
    have t8 := VX.out.cell 8
    have q9 := YX.out.cell 9
    have t9 := VX.out.cell 9
    have q10 := YX.out.cell 10
    have t10 := VX.out.cell 10
    simp at q0 t0 q1 t1 q2 t2 q3 t3 q4 t4 q5 t5 q6 t6 q7 t7 q8 t8 q9 t9 q10 t10
    have HSM := hide (hsame_any A3 A4 _ c3 _ c4 _ _ S3 S4)
    clear S3 S4 YX VX
    go_wp2_with fail
    refine (HSM.out).mono ?_
    rintro e w14 ⟨rfl, hb⟩
    have BE := hide (BX.out.trans (hb.mono BX.out.size))
    clear hb
    go_wp2
    go_ret
    exact ⟨rfl, BE.out⟩
end Go.Proofs.Ytgjhjabnnhhkbaa
