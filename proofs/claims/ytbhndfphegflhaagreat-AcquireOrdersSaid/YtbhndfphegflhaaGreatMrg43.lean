/- Texts laid together by merge.py: AqW. -/
import Derived.Test.YtbhndfphegflhaaGreatMrg39
import Derived.Test.YtbhndfphegflhaaGreatMrg19
import Derived.Test.YtbhndfphegflhaaGreatMrg1
set_option linter.unusedSimpArgs false
set_option linter.unusedVariables false
/- Walks: Order of the reference. Printed by gen_aq_w.py. -/
namespace Go.Proofs.YtbhndfphegflhaaGreat
open Go.RowKit Go.Maps

set_option maxRecDepth 100000 in
set_option maxHeartbeats 16000000 in
theorem rord_any (a : Aq) (x : Od) (w : World) (hs : AqS w w.heap.size a) (hn : a.fn ≤ 1000) (hm : ∀ f ∈ a.f, FuM f) (hon : a.on ≤ 60) (hx : OdS w w.heap.size x) (hnx : 1 ≤ a.nx) :
    Calls Tryz.prog 20 #[aqV a, odV x] w (ResB w a.nx (ordA (aqP a) x)) := by
  have B0 := hide ((((Below.refl w.heap.size w).alloc (Nat.le_refl _) (.cells (aqC a) 27)).alloc (by simp) (.cells (odC x) 35)).alloc (by simp; omega) (.cells (aqC aq0) 27))
  have R0 := hide (Box.new ((w.alloc (.cells (aqC a) 27)).alloc (.cells (odC x) 35)) 27 (aqC aq0))
  simp only [World.size_alloc] at R0
  unfold aqV odV
  by_cases h9 : 9999 < a.nx
  · have HR := hide (show ordA (aqP a) x = (13, pa0) from ordA_full h9)
    clear hs hx
    go_enter Tryz.func20, Tryz.ntmps20
    go_wp2
    refine bodyPost_ret (v := .tuple #[aqV aq0, .int .i64 0, .int .i64 13]) (by simp [results, Tryz.results20, go_sem, aqV, aq0]) rfl ?_
    rw [HR.out]
    exact resB_err (by decide) B0.out
  obtain ⟨y, hy⟩ : ∃ y, newO (aqP a) x = y := ⟨_, rfl⟩
  have HYE := hide hy
  have HS := hide hs
  have HM := hide hm
  have hyS : OdS w w.heap.size y := by rw [← hy]; exact hx
  have HYS := hide hyS
  have HYF := hide (show y.id = a.nx ∧ y.shA = x.shA ∧ y.shn = x.shn ∧ y.shc = x.shc ∧ y.sh = x.sh by rw [← hy]; exact ⟨rfl, rfl, rfl, rfl, rfl⟩)
  have HYC := hide (show odC y = #[.int .i64 a.nx, .int .i64 x.rcd, .int .i64 x.ven, .int .i64 x.cop, .int .i64 x.pri, .int .i64 0, .int .i64 0, .int .i64 0, .int .i64 1, .slice x.shA x.shn x.shc] by rw [← hy]; rfl)
  have HPL := hide (fun W (hW : Below w.heap.size w W) => rplace_any a.oA a.on a.oc a.o y W ((hs.o.below hW).more hW.size) (fun u hu => ((hs.os u hu).below hW).more hW.size) ((hyS.below hW).more hW.size) hon)
  have HMEM := hide (placeO_mem (xs := a.o) (x := y))
  obtain ⟨er, ys, hr⟩ : ∃ er ys, placeO a.o y = (er, ys) := ⟨_, _, rfl⟩
  have HVY := hide (show er = 0 → sharesV y.sh = true ∧ OdM y from fun h0 => by
    have h1 : (placeO a.o y).1 = 0 := by rw [hr]; exact h0
    unfold placeO at h1
    split at h1
    · split at h1
      · rename_i h2
        have hc := chkOs_ok _ _ (VldO.of h2).chk y (by simp)
        obtain ⟨m1, _, _, v1, _⟩ := chkO_M hc
        exact ⟨v1, m1⟩
      · rename_i h2; exact absurd h1 h2
    · cases h1)
  have HR0 := hide (show placeO (aqP a).o (newO (aqP a) x) = (er, ys) by rw [hy]; exact hr)
  rw [hr] at HPL HMEM
  have hyl := hyS.len
  have hyb := hyS.big
  have HYL := hide hyl
  have H9 := hide (show ¬ (9999 : Int) < (aqP a).nx from h9)
  have h9' : ¬ (9999 : Int) < a.nx := h9
  have HYV := hide (show odV y = .agg #[.int .i64 a.nx, .int .i64 x.rcd, .int .i64 x.ven, .int .i64 x.cop, .int .i64 x.pri, .int .i64 0, .int .i64 0, .int .i64 0, .int .i64 1, .slice x.shA x.shn x.shc] by rw [← hy]; rfl)
  have ew : IntKind.i64.wrap (a.nx + 1) = a.nx + 1 := by rw [IntKind.wrap_i64]; omega
  have B4 := hide ((((Below.refl w.heap.size w).alloc (Nat.le_refl _) (.cells (aqC a) 27)).alloc (by simp) (.cells (odC y) 35)).alloc (by simp; omega) (.cells (aqC aq0) 27))
  have X4 := hide (((Box.new w 27 (aqC a)).alloc (.cells (odC y) 35)).alloc (.cells (aqC aq0) 27))
  have Y4 := hide ((Box.new (w.alloc (.cells (aqC a) 27)) 35 (odC y)).alloc (.cells (aqC aq0) 27))
  have R4 := hide (Box.new ((w.alloc (.cells (aqC a) 27)).alloc (.cells (odC y) 35)) 27 (aqC aq0))
  simp only [World.size_alloc] at Y4 R4
  rw [HYC.out] at Y4 B4 X4 R4
  have HP4 := hide (HPL.out _ B4.out)
  rw [HYV.out] at HP4
  clear hs hx hm hr hy hyS hyl h9 R0 B0
  go_enter Tryz.func20, Tryz.ntmps20
  go_wp2_with fail
  refine HP4.out.mono ?_
  rintro e w1 ⟨A1, n1, c1, rfl, hsl, hb⟩
  have B1 := hide (B4.out.trans (hb.mono B4.out.size))
  have X1 := hide (X4.out.below hb X4.out.lt)
  have R1 := hide (R4.out.below hb R4.out.lt)
  have Y1 := hide (Y4.out.below hb Y4.out.lt)
  have HSL := hide hsl
  clear hsl hb HP4 HPL B4 X4 R4 Y4
  by_cases hz : (er != 0) = true
  · have HR := hide (show ordA (aqP a) x = (er, pa0) by
      rw [ordA_bad (a := aqP a) (by have h := H9.out; omega) (by rw [HR0.out]; simpa using hz), HR0.out])
    have hze : er ≠ 0 := by simpa using hz
    have r0 := R1.out.cell 0
    have r1 := R1.out.cell 1
    have r2 := R1.out.cell 2
    have r3 := R1.out.cell 3
    have r4 := R1.out.cell 4
    have r5 := R1.out.cell 5
    simp [aq0] at r0 r1 r2 r3 r4 r5
    have hlr := R1.out.lt
    have fr := fun j => R1.out.frz j
    go_wp2
    refine bodyPost_ret (v := .tuple #[aqV aq0, .int .i64 0, .int .i64 er]) (by simp [results, Tryz.results20, go_sem, World.cell?_alloc_lt, hlr, r0, r1, r2, r3, r4, r5, aqV, aq0]) rfl ?_
    rw [HR.out]
    exact resB_err (by assumption) (below_aq B1.out (by omega) _ _ _ _ _ _)
  have hz' : (er != 0) = false := by simpa using hz
  have h0 : er = 0 := by simpa using hz
  subst h0
  obtain ⟨hyv, hym⟩ := HVY.out rfl
  have HYV2 := hide hyv
  have HYM := hide hym
  have x0 := X1.out.cell 0
  have x1 := X1.out.cell 1
  have x2 := X1.out.cell 2
  have x3 := X1.out.cell 3
  have x4 := X1.out.cell 4
  have x5 := X1.out.cell 5
  simp [aq0] at x0 x1 x2 x3 x4 x5
  have y0 := Y1.out.cell 0
  have y1 := Y1.out.cell 1
  have y2 := Y1.out.cell 2
  have y3 := Y1.out.cell 3
  have y4 := Y1.out.cell 4
  have y5 := Y1.out.cell 5
  have y6 := Y1.out.cell 6
  have y7 := Y1.out.cell 7
  have y8 := Y1.out.cell 8
  have y9 := Y1.out.cell 9
  simp [aq0] at y0 y1 y2 y3 y4 y5 y6 y7 y8 y9
  have xf := fun j => X1.out.frz j
  clear hz hyv hym HVY
  go_wp2
  obtain ⟨W1, hW1⟩ : ∃ W1, W1 = (w1.setCell ⟨w.heap.size, 2, none⟩ (.slice A1 n1 c1)).setCell ⟨w.heap.size, 5, none⟩ (.int .i64 (a.nx + 1)) := ⟨_, rfl⟩
  rw [← HYC.out] at Y1
  have X2 : Hid (Box ((w1.setCell ⟨w.heap.size, 2, none⟩ (.slice A1 n1 c1)).setCell ⟨w.heap.size, 5, none⟩ (.int .i64 (a.nx + 1))) w.heap.size 27 #[.int .i64 a.yr, .slice a.fA a.fn a.fc, .slice A1 n1 c1, .slice a.bA a.bn a.bc, .slice a.sA a.sn a.sc, .int .i64 (a.nx + 1)]) := hide ((X1.out.set_ 2 (.slice A1 n1 c1)).set_ 5 (.int .i64 (a.nx + 1)))
  have Y2 := hide ((Y1.out.far (p := ⟨w.heap.size, 2, none⟩) (by show _ ≠ w.heap.size; omega) (.slice A1 n1 c1)).far (p := ⟨w.heap.size, 5, none⟩) (by show _ ≠ w.heap.size; omega) (.int .i64 (a.nx + 1)))
  have R2 := hide ((R1.out.far (p := ⟨w.heap.size, 2, none⟩) (by show _ ≠ w.heap.size; omega) (.slice A1 n1 c1)).far (p := ⟨w.heap.size, 5, none⟩) (by show _ ≠ w.heap.size; omega) (.int .i64 (a.nx + 1)))
  have B2 := hide ((B1.out.setCell (p := ⟨w.heap.size, 2, none⟩) (Nat.le_refl _) (.slice A1 n1 c1)).setCell (p := ⟨w.heap.size, 5, none⟩) (Nat.le_refl _) (.int .i64 (a.nx + 1)))
  have N2 := hide (HSL.out.notAt X1.out (aq_noOd a))
  have L2 := hide (((HSL.out.far (p := ⟨w.heap.size, 2, none⟩) N2.out (.slice A1 n1 c1)).far (p := ⟨w.heap.size, 5, none⟩) N2.out (.int .i64 (a.nx + 1))).more (B' := ((w1.setCell ⟨w.heap.size, 2, none⟩ (.slice A1 n1 c1)).setCell ⟨w.heap.size, 5, none⟩ (.int .i64 (a.nx + 1))).heap.size) (by simp))
  rw [← hW1] at X2 Y2 R2 B2 L2 ⊢
  clear hW1 X1 Y1 R1 B1 HSL N2 x0 x1 x2 x3 x4 x5 y0 y1 y2 y3 y4 y5 y6 y7 y8 y9 xf hz'
  have HZ := hide (Below.refl W1.heap.size W1)
  have hR2 := R2.out.lt
  go_loopw [9] (fun s9 wr => ∃ k : Nat, k ≤ y.shn ∧ s9 = .int .i64 k ∧ (∀ u ∈ y.sh.take k, shHas a.f u = true) ∧ Below W1.heap.size W1 wr) (fun s9 _ => y.shn - (intOf s9).toNat)
  case atStart => exact ⟨0, Nat.zero_le _, rfl, by simp, HZ.out⟩
  case round =>
    clear HZ
    obtain ⟨k, hk, rfl, ha, hb⟩ := hrel
    have HAK := hide ha
    have HZ := hide hb
    have hzr := hb.size
    have BW := hide (B2.out.trans (hb.mono B2.out.size))
    have XW := hide (X2.out.below hb X2.out.lt)
    have YW := hide (Y2.out.below hb Y2.out.lt)
    have RW := hide (R2.out.below hb R2.out.lt)
    have q1 := XW.out.cell 1
    have l9 := YW.out.cell 9
    simp at q1 l9
    clear ha hb
    by_cases hlt : k < y.shn
    · have hkz : (k : Int) < (y.shn : Int) := by omega
      obtain ⟨b', off', s, hA, hbB, hsx, d0, d1⟩ := Shs_at (HYS.out.below BW.out) hlt
      have HSX := hide hsx
      rw [hA] at l9
      have HG := hide (fun W (hW : Below w.heap.size w W) => frget_any a.fA a.fn a.fc a.f s.fund W ((HS.out.f.below hW).more hW.size))
      have HSH := hide (show shHas a.f s = (getF a.f s.fund).2 from rfl)
      obtain ⟨gf, gb, hg⟩ : ∃ gf gb, getF a.f s.fund = (gf, gb) := ⟨_, _, rfl⟩
      rw [hg] at HG HSH
      unfold fuV at HG
      have hq1 := XW.out.lt
      have hly := YW.out.lt
      clear hsx hg hA d1
      go_wp2_with fail
      have HG5 := hide (fun W (h : Hid (Below wr.heap.size wr W)) => HG.out W (BW.out.trans (h.out.mono BW.out.size)))
      have HKS := hide (fun W (h : Hid (Below wr.heap.size wr W)) => And.intro h (And.intro ((h.out.cell (p := ⟨w.heap.size, 1, none⟩) hq1).trans q1) (And.intro ((h.out.cell (p := ⟨w.heap.size + 1, 9, none⟩) hly).trans l9) ((h.out.cell (p := ⟨b', off' + k * 2, none⟩) (Nat.lt_of_lt_of_le hbB BW.out.size)).trans d0))))
      have H0 := hide (Below.refl wr.heap.size wr).drew
      have HKB := hide (fun w6 (hb6 : Below (wr.alloc (.cells #[.int .i64 0, .int .i64 0, .int .i64 0, .int .i64 0, .int .i64 0] 57)).drew.heap.size (wr.alloc (.cells #[.int .i64 0, .int .i64 0, .int .i64 0, .int .i64 0, .int .i64 0] 57)).drew w6) =>
        have YB : Box w6 wr.heap.size 57 #[.int .i64 0, .int .i64 0, .int .i64 0, .int .i64 0, .int .i64 0] := Box.below (Box.drew (Box.new wr 57 _)) hb6 (by show wr.heap.size < (wr.alloc _).heap.size; rw [World.size_alloc]; omega)
        (And.intro (YB.cell 0) (And.intro (YB.cell 1) (And.intro (YB.cell 2) (And.intro (YB.cell 3) (And.intro (YB.cell 4) (And.intro (YB.frz 0) (And.intro (YB.frz 1) (And.intro (YB.frz 2) (And.intro (YB.frz 3) (YB.frz 4)))))))))))
      go_region_held3 (fun w' => Hid (Below wr.heap.size wr w') ∧ w'.cell? ⟨w.heap.size, 1, none⟩ = some (.slice a.fA a.fn a.fc) ∧ w'.cell? ⟨w.heap.size + 1, 9, none⟩ = some (.slice (some ⟨b', off', none⟩) y.shn y.shc) ∧ w'.cell? ⟨b', off' + k * 2, none⟩ = some (.int .i64 s.fund))
        (first | exact HKS.out _ H0 | exact HKS.out _ hS6 | exact HKS.out _ (hbel_alloc H0 _) | exact HKS.out _ (hbel_alloc hS6 _) | exact HKS.out _ (hbel_set5 hS6 _ _ _ _ _))
        (first
          | (go_at_call 57; refine (HG5.out _ ?_).mono ?_; (first | exact H0 | exact hbel_alloc H0 _); rintro e w6 ⟨rfl, hb6⟩; first | (have hS6 := hbel_call H0 hb6) | (have hS6 := hbel_call (hbel_alloc H0 _) hb6; obtain ⟨s0, s1, s2, s3, s4, z0, z1, z2, z3, z4⟩ := HKB.out _ hb6; simp at s0 s1 s2 s3 s4)))
      all_goals
        have hS7 := hS6
        have B6 := hide (BW.out.trans (hS7.out.mono BW.out.size))
        have Z6 := hide (HZ.out.trans (hS7.out.mono hzr))
        have R6 := hide (RW.out.below hS7.out RW.out.lt)
        cases gb with
        | false =>
          have HR := hide (show ordA (aqP a) x = (9, pa0) from ordA_none (a := aqP a) (by have h := H9.out; omega) (by rw [HR0.out]) (by
            rw [← HYF.out.2.2.2.2]
            exact allT_false HSX.out HSH.out))
          have r0 := R6.out.cell 0
          have r1 := R6.out.cell 1
          have r2 := R6.out.cell 2
          have r3 := R6.out.cell 3
          have r4 := R6.out.cell 4
          have r5 := R6.out.cell 5
          simp [aq0] at r0 r1 r2 r3 r4 r5
          have hlr := R6.out.lt
          have hne : ¬ w.heap.size + 1 + 1 = wr.heap.size := by omega
          have fr := fun j => R6.out.frz j
          go_wp2
          refine bodyPost_ret (v := .tuple #[aqV aq0, .int .i64 0, .int .i64 9]) (by simp [results, Tryz.results20, go_sem, World.cell?_alloc_lt, hlr, hne, r0, r1, r2, r3, r4, r5, aqV, aq0]) rfl ?_
          rw [HR.out]
          have hA6 := below_aq B6.out (show w.heap.size ≤ w.heap.size + 1 + 1 by omega) (.int .i64 0) (.slice none 0 0) (.slice none 0 0) (.slice none 0 0) (.slice none 0 0) (.int .i64 0)
          have hB6 := fun o => hA6.alloc (by simpa using B6.out.size) o
          have hC6 := below_aq (below_box5 B6.out BW.out.size (.int .i64 gf.id) (.int .i64 gf.parent) (.int .i64 gf.budget) (.int .i64 gf.enc) (.int .i64 gf.spent)) (show w.heap.size ≤ w.heap.size + 1 + 1 by omega) (.int .i64 0) (.slice none 0 0) (.slice none 0 0) (.slice none 0 0) (.slice none 0 0) (.int .i64 0)
          refine resB_err (by decide) ?_
          first
            | with_reducible exact hB6 _
            | with_reducible exact hC6
        | true =>
          have HN := hide (allT_step HSX.out HAK.out HSH.out)
          go_wp2
          go_roundw
          case rel =>
            first
              | exact ⟨k + 1, by omega, by go_num, HN.out, Z6.out.alloc Z6.out.size _⟩
              | exact ⟨k + 1, by omega, by go_num, HN.out, below_box5 Z6.out hzr _ _ _ _ _⟩
          case measure => simp [intOf]; omega
    · have hkz : ¬ (k : Int) < (y.shn : Int) := by omega
      have HALL := hide (show x.sh.all (shHas a.f) = true by
        rw [← HYF.out.2.2.2.2, List.all_eq_true]
        intro u hu
        exact HAK.out u (by rwa [List.take_of_length_le (by have := HYL.out; omega)]))
      have L3 := hide ((L2.out.below HZ.out).more HZ.out.size)
      obtain ⟨W3, hW3⟩ : ∃ W3, W3 = wr := ⟨_, rfl⟩
      rw [← hW3] at BW XW YW RW L3 l9 ⊢
      clear hW3 HAK HZ hzr q1 X2 Y2 R2 B2 L2 hR2
      have hzw : w.heap.size + 1 + 1 + 1 ≤ W3.heap.size := RW.out.lt
      obtain ⟨rv, hrv⟩ : ∃ rv, resvO y = rv := ⟨_, rfl⟩
      have HRS := hide (fun W => rresv_any y W HYM.out)
      rw [hrv] at HRS
      have HPT := hide (fun (id : Int) W (hW : Below w.heap.size w W) => rpart_any y rv id W ((HYS.out.below hW).more hW.size) HYV2.out)
      have HRV := hide hrv
      unfold odV at HRS HPT
      clear hrv hk
      go_wp2
      clear l9 hkz
      go_loopw [12] (fun s12 wr => ∃ (k : Nat) (A : Option Addr) (c : Nat) (fs : List Fu), k ≤ y.shn ∧ s12 = .int .i64 k ∧ encL (fun id => partO y rv id) y.sh a.f = encL (fun id => partO y rv id) (y.sh.drop k) fs ∧ fs.length = a.fn ∧ (∀ f ∈ fs, FuM f) ∧ Below w.heap.size w wr ∧ w.heap.size + 1 + 1 + 1 ≤ wr.heap.size ∧ Box wr w.heap.size 27 #[.int .i64 a.yr, .slice A a.fn c, .slice A1 n1 c1, .slice a.bA a.bn a.bc, .slice a.sA a.sn a.sc, .int .i64 (a.nx + 1)] ∧ Box wr (w.heap.size + 1) 35 (odC y) ∧ Box wr (w.heap.size + 1 + 1) 27 (aqC aq0) ∧ Ods wr wr.heap.size A1 n1 c1 ys ∧ Fs wr wr.heap.size A a.fn c fs) (fun s12 _ => y.shn - (intOf s12).toNat)
      case atStart => exact ⟨0, a.fA, a.fc, a.f, Nat.zero_le _, rfl, rfl, HS.out.f.len, HM.out, BW.out, hzw, XW.out, YW.out, RW.out, L3.out, (HS.out.f.below BW.out).more BW.out.size⟩
      case round =>
        clear BW XW YW RW L3 hzw
        obtain ⟨k, A, c, fs, hk, rfl, ha, hfl, hfm, hb, hzw, hT, hY, hR, hL, hF⟩ := hrel
        have HAK := hide ha
        have HFM := hide hfm
        have HFL := hide hfl
        have B7 := hide hb
        have T7 := hide hT
        have Y7 := hide hY
        have R7 := hide hR
        have L7 := hide hL
        have HF := hide hF
        clear ha hfl hfm hb hT hY hR hL hF
        by_cases hlt : k < y.shn
        · have hkz : (k : Int) < (y.shn : Int) := by omega
          obtain ⟨b, off, s, hA, hbB, hsx, c0, c1'⟩ := Shs_at (HYS.out.below B7.out) hlt
          have HSX := hide hsx
          have t1 := T7.out.cell 1
          have u0 := Y7.out.cell 0
          have u1 := Y7.out.cell 1
          have u2 := Y7.out.cell 2
          have u3 := Y7.out.cell 3
          have u4 := Y7.out.cell 4
          have u5 := Y7.out.cell 5
          have u6 := Y7.out.cell 6
          have u7 := Y7.out.cell 7
          have u8 := Y7.out.cell 8
          have u9 := Y7.out.cell 9
          simp at t1 u0 u1 u2 u3 u4 u5 u6 u7 u8 u9
          have HRK := hide HRS.out
          have HPK := hide (fun W (h : Hid (Below wr.heap.size wr W)) => HPT.out s.fund W (B7.out.trans (h.out.mono B7.out.size)))
          rw [hA] at u9 HRK HPK
          have hbw : b < wr.heap.size := Nat.lt_of_lt_of_le hbB B7.out.size
          have HST := hide (encL_step (am := fun id => partO y rv id) (fs := fs) HSX.out)
          obtain ⟨pa, hpa⟩ : ∃ pa, partO y rv s.fund = pa := ⟨_, rfl⟩
          have HE := hide (fun W (h : Hid (Below wr.heap.size wr W)) => renc_any A a.fn c fs s.fund pa W ((HF.out.below h.out).more h.out.size) hn HFM.out)
          have HCM := hide (fun h => chR_encM (am := pa) (id := s.fund) HFM.out h)
          simp only [hpa] at HPK HST
          have HCL := hide (show (chR (encF pa) fs s.fund).2.length ≤ 1000 from Nat.le_trans chR_len (by rw [HFL.out]; exact hn))
          obtain ⟨ee, zs, hcr⟩ : ∃ ee zs, chR (encF pa) fs s.fund = (ee, zs) := ⟨_, _, rfl⟩
          rw [hcr] at HE HST HCM HCL
          have tlt := T7.out.lt
          have ylt := Y7.out.lt
          have H0 := hide (Below.refl wr.heap.size wr).drew
          have HKS := hide (fun W (h : Hid (Below wr.heap.size wr W)) => (And.intro h (And.intro ((h.out.cell (p := ⟨w.heap.size, 1, none⟩) tlt).trans t1) (And.intro ((h.out.cell (p := ⟨w.heap.size + 1, 0, none⟩) ylt).trans u0) (And.intro ((h.out.cell (p := ⟨w.heap.size + 1, 1, none⟩) ylt).trans u1) (And.intro ((h.out.cell (p := ⟨w.heap.size + 1, 2, none⟩) ylt).trans u2) (And.intro ((h.out.cell (p := ⟨w.heap.size + 1, 3, none⟩) ylt).trans u3) (And.intro ((h.out.cell (p := ⟨w.heap.size + 1, 4, none⟩) ylt).trans u4) (And.intro ((h.out.cell (p := ⟨w.heap.size + 1, 5, none⟩) ylt).trans u5) (And.intro ((h.out.cell (p := ⟨w.heap.size + 1, 6, none⟩) ylt).trans u6) (And.intro ((h.out.cell (p := ⟨w.heap.size + 1, 7, none⟩) ylt).trans u7) (And.intro ((h.out.cell (p := ⟨w.heap.size + 1, 8, none⟩) ylt).trans u8) (And.intro ((h.out.cell (p := ⟨w.heap.size + 1, 9, none⟩) ylt).trans u9) ((h.out.cell (p := ⟨b, off + k * 2, none⟩) hbw).trans c0))))))))))))))
          clear hsx hA hpa hcr c1' hbB
          go_wp2_with fail
          clear t1 u0 u1 u2 u3 u4 u5 u6 u7 u8 u9 c0
          go_region_held3 (fun w' => Hid (Below wr.heap.size wr w') ∧ w'.cell? ⟨w.heap.size, 1, none⟩ = some (.slice A a.fn c) ∧ w'.cell? ⟨w.heap.size + 1, 0, none⟩ = some (.int .i64 y.id) ∧ w'.cell? ⟨w.heap.size + 1, 1, none⟩ = some (.int .i64 y.rcd) ∧ w'.cell? ⟨w.heap.size + 1, 2, none⟩ = some (.int .i64 y.ven) ∧ w'.cell? ⟨w.heap.size + 1, 3, none⟩ = some (.int .i64 y.cop) ∧ w'.cell? ⟨w.heap.size + 1, 4, none⟩ = some (.int .i64 y.pri) ∧ w'.cell? ⟨w.heap.size + 1, 5, none⟩ = some (.int .i64 y.rcv) ∧ w'.cell? ⟨w.heap.size + 1, 6, none⟩ = some (.int .i64 y.bil) ∧ w'.cell? ⟨w.heap.size + 1, 7, none⟩ = some (.int .i64 y.paid) ∧ w'.cell? ⟨w.heap.size + 1, 8, none⟩ = some (.int .i64 y.st) ∧ w'.cell? ⟨w.heap.size + 1, 9, none⟩ = some (.slice (some ⟨b, off, none⟩) y.shn y.shc) ∧ w'.cell? ⟨b, off + k * 2, none⟩ = some (.int .i64 s.fund))
            (first | with_reducible exact HKS.out _ H0 | with_reducible exact HKS.out _ hS1 | with_reducible exact HKS.out _ hS2 | with_reducible exact HKS.out _ hS3)
            (first
              | (go_at_call 67; with_reducible refine (HRK.out _).mono ?_; rintro e w3 ⟨rfl, hb3⟩; have hS1 := hbel_call H0 hb3)
              | (go_at_call 66; with_reducible refine (HPK.out _ hS1).mono ?_; rintro e w4 ⟨rfl, hb4⟩; have hS2 := hbel_call hS1 hb4)
              | (go_at_call 65; with_reducible refine (HE.out _ hS2).mono ?_; rintro e w5 ⟨v, rfl, ho, hb5⟩; obtain ⟨A9, c9, hv, hsl⟩ := Fo_sl ho (by show zs.length ≤ _; have := HCL.out; omega); replace hv : v = .slice A9 zs.length c9 := hv; subst hv; have HSL9 := hide hsl; have hS3 := hbel_call hS2 hb5))
          have B9 := hide (B7.out.trans (hS3.out.mono B7.out.size))
          have T9 := hide (T7.out.below hS3.out T7.out.lt)
          have Y9 := hide (Y7.out.below hS3.out Y7.out.lt)
          have R9 := hide (R7.out.below hS3.out R7.out.lt)
          have L9 := hide ((L7.out.below hS3.out).more hS3.out.size)
          have hz9 := hS3.out.size
          clear HKS H0 hS1 hS2 hS3 hb3 hb4 hb5 ho hsl HRK HPK HE T7 Y7 R7 L7 B7 HF
          obtain ⟨m9, hm9⟩ : ∃ m9, zs.length = m9 := ⟨_, rfl⟩
          replace HSL9 : Hid (Fs w5 w5.heap.size A9 zs.length c9 zs) := HSL9
          rw [hm9] at HSL9 ⊢
          have HM9 := hide hm9
          clear hm9
          by_cases he : (ee != 0) = true
          · have hee : ee ≠ 0 := by simpa using he
            have HR := hide (show ordA (aqP a) x = (ee, pa0) by
              rw [ordA_go (a := aqP a) (x := x) (ys := ys) (er := ee) (fs := []) (by have h := H9.out; omega) HR0.out HALL.out (by
                rw [HYE.out, HRV.out, ← HYF.out.2.2.2.2]
                show encL (fun id => partO y rv id) y.sh a.f = _
                rw [HAK.out, HST.out, if_neg hee]), if_neg hee])
            have r0 := R9.out.cell 0
            have r1 := R9.out.cell 1
            have r2 := R9.out.cell 2
            have r3 := R9.out.cell 3
            have r4 := R9.out.cell 4
            have r5 := R9.out.cell 5
            simp [aq0] at r0 r1 r2 r3 r4 r5
            have hlr := R9.out.lt
            have fr := fun j => R9.out.frz j
            go_wp2
            refine bodyPost_ret (v := .tuple #[aqV aq0, .int .i64 0, .int .i64 ee]) (by simp [results, Tryz.results20, go_sem, World.cell?_alloc_lt, hlr, r0, r1, r2, r3, r4, r5, aqV, aq0]) rfl ?_
            rw [HR.out]
            exact resB_err (by assumption) (below_aq B9.out (by omega) _ _ _ _ _ _)
          have he' : (ee != 0) = false := by simpa using he
          have hee : ee = 0 := by simpa using he
          subst hee
          have HN := hide (show encL (fun id => partO y rv id) y.sh a.f = encL (fun id => partO y rv id) (y.sh.drop (k + 1)) zs by rw [HAK.out, HST.out, if_pos rfl])
          obtain ⟨hzm, hzl⟩ := HCM.out rfl
          have HZM := hide hzm
          have hml : m9 = a.fn := by rw [← HM9.out, ← HFL.out]; exact hzl
          subst hml
          have t1 := T9.out.cell 1
          have tf := T9.out.frz 1
          simp at t1
          clear he hzm hzl
          have NL := L9.out.notAt T9.out (aq_noOd { a with fA := A, fc := c, oA := A1, on := n1, oc := c1, nx := a.nx + 1 })
          have NF := HSL9.out.notAt T9.out (aq_noFu { a with fA := A, fc := c, oA := A1, on := n1, oc := c1, nx := a.nx + 1 })
          have Q1 := hide (B9.out.setCell (p := ⟨w.heap.size, 1, none⟩) (Nat.le_refl _) (.slice A9 a.fn c9))
          have Q2 := hide (T9.out.set_ 1 (.slice A9 a.fn c9))
          have Q3 := hide (Y9.out.far (p := ⟨w.heap.size, 1, none⟩) (by show _ ≠ w.heap.size; omega) (.slice A9 a.fn c9))
          have Q4 := hide (R9.out.far (p := ⟨w.heap.size, 1, none⟩) (by show _ ≠ w.heap.size; omega) (.slice A9 a.fn c9))
          have Q5 := hide ((L9.out.far (p := ⟨w.heap.size, 1, none⟩) NL (.slice A9 a.fn c9)).more (B' := (w5.setCell ⟨w.heap.size, 1, none⟩ (.slice A9 a.fn c9)).heap.size) (by simp))
          have Q6 := hide ((HSL9.out.far (p := ⟨w.heap.size, 1, none⟩) NF (.slice A9 a.fn c9)).more (B' := (w5.setCell ⟨w.heap.size, 1, none⟩ (.slice A9 a.fn c9)).heap.size) (by simp))
          clear NL NF
          go_wp2
          go_roundw
          case rel => exact ⟨k + 1, A9, c9, zs, by omega, by go_num, HN.out, HM9.out, HZM.out, Q1.out, by (rw [World.size_setCell]; omega), Q2.out, Q3.out, Q4.out, Q5.out, Q6.out⟩
          case measure => simp [intOf]; omega
        · have hkz : ¬ (k : Int) < (y.shn : Int) := by omega
          have HR := hide (show ordA (aqP a) x = (0, { aqP a with f := fs, o := ys, nx := a.nx + 1 }) by
            rw [ordA_go (a := aqP a) (x := x) (ys := ys) (er := 0) (fs := fs) (by have h := H9.out; omega) HR0.out HALL.out (by
              rw [HYE.out, HRV.out, ← HYF.out.2.2.2.2]
              show encL (fun id => partO y rv id) y.sh a.f = _
              rw [HAK.out, encL_end (by have := HYL.out; omega)]), if_pos rfl]
            rfl)
          have r0 := R7.out.cell 0
          have r1 := R7.out.cell 1
          have r2 := R7.out.cell 2
          have r3 := R7.out.cell 3
          have r4 := R7.out.cell 4
          have r5 := R7.out.cell 5
          simp [aq0] at r0 r1 r2 r3 r4 r5
          have t0 := T7.out.cell 0
          have t1 := T7.out.cell 1
          have t2 := T7.out.cell 2
          have t3 := T7.out.cell 3
          have t4 := T7.out.cell 4
          have t5 := T7.out.cell 5
          simp [aq0] at t0 t1 t2 t3 t4 t5
          have y0 : wr.cell? ⟨w.heap.size + 1, 0, none⟩ = some (.int .i64 a.nx) := by rw [← HYF.out.1]; exact Y7.out.cell 0
          have fr := fun j => R7.out.frz j
          have u9 := Y7.out.cell 9
          simp at u9
          go_wp2_with fail
          go_big_region
          all_goals
            go_wp2
            refine bodyPost_ret (v := .tuple #[aqV { a with fA := A, fc := c, f := fs, oA := A1, on := n1, oc := c1, o := ys, nx := a.nx + 1 }, .int .i64 a.nx, .int .i64 0]) (by simp [results, Tryz.results20, go_sem, r0, r1, r2, r3, r4, r5, aqV]) rfl ?_
            rw [HR.out]
            have hB := below_aq B7.out (show w.heap.size ≤ w.heap.size + 1 + 1 by omega) (.int .i64 a.yr) (.slice A a.fn c) (.slice A1 n1 c1) (.slice a.bA a.bn a.bc) (.slice a.sA a.sn a.sc) (.int .i64 (a.nx + 1))
            have h0 : AqS wr wr.heap.size { a with fA := A, fc := c, f := fs, oA := A1, on := n1, oc := c1, o := ys, nx := a.nx + 1 } := ⟨HF.out, L7.out, fun u hu => by
              rcases HMEM.out u hu with hu | rfl
              · exact ((HS.out.os u hu).below B7.out).more B7.out.size
              · exact (HYS.out.below B7.out).more B7.out.size, (HS.out.b.below B7.out).more B7.out.size, (HS.out.s.below B7.out).more B7.out.size, fun u hu => ((HS.out.ss u hu).below B7.out).more B7.out.size⟩
            have h1 := AqS.put (w0 := w) h0 R7.out (fun u hu => HS.out.ss u hu) (.int .i64 a.yr) (.slice A a.fn c) (.slice A1 n1 c1) (.slice a.bA a.bn a.bc) (.slice a.sA a.sn a.sc) (.int .i64 (a.nx + 1)) hB
            exact ⟨_, by simp, h1.below (Below.refl _ _).drew, rfl, hB.drew⟩
end Go.Proofs.YtbhndfphegflhaaGreat
