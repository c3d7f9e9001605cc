/- Texts laid together by merge.py: AqQ. -/
import Derived.Test.YtbhndfphegflhaaGreatMrg26
import Derived.Test.YtbhndfphegflhaaGreatMrg18
import Derived.Test.YtbhndfphegflhaaGreatMrg35
import Derived.BigRegion
set_option linter.unusedSimpArgs false
set_option linter.unusedVariables false
/- Walks: Order of the program. Printed by gen_aq_q.py. -/
namespace Go.Proofs.YtbhndfphegflhaaGreat
open Go.RowKit Go.Maps

/-- What Order hands back. -/
def ResB (w : World) (n : Int) (r : Int × Pa) (e : Ending) (w' : World) : Prop :=
  ∃ x : Aq, e = .returned (.tuple #[aqV x, .int .i64 (if r.1 = 0 then n else 0), .int .i64 r.1]) ∧ AqS w' w'.heap.size x ∧ aqP x = r.2 ∧ Below w.heap.size w w'
theorem resB_err {w w' : World} {er n : Int} (he : er ≠ 0) (h : Below w.heap.size w w') : ResB w n (er, pa0) (.returned (.tuple #[aqV aq0, .int .i64 0, .int .i64 er])) w' := ⟨aq0, by simp [he], AqS.zero _ _, rfl, h⟩
theorem encL_step {am : Int → Int} {l : List Sh} {k : Nat} {s : Sh} {fs : List Fu} (h : l[k]? = some s) : encL am (l.drop k) fs =
    if (chR (encF (am s.fund)) fs s.fund).1 = 0 then encL am (l.drop (k + 1)) (chR (encF (am s.fund)) fs s.fund).2 else ((chR (encF (am s.fund)) fs s.fund).1, []) := by
  obtain ⟨hk, rfl⟩ := List.getElem?_eq_some_iff.1 h
  rw [List.drop_eq_getElem_cons hk, encL]
theorem encL_end {am : Int → Int} {l : List Sh} {k : Nat} {fs : List Fu} (h : l.length ≤ k) : encL am (l.drop k) fs = (0, fs) := by
  rw [List.drop_of_length_le h, encL]
theorem encF_M {am : Int} {f : Fu} (hm : FuM f) (h : (encF am f).1 = 0) : FuM (encF am f).2 := by
  unfold encF at h ⊢
  cases h1 : mny am with
  | false => rw [h1] at h; simp at h
  | true =>
    rw [h1] at h
    unfold mny at h1
    rw [Bool.and_eq_true, decide_eq_true_eq, decide_eq_true_eq] at h1
    by_cases h2 : freeF f < am
    · rw [if_neg (by decide), if_pos h2] at h; simp at h
    · rw [if_neg (by decide), if_neg h2]
      unfold freeF at h2
      have hb := hm.b; have he := hm.e; have hs := hm.s
      exact ⟨hb, ⟨by show 0 ≤ f.enc + am; omega, by show f.enc + am ≤ _; omega⟩, hs⟩
theorem chR_encM {am id : Int} {fs : List Fu} (hm : ∀ f ∈ fs, FuM f) (h : (chR (encF am) fs id).1 = 0) : (∀ f ∈ (chR (encF am) fs id).2, FuM f) ∧ (chR (encF am) fs id).2.length = fs.length := by
  unfold chR at h ⊢
  split
  · rename_i h1; rw [if_pos h1] at h; simp at h
  · rename_i h1
    rw [if_neg h1] at h
    split
    · rename_i h2
      refine ⟨fun f hf => ?_, by simp⟩
      rcases List.mem_or_eq_of_mem_set hf with hf | hf
      · exact hm f hf
      · rw [hf]; exact encF_M (getF_M hm id) h2
    · rename_i h2; rw [if_neg h2] at h; exact absurd h h2
theorem ordA_full {a : Pa} {x : Od} (h : 9999 < a.nx) : ordA a x = (13, pa0) := by unfold ordA; rw [if_pos h]
theorem ordA_bad {a : Pa} {x : Od} (h : ¬ 9999 < a.nx) (h2 : ¬ (placeO a.o (newO a x)).1 = 0) : ordA a x = ((placeO a.o (newO a x)).1, pa0) := by unfold ordA; rw [if_neg h, if_neg h2]
theorem ordA_none {a : Pa} {x : Od} (h : ¬ 9999 < a.nx) (h2 : (placeO a.o (newO a x)).1 = 0) (h3 : x.sh.all (shHas a.f) = false) : ordA a x = (9, pa0) := by
  unfold ordA; rw [if_neg h, if_pos h2, if_neg (by rw [h3]; decide)]
theorem ordA_go {a : Pa} {x : Od} {ys : List Od} {er : Int} {fs : List Fu} (h : ¬ 9999 < a.nx) (h2 : placeO a.o (newO a x) = (0, ys)) (h3 : x.sh.all (shHas a.f) = true) (h4 : encL (fun id => partO (newO a x) (resvO (newO a x)) id) x.sh a.f = (er, fs)) :
    ordA a x = if er = 0 then (0, { a with f := fs, o := ys, nx := a.nx + 1 }) else (er, pa0) := by
  unfold ordA; rw [if_neg h, h2, if_pos rfl, if_pos h3, h4]

set_option maxRecDepth 100000 in
set_option maxHeartbeats 4000000 in
theorem pord_any (a : Aq) (x : Od) (w : World) (hs : AqS w w.heap.size a) (hn : a.fn ≤ 1000) (hm : ∀ f ∈ a.f, FuM f) (hon : a.on ≤ 60) (hx : OdS w w.heap.size x) (hnx : 1 ≤ a.nx) :
    Calls Tryz.prog 19 #[aqV a, odV x] w (ResB w a.nx (ordA (aqP a) x)) := by
  have B0 := hide ((((Below.refl w.heap.size w).alloc (Nat.le_refl _) (.cells (aqC a) 27)).alloc (by simp) (.cells (odC x) 35)).alloc (by simp; omega) (.cells (aqC aq0) 27))
  have X0 := hide (((Box.new w 27 (aqC a)).alloc (.cells (odC x) 35)).alloc (.cells (aqC aq0) 27))
  have R0 := hide (Box.new ((w.alloc (.cells (aqC a) 27)).alloc (.cells (odC x) 35)) 27 (aqC aq0))
  simp only [World.size_alloc] at R0
  unfold aqV odV
  by_cases h9 : 9999 < a.nx
  · have HR := hide (show ordA (aqP a) x = (13, pa0) from ordA_full h9)
    have r0 := R0.out.cell 0
    have r1 := R0.out.cell 1
    have r2 := R0.out.cell 2
    have r3 := R0.out.cell 3
    have r4 := R0.out.cell 4
    have r5 := R0.out.cell 5
    simp [aq0] at r0 r1 r2 r3 r4 r5
    have hlr := R0.out.lt
    clear hs hx
    go_enter Tryz.func19, Tryz.ntmps19
    go_wp2
    refine bodyPost_ret (v := .tuple #[aqV aq0, .int .i64 0, .int .i64 13]) (by simp [results, Tryz.results19, go_sem, aqV, aq0]) rfl ?_
    rw [HR.out]
    exact resB_err (by decide) B0.out
  obtain ⟨y, hy⟩ : ∃ y, newO (aqP a) x = y := ⟨_, rfl⟩
  have HYE := hide hy
  have HS := hide hs
  have HM := hide hm
  have hyS : OdS w w.heap.size y := by rw [← hy]; exact hx
  have HYS := hide hyS
  have hyf : y.id = a.nx ∧ y.rcd = x.rcd ∧ y.ven = x.ven ∧ y.cop = x.cop ∧ y.pri = x.pri ∧ y.rcv = 0 ∧ y.bil = 0 ∧ y.paid = 0 ∧ y.st = 1 ∧ y.shA = x.shA ∧ y.shn = x.shn ∧ y.shc = x.shc ∧ y.sh = x.sh := by rw [← hy]; exact ⟨rfl, rfl, rfl, rfl, rfl, rfl, rfl, rfl, rfl, rfl, rfl, rfl, rfl⟩
  have HYF := hide hyf
  have HYC := hide (show odC y = #[.int .i64 a.nx, .int .i64 x.rcd, .int .i64 x.ven, .int .i64 x.cop, .int .i64 x.pri, .int .i64 0, .int .i64 0, .int .i64 0, .int .i64 1, .slice x.shA x.shn x.shc] by rw [← hy]; rfl)
  have HPL := hide (fun W (hW : Below w.heap.size w W) => oplace_any a.oA a.on a.oc a.o y W ((hs.o.below hW).more hW.size) (fun u hu => ((hs.os u hu).below hW).more hW.size) ((hyS.below hW).more hW.size) hon)
  have HMEM := hide (placeO_mem (xs := a.o) (x := y))
  obtain ⟨er, ys, hr⟩ : ∃ er ys, placeO a.o y = (er, ys) := ⟨_, _, rfl⟩
  have HVY := hide (show er = 0 → sharesV y.sh = true ∧ OdM y from fun h0 => by
    have h1 : (placeO a.o y).1 = 0 := by rw [hr]; exact h0
    unfold placeO at h1
    split at h1
    · split at h1
      · rename_i h2
        have hc := chkOs_ok _ _ (VldO.of h2).chk y (by simp)
        obtain ⟨m1, _, _, v1, _⟩ := chkO_M hc
        exact ⟨v1, m1⟩
      · rename_i h2; exact absurd h1 h2
    · cases h1)
  have HR0 := hide (show placeO (aqP a).o (newO (aqP a) x) = (er, ys) by rw [hy]; exact hr)
  rw [hr] at HPL HMEM
  have hyl := hyS.len
  have hyb := hyS.big
  have HYL := hide hyl
  have h9' : ¬ (9999 : Int) < a.nx := h9
  have H9 := hide (show ¬ (9999 : Int) < (aqP a).nx from h9)
  have HYV := hide (show odV y = .agg #[.int .i64 a.nx, .int .i64 x.rcd, .int .i64 x.ven, .int .i64 x.cop, .int .i64 x.pri, .int .i64 0, .int .i64 0, .int .i64 0, .int .i64 1, .slice x.shA x.shn x.shc] by rw [← hy]; rfl)
  have ew : IntKind.i64.wrap (a.nx + 1) = a.nx + 1 := by rw [IntKind.wrap_i64]; omega
  have Y4 := hide (Box.new (((w.alloc (.cells (aqC a) 27)).alloc (.cells (odC x) 35)).alloc (.cells (aqC aq0) 27)) 35 (odC y))
  have B4 := hide (B0.out.alloc (by simp; omega) (.cells (odC y) 35))
  have X4 := hide (X0.out.alloc (.cells (odC y) 35))
  have R4 := hide (R0.out.alloc (.cells (odC y) 35))
  rw [HYC.out] at Y4 B4 X4 R4
  have HP4 := hide (HPL.out _ B4.out)
  rw [HYV.out] at HP4
  simp only [World.size_alloc] at Y4
  clear hs hx hm hr hy hyS hyf hyl h9
  go_enter Tryz.func19, Tryz.ntmps19
  go_wp2_with fail
  refine HP4.out.mono ?_
  rintro e w1 ⟨A1, n1, c1, rfl, hsl, hb⟩
  have B1 := hide (B4.out.trans (hb.mono B4.out.size))
  have X1 := hide (X4.out.below hb X4.out.lt)
  have R1 := hide (R4.out.below hb R4.out.lt)
  have Y1 := hide (Y4.out.below hb Y4.out.lt)
  rw [← HYC.out] at Y1
  have HSL := hide hsl
  clear hsl hb HP4 HPL B4 X4 R4 Y4
  by_cases hz : (er != 0) = true
  · have HR := hide (show ordA (aqP a) x = (er, pa0) by
      rw [ordA_bad (a := aqP a) (by have h := H9.out; omega) (by rw [HR0.out]; simpa using hz), HR0.out])
    have hze : er ≠ 0 := by simpa using hz
    have r0 := R1.out.cell 0
    have r1 := R1.out.cell 1
    have r2 := R1.out.cell 2
    have r3 := R1.out.cell 3
    have r4 := R1.out.cell 4
    have r5 := R1.out.cell 5
    simp [aq0] at r0 r1 r2 r3 r4 r5
    have hlr := R1.out.lt
    have fr := fun j => R1.out.frz j
    go_wp2
    refine bodyPost_ret (v := .tuple #[aqV aq0, .int .i64 0, .int .i64 er]) (by simp [results, Tryz.results19, go_sem, World.cell?_alloc_lt, hlr, r0, r1, r2, r3, r4, r5, aqV, aq0]) rfl ?_
    rw [HR.out]
    exact resB_err (by assumption) (below_aq B1.out (by omega) _ _ _ _ _ _)
  have hz' : (er != 0) = false := by simpa using hz
  have h0 : er = 0 := by simpa using hz
  subst h0
  obtain ⟨hyv, hym⟩ := HVY.out rfl
  have HYV2 := hide hyv
  have HYM := hide hym
  have y9 := Y1.out.cell 9
  simp at y9
  have Z1 := hide (Below.refl w1.heap.size w1)
  clear hz hyv hym HVY
  go_wp2
  clear y9 hz'
  go_loopw [46] (fun s46 wr => ∃ k : Nat, k ≤ y.shn ∧ s46 = .int .i64 k ∧ (∀ u ∈ y.sh.take k, shHas a.f u = true) ∧ Below w1.heap.size w1 wr) (fun s46 _ => y.shn - (intOf s46).toNat)
  case atStart => exact ⟨0, Nat.zero_le _, rfl, by simp, Z1.out⟩
  case round =>
    clear Z1
    obtain ⟨k, hk, rfl, ha, hb⟩ := hrel
    have HAK := hide ha
    have Z1 := hide hb
    have B2 := hide (B1.out.trans (hb.mono B1.out.size))
    have X2 := hide (X1.out.below hb X1.out.lt)
    have R2 := hide (R1.out.below hb R1.out.lt)
    have Y2 := hide (Y1.out.below hb Y1.out.lt)
    clear ha hb
    by_cases hlt : k < y.shn
    · have hkz : (k : Int) < (y.shn : Int) := by omega
      obtain ⟨b, off, s, hA, hbB, hsx, c0, c1'⟩ := Shs_at (HYS.out.below B2.out) hlt
      have HSX := hide hsx
      rw [hA]
      have B3 := hide (B2.out.alloc B2.out.size (.cells (shC s) 86))
      have R3 := hide (R2.out.alloc (.cells (shC s) 86))
      have Z3 := hide (Z1.out.alloc Z1.out.size (.cells (shC s) 86))
      have HG := hide (pget_any a.fA a.fn a.fc a.f s.fund _ ((HS.out.f.below B3.out).more B3.out.size))
      have HSH := hide (show shHas a.f s = (getF a.f s.fund).2 from rfl)
      obtain ⟨gf, gb, hg⟩ : ∃ gf gb, getF a.f s.fund = (gf, gb) := ⟨_, _, rfl⟩
      rw [hg] at HG HSH
      unfold fuV at HG
      have x1 := X2.out.cell 1
      simp at x1
      have xl := X2.out.lt
      have xx1 := fun o => (World.cell?_alloc_lt wr o ⟨w.heap.size, 1, none⟩ (by exact xl)).trans x1
      clear hsx hA hg x1
      go_wp2_with fail
      refine HG.out.mono ?_
      rintro e w2 ⟨rfl, hb⟩
      have B4 := hide (B3.out.trans (hb.mono B3.out.size))
      have R4 := hide (R3.out.below hb R3.out.lt)
      have Z4 := hide (Z3.out.trans (hb.mono Z3.out.size))
      clear hb HG xx1 c0 c1' B3 R3 Z3
      cases gb with
      | false =>
        have HR := hide (show ordA (aqP a) x = (9, pa0) from ordA_none (a := aqP a) (by have h := H9.out; omega) (by rw [HR0.out]) (by
          rw [← HYF.out.2.2.2.2.2.2.2.2.2.2.2.2]
          exact allT_false HSX.out HSH.out))
        have r0 := R4.out.cell 0
        have r1 := R4.out.cell 1
        have r2 := R4.out.cell 2
        have r3 := R4.out.cell 3
        have r4 := R4.out.cell 4
        have r5 := R4.out.cell 5
        simp [aq0] at r0 r1 r2 r3 r4 r5
        have hlr := R4.out.lt
        have fr := fun j => R4.out.frz j
        go_wp2
        refine bodyPost_ret (v := .tuple #[aqV aq0, .int .i64 0, .int .i64 9]) (by simp [results, Tryz.results19, go_sem, World.cell?_alloc_lt, hlr, r0, r1, r2, r3, r4, r5, aqV, aq0]) rfl ?_
        rw [HR.out]
        exact resB_err (by decide) ((below_aq B4.out (by omega) _ _ _ _ _ _).alloc (by simpa using B4.out.size) _)
      | true =>
        have HN := hide (allT_step HSX.out HAK.out HSH.out)
        go_wp2
        go_roundw
        case rel => exact ⟨k + 1, by omega, by go_num, HN.out, Z4.out.alloc Z4.out.size _⟩
        case measure => simp [intOf]; omega
    · have hkz : ¬ (k : Int) < (y.shn : Int) := by omega
      have HALL := hide (show x.sh.all (shHas a.f) = true by
        rw [← HYF.out.2.2.2.2.2.2.2.2.2.2.2.2, List.all_eq_true]
        intro u hu
        exact HAK.out u (by rwa [List.take_of_length_le (by have := HYL.out; omega)]))
      have x0 := X2.out.cell 0
      have x1 := X2.out.cell 1
      have x2 := X2.out.cell 2
      have x3 := X2.out.cell 3
      have x4 := X2.out.cell 4
      have x5 := X2.out.cell 5
      simp [aq0] at x0 x1 x2 x3 x4 x5
      obtain ⟨W3, hW3⟩ : ∃ W3, W3 = wr := ⟨_, rfl⟩
      rw [← hW3] at B2 X2 R2 Y2 Z1 x0 x1 x2 x3 x4 x5 ⊢
      have ZW := Z1
      clear hW3 Z1 HAK
      go_wp2_with fail
      obtain ⟨W5, hW5⟩ : ∃ W5, W5 = W3.alloc (.cells #[.int .i64 a.yr, .slice a.fA a.fn a.fc, .slice A1 n1 c1, .slice a.bA a.bn a.bc, .slice a.sA a.sn a.sc, .int .i64 (a.nx + 1)] 27) := ⟨_, rfl⟩
      have T5 := hide (Box.new W3 27 #[.int .i64 a.yr, .slice a.fA a.fn a.fc, .slice A1 n1 c1, .slice a.bA a.bn a.bc, .slice a.sA a.sn a.sc, .int .i64 (a.nx + 1)])
      have B5 := hide (B2.out.alloc B2.out.size (.cells #[.int .i64 a.yr, .slice a.fA a.fn a.fc, .slice A1 n1 c1, .slice a.bA a.bn a.bc, .slice a.sA a.sn a.sc, .int .i64 (a.nx + 1)] 27))
      have Z5 := hide ((Below.refl W3.heap.size W3).alloc (Nat.le_refl _) (.cells #[.int .i64 a.yr, .slice a.fA a.fn a.fc, .slice A1 n1 c1, .slice a.bA a.bn a.bc, .slice a.sA a.sn a.sc, .int .i64 (a.nx + 1)] 27))
      have Y5 := hide (Y2.out.alloc (.cells #[.int .i64 a.yr, .slice a.fA a.fn a.fc, .slice A1 n1 c1, .slice a.bA a.bn a.bc, .slice a.sA a.sn a.sc, .int .i64 (a.nx + 1)] 27))
      rw [← hW5] at T5 B5 Z5 Y5 ⊢
      clear hW5 x0 x1 x2 x3 x4 x5 hkz
      have y0 := Y5.out.cell 0
      have y1 := Y5.out.cell 1
      have y2 := Y5.out.cell 2
      have y3 := Y5.out.cell 3
      have y4 := Y5.out.cell 4
      have y5 := Y5.out.cell 5
      have y6 := Y5.out.cell 6
      have y7 := Y5.out.cell 7
      have y8 := Y5.out.cell 8
      have y9 := Y5.out.cell 9
      simp [aq0] at y0 y1 y2 y3 y4 y5 y6 y7 y8 y9
      have ylt := Y5.out.lt
      obtain ⟨rv, hrv⟩ : ∃ rv, resvO y = rv := ⟨_, rfl⟩
      have HRS := hide (fun W => oresv_any y W (.inl HYM.out))
      have HPT := hide (fun W (h : Hid (Below W5.heap.size W5 W)) => aparts_any y rv W ((HYS.out.below (B5.out.trans (h.out.mono B5.out.size))).more (B5.out.trans (h.out.mono B5.out.size)).size) HYV2.out)
      rw [hrv] at HRS
      have HRV := hide hrv
      unfold odV at HRS HPT
      have H0 := hide (Below.refl W5.heap.size W5).drew
      have HKS := hide (fun W (h : Hid (Below W5.heap.size W5 W)) => (And.intro h (And.intro ((h.out.cell (p := ⟨w.heap.size + 1 + 1 + 1, 0, none⟩) ylt).trans y0) (And.intro ((h.out.cell (p := ⟨w.heap.size + 1 + 1 + 1, 1, none⟩) ylt).trans y1) (And.intro ((h.out.cell (p := ⟨w.heap.size + 1 + 1 + 1, 2, none⟩) ylt).trans y2) (And.intro ((h.out.cell (p := ⟨w.heap.size + 1 + 1 + 1, 3, none⟩) ylt).trans y3) (And.intro ((h.out.cell (p := ⟨w.heap.size + 1 + 1 + 1, 4, none⟩) ylt).trans y4) (And.intro ((h.out.cell (p := ⟨w.heap.size + 1 + 1 + 1, 5, none⟩) ylt).trans y5) (And.intro ((h.out.cell (p := ⟨w.heap.size + 1 + 1 + 1, 6, none⟩) ylt).trans y6) (And.intro ((h.out.cell (p := ⟨w.heap.size + 1 + 1 + 1, 7, none⟩) ylt).trans y7) (And.intro ((h.out.cell (p := ⟨w.heap.size + 1 + 1 + 1, 8, none⟩) ylt).trans y8) ((h.out.cell (p := ⟨w.heap.size + 1 + 1 + 1, 9, none⟩) ylt).trans y9))))))))))))
      clear hrv
      go_region_held3 (fun w' => Hid (Below W5.heap.size W5 w') ∧ w'.cell? ⟨w.heap.size + 1 + 1 + 1, 0, none⟩ = some (.int .i64 y.id) ∧ w'.cell? ⟨w.heap.size + 1 + 1 + 1, 1, none⟩ = some (.int .i64 y.rcd) ∧ w'.cell? ⟨w.heap.size + 1 + 1 + 1, 2, none⟩ = some (.int .i64 y.ven) ∧ w'.cell? ⟨w.heap.size + 1 + 1 + 1, 3, none⟩ = some (.int .i64 y.cop) ∧ w'.cell? ⟨w.heap.size + 1 + 1 + 1, 4, none⟩ = some (.int .i64 y.pri) ∧ w'.cell? ⟨w.heap.size + 1 + 1 + 1, 5, none⟩ = some (.int .i64 y.rcv) ∧ w'.cell? ⟨w.heap.size + 1 + 1 + 1, 6, none⟩ = some (.int .i64 y.bil) ∧ w'.cell? ⟨w.heap.size + 1 + 1 + 1, 7, none⟩ = some (.int .i64 y.paid) ∧ w'.cell? ⟨w.heap.size + 1 + 1 + 1, 8, none⟩ = some (.int .i64 y.st) ∧ w'.cell? ⟨w.heap.size + 1 + 1 + 1, 9, none⟩ = some (.slice y.shA y.shn y.shc))
        (first | with_reducible exact HKS.out _ H0 | with_reducible exact HKS.out _ hS1 | with_reducible exact HKS.out _ hS2)
        (first
          | (go_at_call 29; with_reducible refine (HRS.out _).mono ?_; rintro e w3 ⟨rfl, hb3⟩; have hS1 := hbel_call H0 hb3)
          | (go_at_call 62; with_reducible refine (HPT.out _ hS1).mono ?_; rintro e w4 ⟨g, rfl, hg, hM, hb4⟩; have hS2 := hbel_call hS1 hb4; have HM2 := hide hM))
      have B7 := hide (B5.out.trans (hS2.out.mono B5.out.size))
      have T7 := hide (T5.out.below hS2.out T5.out.lt)
      have Z7 := hide (Z5.out.trans (hS2.out.mono Z5.out.size))
      have hg5 : W5.heap.size ≤ g := by have h1 := hS1.out.size; omega
      have hWz : W3.heap.size < W5.heap.size := T5.out.lt
      have y9' := (Y2.out.below Z7.out Y2.out.lt).cell 9
      simp at y9'
      clear HKS H0 hS1 hS2 hM hb3 hb4 hg y0 y1 y2 y3 y4 y5 y6 y7 y8 y9 ylt HRS HPT B5 T5 Z5 Y5
      go_wp2
      clear y9'
      go_loopw [76] (fun s76 wr => ∃ (k : Nat) (A : Option Addr) (c : Nat) (fs : List Fu), k ≤ y.shn ∧ s76 = .int .i64 k ∧ encL (fun id => partO y rv id) y.sh a.f = encL (fun id => partO y rv id) (y.sh.drop k) fs ∧ fs.length = a.fn ∧ (∀ f ∈ fs, FuM f) ∧ Below W3.heap.size W3 wr ∧ W5.heap.size ≤ wr.heap.size ∧ Box wr W3.heap.size 27 #[.int .i64 a.yr, .slice A a.fn c, .slice A1 n1 c1, .slice a.bA a.bn a.bc, .slice a.sA a.sn a.sc, .int .i64 (a.nx + 1)] ∧ MapI Tryz.prog 3 wr g 4 (.int .i64 0) (fun id => .int .i64 (partO y rv id)) ∧ Fs wr wr.heap.size A a.fn c fs) (fun s76 _ => y.shn - (intOf s76).toNat)
      case atStart => exact ⟨0, a.fA, a.fc, a.f, Nat.zero_le _, rfl, rfl, HS.out.f.len, HM.out, Z7.out, by have := B7.out.size; have := HM2.out.lt; omega, T7.out, HM2.out, (HS.out.f.below B7.out).more B7.out.size⟩
      case round =>
        clear T7 Z7 B7 HM2
        obtain ⟨k, A, c, fs, hk, rfl, ha, hfl, hfm, hb, hz5, hT, hM, hF⟩ := hrel
        have HAK := hide ha
        have HFM := hide hfm
        have HFL := hide hfl
        have Z7 := hide hb
        have T7 := hide hT
        have HM2 := hide hM
        have HF := hide hF
        have B7 := hide (B2.out.trans (hb.mono B2.out.size))
        have R7 := hide (R2.out.below hb R2.out.lt)
        have Y7 := hide (Y2.out.below hb Y2.out.lt)
        clear ha hfl hfm hb hT hM hF
        by_cases hlt : k < y.shn
        · have hkz : (k : Int) < (y.shn : Int) := by omega
          obtain ⟨b, off, s, hA, hbB, hsx, c0, c1'⟩ := Shs_at (HYS.out.below B7.out) hlt
          have HSX := hide hsx
          rw [hA]
          have hid := shsOk_ids _ _ (sharesV_ok HYV2.out) s (List.mem_of_getElem? hsx)
          have HWF := hide (wf64 (show I64 s.fund by unfold I64; omega))
          have B8 := hide (B7.out.alloc B7.out.size (.cells (shC s) 86))
          have R8 := hide (R7.out.alloc (.cells (shC s) 86))
          have T8 := hide (T7.out.alloc (.cells (shC s) 86))
          have M8 := hide (HM2.out.alloc (.cells (shC s) 86))
          have Z8 := hide (Z7.out.alloc Z7.out.size (.cells (shC s) 86))
          have hlk := M8.out.lookup (t := 89) (e := 3) Tryz.underlying3 Tryz.underlying89 (zero_int' _) HWF.out
          have HE := hide (penc_any A a.fn c fs s.fund (partO y rv s.fund) _ (Sl.more (B' := (wr.alloc (.cells (shC s) 86)).heap.size) (HF.out.alloc (Nat.le_refl _) (.cells (shC s) 86)) (by simp)) hn HFM.out)
          have HST := hide (encL_step (am := fun id => partO y rv id) (fs := fs) HSX.out)
          have HCM := hide (fun h => chR_encM (am := partO y rv s.fund) (id := s.fund) HFM.out h)
          obtain ⟨pa, hpa⟩ : ∃ pa, partO y rv s.fund = pa := ⟨_, rfl⟩
          simp only [hpa] at hlk HE HST HCM
          have HCL := hide (show (chR (encF pa) fs s.fund).2.length ≤ 1000 from Nat.le_trans chR_len (by rw [HFL.out]; exact hn))
          obtain ⟨ee, zs, hcr⟩ : ∃ ee zs, chR (encF pa) fs s.fund = (ee, zs) := ⟨_, _, rfl⟩
          rw [hcr] at HE HST HCM HCL
          have t1 := T7.out.cell 1
          simp at t1
          have tl := T7.out.lt
          have tt1 := fun o => (World.cell?_alloc_lt wr o ⟨W3.heap.size, 1, none⟩ (by exact tl)).trans t1
          clear hsx hA hid hpa hcr t1
          go_wp2_with fail
          refine HE.out.mono ?_
          rintro e w5 ⟨v, rfl, ho, hb⟩
          obtain ⟨A9, c9, hv, hsl⟩ := Fo_sl ho (by show zs.length ≤ _; have := HCL.out; omega)
          obtain ⟨m9, hm9⟩ : ∃ m9, zs.length = m9 := ⟨_, rfl⟩
          replace hv : v = .slice A9 zs.length c9 := hv
          replace hsl : Fs w5 w5.heap.size A9 zs.length c9 zs := hsl
          rw [hm9] at hv hsl
          subst hv
          have HSL9 := hide hsl
          have HM9 := hide hm9
          have B9 := hide (B8.out.trans (hb.mono B8.out.size))
          have R9 := hide (R8.out.below hb R8.out.lt)
          have T9 := hide (T8.out.below hb T8.out.lt)
          have M9 := hide (M8.out.below hb M8.out.lt)
          have Z9 := hide (Z8.out.trans (hb.mono Z8.out.size))
          have hz9 := hb.size
          rw [World.size_alloc] at hz9
          clear hlk HE tt1 c0 c1' ho hb hsl hm9 B8 R8 T8 M8 Z8
          by_cases he : (ee != 0) = true
          · have hee : ee ≠ 0 := by simpa using he
            have HR := hide (show ordA (aqP a) x = (ee, pa0) by
              rw [ordA_go (a := aqP a) (x := x) (ys := ys) (er := ee) (fs := []) (by have h := H9.out; omega) HR0.out HALL.out (by
                rw [HYE.out, HRV.out, ← HYF.out.2.2.2.2.2.2.2.2.2.2.2.2]
                show encL (fun id => partO y rv id) y.sh a.f = _
                rw [HAK.out, HST.out, if_neg hee]), if_neg hee])
            have r0 := R9.out.cell 0
            have r1 := R9.out.cell 1
            have r2 := R9.out.cell 2
            have r3 := R9.out.cell 3
            have r4 := R9.out.cell 4
            have r5 := R9.out.cell 5
            simp [aq0] at r0 r1 r2 r3 r4 r5
            have hlr := R9.out.lt
            have fr := fun j => R9.out.frz j
            go_wp2
            refine bodyPost_ret (v := .tuple #[aqV aq0, .int .i64 0, .int .i64 ee]) (by simp [results, Tryz.results19, go_sem, World.cell?_alloc_lt, hlr, r0, r1, r2, r3, r4, r5, aqV, aq0]) rfl ?_
            rw [HR.out]
            exact resB_err (by assumption) (below_aq B9.out (by omega) _ _ _ _ _ _)
          have he' : (ee != 0) = false := by simpa using he
          have hee : ee = 0 := by simpa using he
          subst hee
          have HN := hide (show encL (fun id => partO y rv id) y.sh a.f = encL (fun id => partO y rv id) (y.sh.drop (k + 1)) zs by rw [HAK.out, HST.out, if_pos rfl])
          obtain ⟨hzm, hzl⟩ := HCM.out rfl
          have HZM := hide hzm
          have hml : m9 = a.fn := by rw [← HM9.out, ← HFL.out]; exact hzl
          subst hml
          have t1 := T9.out.cell 1
          have tf := T9.out.frz 1
          simp at t1
          have hgW : g ≠ W3.heap.size := by omega
          clear he hzm hzl
          go_wp2
          go_roundw
          case rel => exact ⟨k + 1, A9, c9, zs, by omega, by go_num, HN.out, HM9.out, HZM.out, Z9.out.setCell (Nat.le_refl _) _, by (rw [World.size_setCell]; omega), T9.out.set_ 1 _, M9.out.setCell hgW _, (HSL9.out.far (p := ⟨W3.heap.size, 1, none⟩) (HSL9.out.notAt T9.out (aq_noFu { a with fA := A, fc := c, oA := A1, on := n1, oc := c1, nx := a.nx + 1 })) _).more (by simp)⟩
          case measure => simp [intOf]; omega
        · have hkz : ¬ (k : Int) < (y.shn : Int) := by omega
          have HR := hide (show ordA (aqP a) x = (0, { aqP a with f := fs, o := ys, nx := a.nx + 1 }) by
            rw [ordA_go (a := aqP a) (x := x) (ys := ys) (er := 0) (fs := fs) (by have h := H9.out; omega) HR0.out HALL.out (by
              rw [HYE.out, HRV.out, ← HYF.out.2.2.2.2.2.2.2.2.2.2.2.2]
              show encL (fun id => partO y rv id) y.sh a.f = _
              rw [HAK.out, encL_end (by have := HYL.out; omega)]), if_pos rfl]
            rfl)
          have r0 := R7.out.cell 0
          have r1 := R7.out.cell 1
          have r2 := R7.out.cell 2
          have r3 := R7.out.cell 3
          have r4 := R7.out.cell 4
          have r5 := R7.out.cell 5
          simp [aq0] at r0 r1 r2 r3 r4 r5
          have t0 := T7.out.cell 0
          have t1 := T7.out.cell 1
          have t2 := T7.out.cell 2
          have t3 := T7.out.cell 3
          have t4 := T7.out.cell 4
          have t5 := T7.out.cell 5
          simp [aq0] at t0 t1 t2 t3 t4 t5
          have y0 : wr.cell? ⟨w.heap.size + 1 + 1 + 1, 0, none⟩ = some (.int .i64 a.nx) := by rw [← HYF.out.1]; exact Y7.out.cell 0
          have fr := fun j => R7.out.frz j
          go_wp2_with fail
          go_big_region
          all_goals
            go_wp2
            refine bodyPost_ret (v := .tuple #[aqV { a with fA := A, fc := c, f := fs, oA := A1, on := n1, oc := c1, o := ys, nx := a.nx + 1 }, .int .i64 a.nx, .int .i64 0]) (by simp [results, Tryz.results19, go_sem, r0, r1, r2, r3, r4, r5, aqV]) rfl ?_
            rw [HR.out]
            have hB := below_aq B7.out (show w.heap.size ≤ w.heap.size + 1 + 1 by omega) (.int .i64 a.yr) (.slice A a.fn c) (.slice A1 n1 c1) (.slice a.bA a.bn a.bc) (.slice a.sA a.sn a.sc) (.int .i64 (a.nx + 1))
            have hZ := ZW.out.trans (Z7.out.mono ZW.out.size)
            have h0 : AqS wr wr.heap.size { a with fA := A, fc := c, f := fs, oA := A1, on := n1, oc := c1, o := ys, nx := a.nx + 1 } := ⟨HF.out, (HSL.out.below hZ).more hZ.size, fun u hu => by
              rcases HMEM.out u hu with hu | rfl
              · exact ((HS.out.os u hu).below B7.out).more B7.out.size
              · exact (HYS.out.below B7.out).more B7.out.size, (HS.out.b.below B7.out).more B7.out.size, (HS.out.s.below B7.out).more B7.out.size, fun u hu => ((HS.out.ss u hu).below B7.out).more B7.out.size⟩
            have h1 := AqS.put (w0 := w) h0 R7.out (fun u hu => HS.out.ss u hu) (.int .i64 a.yr) (.slice A a.fn c) (.slice A1 n1 c1) (.slice a.bA a.bn a.bc) (.slice a.sA a.sn a.sc) (.int .i64 (a.nx + 1)) hB
            exact ⟨_, by simp, h1.below (Below.refl _ _).drew, rfl, hB.drew⟩
end Go.Proofs.YtbhndfphegflhaaGreat
