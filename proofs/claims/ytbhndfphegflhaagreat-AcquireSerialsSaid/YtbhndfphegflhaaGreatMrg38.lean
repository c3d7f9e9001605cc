/- Texts laid together by merge.py: AqJ. -/
import Derived.Test.YtbhndfphegflhaaGreatMrg36
set_option linter.unusedSimpArgs false
set_option linter.unusedVariables false
/- Walks: same, billsValid of the program. Printed by gen_aq_j.py. -/
namespace Go.Proofs.YtbhndfphegflhaaGreat
open Go.RowKit Go.Maps

set_option maxRecDepth 100000 in
theorem psame_any (x y : Bl) (w : World) : Calls Tryz.prog 73 #[blV x, blV y] w fun e w' => e = .returned (.bool (samB x y)) ∧ Below w.heap.size w w' := by
  have B0 := hide (((Below.refl w.heap.size w).alloc (Nat.le_refl _) (.cells (blC x) 43)).alloc (by simp) (.cells (blC y) 43))
  unfold blV
  have HR := hide (show samB x y = ((x.ven == y.ven) && (x.num == y.num)) by unfold samB; rw [Bool.beq_comm (a := y.ven), Bool.beq_comm (a := y.num)])
  cases h1 : (x.ven == y.ven) with
  | false =>
    have HR2 := hide (show samB x y = false by rw [HR.out, h1]; rfl)
    go_enter Tryz.func73, Tryz.ntmps73
    go_wp2
    go_ret
    exact ⟨ret_bool HR2.out.symm, B0.out⟩
  | true =>
    have HR2 := hide (show samB x y = (x.num == y.num) by rw [HR.out, h1]; rfl)
    go_enter Tryz.func73, Tryz.ntmps73
    go_wp2
    go_ret
    exact ⟨ret_bool HR2.out.symm, B0.out⟩
set_option maxRecDepth 100000 in
theorem bv1_any (c b : Bl) (g : Nat) (w : World) (hb : Box w g 43 (blC b)) : Calls Tryz.prog 109 #[blV c, .pointer (some ⟨g, 0, none⟩)] w fun e w' => e = .returned (.bool (samB b c)) ∧ Below w.heap.size w w' := by
  have B0 := hide ((Below.refl w.heap.size w).alloc (Nat.le_refl _) (.cells (blC c) 43))
  have hb2 := hb.alloc (.cells (blC c) 43)
  have q0 := hb2.cell 0
  have q1 := hb2.cell 1
  have q2 := hb2.cell 2
  have q3 := hb2.cell 3
  have q4 := hb2.cell 4
  simp at q0 q1 q2 q3 q4
  have HS := hide (psame_any b c (w.alloc (.cells (blC c) 43)))
  clear hb hb2
  unfold blV at HS ⊢
  go_enter Tryz.func109, Tryz.ntmps109
  go_wp2_with fail
  refine HS.out.mono ?_
  rintro e w1 ⟨rfl, hb⟩
  have B1 := hide (B0.out.trans (hb.mono B0.out.size))
  clear hb HS
  go_wp2
  go_ret
  exact ⟨rfl, B1.out⟩
theorem e_bv1 : ∀ args w, (callFunc 109 args).run Tryz.prog w = .ok (.enter 109 args) w := enters_of Tryz.func109 (by kernel_rfl) rfl
set_option maxRecDepth 100000 in
theorem bi1_any (c b : Bl) (g : Nat) (w : World) (hb : Box w g 43 (blC b)) : Calls Tryz.prog 72 #[blV c, .pointer (some ⟨g, 0, none⟩)] w fun e w' => e = .returned (.bool (samB b c)) ∧ Below w.heap.size w w' := by
  have B0 := hide ((Below.refl w.heap.size w).alloc (Nat.le_refl _) (.cells (blC c) 43))
  have hb2 := hb.alloc (.cells (blC c) 43)
  have q0 := hb2.cell 0
  have q1 := hb2.cell 1
  have q2 := hb2.cell 2
  have q3 := hb2.cell 3
  have q4 := hb2.cell 4
  simp at q0 q1 q2 q3 q4
  have HS := hide (psame_any b c (w.alloc (.cells (blC c) 43)))
  clear hb hb2
  unfold blV at HS ⊢
  go_enter Tryz.func72, Tryz.ntmps72
  go_wp2_with fail
  refine HS.out.mono ?_
  rintro e w1 ⟨rfl, hb⟩
  have B1 := hide (B0.out.trans (hb.mono B0.out.size))
  clear hb HS
  go_wp2
  go_ret
  exact ⟨rfl, B1.out⟩
theorem e_bi1 : ∀ args w, (callFunc 72 args).run Tryz.prog w = .ok (.enter 72 args) w := enters_of Tryz.func72 (by kernel_rfl) rfl

/-! ### the plain part -/
def okBlP (os : List Od) (P : List Bl) (b : Bl) : Bool :=
  (getO os b.ord).2 && ((getO os b.ord).1.ven == b.ven) && winB b.cop 1 (getO os b.ord).1.cop && winB b.amt 1 100000000 && winB b.num 1 99999 && !(P.any (samB b))
def okBlsP (os : List Od) : List Bl → List Bl → Bool
  | _, [] => true
  | P, b :: r => okBlP os P b && okBlsP os (P ++ [b]) r
theorem okBlsP_step {os : List Od} {bs : List Bl} {k : Nat} {b : Bl} (h : bs[k]? = some b) : okBlsP os (bs.take k) (bs.drop k) = (okBlP os (bs.take k) b && okBlsP os (bs.take (k + 1)) (bs.drop (k + 1))) := by
  rw [take_step h]
  obtain ⟨hk, rfl⟩ := List.getElem?_eq_some_iff.1 h
  rw [List.drop_eq_getElem_cons hk, okBlsP]
def okBillsP (os : List Od) (bs : List Bl) : Bool := decide (bs.length ≤ 128) && okBlsP os [] bs && os.all (okOB bs)
theorem okBlP_split {os : List Od} {P : List Bl} {b : Bl} {o : Od} {g : Bool} (h : getO os b.ord = (o, g)) :
    okBlP os P b = (g && (o.ven == b.ven) && (decide (1 ≤ b.cop) && decide (b.cop ≤ o.cop)) && (decide (1 ≤ b.amt) && decide (b.amt ≤ 100000000)) && (decide (1 ≤ b.num) && decide (b.num ≤ 99999)) && !(P.any (samB b))) := by
  unfold okBlP; rw [h]; rfl
theorem any_ix {α : Type} (p : α → Bool) (xs : List α) : decide (0 ≤ ix p xs) = xs.any p := by
  rcases ix_cases p xs with ⟨h1, h2⟩ | ⟨i, x, h1, h2, h3, _⟩
  · rw [h1, show xs.any p = false from List.any_eq_false.2 (fun x hx => by rw [h2 x hx]; decide)]; rfl
  · rw [h1, show xs.any p = true from List.any_eq_true.2 ⟨x, List.mem_of_getElem? h2, h3⟩]; simp
theorem blM_step {xs : List Bl} {k : Nat} {x : Bl} (h : xs[k]? = some x) (ha : ∀ u ∈ xs.take k, BlM u) (hz : BlM x) : ∀ u ∈ xs.take (k + 1), BlM u := by
  intro u hu
  rw [take_step h] at hu
  rcases List.mem_append.1 hu with hu | hu
  · exact ha u hu
  · rw [List.mem_singleton.1 hu]; exact hz

set_option maxRecDepth 100000 in
set_option maxHeartbeats 16000000 in
theorem pbills_any (a : Aq) (w : World) (ho : Ods w w.heap.size a.oA a.on a.oc a.o) (hbs : Bls w w.heap.size a.bA a.bn a.bc a.b) (hv : VldO a.o) :
    Calls Tryz.prog 54 #[aqV a] w fun e w' => e = .returned (.bool (okBillsP a.o a.b)) ∧ Below w.heap.size w w' := by
  have B0 := hide ((Below.refl w.heap.size w).alloc (Nat.le_refl _) (.cells (aqC a) 27))
  have X0 := hide (Box.new w 27 (aqC a))
  have hl1 := ho.len
  have hl2 := hbs.len
  have hb1 := ho.big
  have hb2 := hbs.big
  have hbc := hbs.le
  have HO := hide ho
  have HB := hide hbs
  have HV := hide hv
  clear ho hbs hv
  have HL1 := hide hl1
  have HL2 := hide hl2
  have hmm := @run_makeMap Tryz.prog
  unfold aqV
  by_cases h128 : 128 < a.bn
  · have HR := hide (show okBillsP a.o a.b = false by unfold okBillsP; rw [show decide (a.b.length ≤ 128) = false by rw [decide_eq_false_iff_not]; omega]; rfl)
    have hz : (128 : Int) < (a.bn : Int) := by omega
    clear hl1 hl2
    go_enter Tryz.func54, Tryz.ntmps54
    go_wp2
    go_ret
    exact ⟨ret_bool HR.out.symm, B0.out⟩
  have hz : ¬ (128 : Int) < (a.bn : Int) := by omega
  have h128' : a.bn ≤ 128 := by omega
  have HK := hide (show okBillsP a.o a.b = (okBlsP a.o [] a.b && a.o.all (okOB a.b)) by unfold okBillsP; rw [show decide (a.b.length ≤ 128) = true by rw [decide_eq_true_eq]; omega]; rfl)
  have Z0 := hide (((Below.refl (w.heap.size + 1) (w.alloc (.cells (aqC a) 27))).alloc (by simp) (.map #[] 0)).alloc (by simp) (.map #[] 0))
  have M0 := hide ((MapI.made Tryz.prog 3 (w.alloc (.cells (aqC a) 27)) (.int .i64 0)).alloc (.map #[] 0))
  have N0 := hide (MapI.made Tryz.prog 3 ((w.alloc (.cells (aqC a) 27)).alloc (.map #[] 0)) (.int .i64 0))
  rw [World.size_alloc] at M0
  rw [World.size_alloc, World.size_alloc] at N0
  clear h128 hl1 hl2
  go_enter Tryz.func54, Tryz.ntmps54
  go_wp2
  clear hz
  go_loopw [20] (fun s20 wr => ∃ k : Nat, k ≤ a.bn ∧ s20 = .int .i64 k ∧ okBlsP a.o [] a.b = okBlsP a.o (a.b.take k) (a.b.drop k) ∧ (∀ u ∈ a.b.take k, BlM u) ∧ Below (w.heap.size + 1) (w.alloc (.cells (aqC a) 27)) wr ∧ w.heap.size + 3 ≤ wr.heap.size ∧ MapI Tryz.prog 3 wr (w.heap.size + 1) k (.int .i64 0) (fun y => .int .i64 (sumB (·.cop) (a.b.take k) y)) ∧ MapI Tryz.prog 3 wr (w.heap.size + 1 + 1) k (.int .i64 0) (fun y => .int .i64 (sumB (·.amt) (a.b.take k) y))) (fun s20 _ => a.bn - (intOf s20).toNat)
  case atStart => exact ⟨0, Nat.zero_le _, rfl, rfl, by simp, Z0.out, by simp, M0.out, N0.out⟩
  case round =>
    obtain ⟨k, hk, rfl, ha, hbm, hb, hz1, hm, hn⟩ := hrel
    have HAK := hide ha
    have HBM := hide hbm
    have Z1 := hide hb
    have HM := hide hm
    have HN := hide hn
    have X1 := hide (X0.out.below hb (by omega))
    have B1 := hide (B0.out.trans (hb.mono (by omega)))
    have q2 := X1.out.cell 2
    have q3 := X1.out.cell 3
    simp at q2 q3
    clear ha hb hm hn hbm
    by_cases hlt : k < a.bn
    · have hkz : (k : Int) < (a.bn : Int) := by omega
      obtain ⟨b, off, x, hA, hbB, hx, c0, c1, c2, c3, c4⟩ := Bls_at (HB.out.below B1.out) hlt
      rw [hA]
      have HA := hide hA
      have HST := hide (show okBlsP a.o [] a.b = (okBlP a.o (a.b.take k) x && okBlsP a.o (a.b.take (k + 1)) (a.b.drop (k + 1))) by rw [HAK.out, okBlsP_step hx])
      have HG := hide (fun W (hW : Below w.heap.size w W) => oget_any a.oA a.on a.oc a.o x.ord W ((HO.out.below hW).more hW.size))
      obtain ⟨o, g, hog⟩ : ∃ o g, getO a.o x.ord = (o, g) := ⟨_, _, rfl⟩
      have HBL := hide (okBlP_split (P := a.b.take k) hog)
      have HOG := hide hog
      rw [hog] at HG
      have B2 := hide (B1.out.alloc B1.out.size (.cells (blC x) 43))
      have Z2 := hide (Z1.out.alloc (Nat.le_trans (by omega) hz1) (.cells (blC x) 43))
      have Y2 := hide (Box.new wr 43 (blC x))
      have HM2 := hide (HM.out.alloc (.cells (blC x) 43))
      have HN2 := hide (HN.out.alloc (.cells (blC x) 43))
      have hgl := Y2.out.lt
      have HG2 := hide (HG.out _ B2.out)
      have a2 := fun o => (World.cell?_alloc_lt wr o ⟨w.heap.size, 2, none⟩ (by show w.heap.size < _; omega)).trans q2
      have HXX := hide hx
      unfold odV at HG2
      clear hx hog HG hA q2 q3
      go_wp2_with fail
      refine HG2.out.mono ?_
      rintro e w2 ⟨rfl, hb⟩
      have B3 := hide (B2.out.trans (hb.mono B2.out.size))
      have Z3 := hide (Z2.out.trans (hb.mono (Nat.le_trans (show w.heap.size + 1 ≤ wr.heap.size by omega) (by simp))))
      have X3 := hide (X0.out.below Z3.out (by omega))
      have Y3 := hide (Y2.out.below hb Y2.out.lt)
      have HM3 := hide (HM2.out.below hb (by simp; omega))
      have HN3 := hide (HN2.out.below hb (by simp; omega))
      have hz3 : w.heap.size + 3 ≤ w2.heap.size := Nat.le_trans hz1 (Nat.le_trans (by simp) hb.size)
      have l0 := Y3.out.cell 0
      have l1 := Y3.out.cell 1
      have l2 := Y3.out.cell 2
      have l3 := Y3.out.cell 3
      have l4 := Y3.out.cell 4
      simp at l0 l1 l2 l3 l4
      have hlty := Y3.out.lt
      have p0 := fun o => (World.cell?_alloc_lt w2 o _ (by exact hlty)).trans l0
      have p1 := fun o => (World.cell?_alloc_lt w2 o _ (by exact hlty)).trans l1
      have p3 := fun o => (World.cell?_alloc_lt w2 o _ (by exact hlty)).trans l3
      have p4 := fun o => (World.cell?_alloc_lt w2 o _ (by exact hlty)).trans l4
      clear hb HG2 c0 c1 c2 c3 c4 a2 B2 Z2 Y2 hgl Z1 B1 X1 HM2 HN2 HM HN l2
      cases g with
      | false =>
        have HR := hide (show okBillsP a.o a.b = false by rw [HK.out, HST.out, HBL.out]; rfl)
        clear HL1 HL2
        go_wp2
        go_ret
        exact ⟨ret_bool HR.out.symm, B3.out.alloc B3.out.size _⟩
      | true =>
        by_cases hP : o.ven = x.ven ∧ 1 ≤ x.cop ∧ x.cop ≤ o.cop ∧ 1 ≤ x.amt ∧ x.amt ≤ 100000000 ∧ 1 ≤ x.num ∧ x.num ≤ 99999
        · have hid : o ∈ a.o ∧ o.id = x.ord := by
            rcases getO_cases a.o x.ord with ⟨_, h2, _⟩ | ⟨i, y, _, h2, h3, h4, _⟩
            · rw [HOG.out] at h2; cases h2
            · rw [HOG.out] at h4; cases h4; exact ⟨List.mem_of_getElem? h2, h3⟩
          have hMo := HV.out.M o hid.1
          have HID := hide hid.2
          have hoid := hMo.id
          have hocop := hMo.cop
          have HWF := hide (wf64 (show I64 o.id by unfold I64; omega))
          have HBT := hide (show okBlP a.o (a.b.take k) x = !((a.b.take k).any (samB x)) by
            rw [HBL.out]
            obtain ⟨e1, e2, e3, e4, e5, e6, e7⟩ := hP
            simp [e1, e2, e3, e4, e5, e6, e7])
          obtain ⟨e1, e2, e3, e4, e5, e6, e7⟩ := hP
          have HMX := hide (show BlM x from ⟨⟨e2, by omega⟩, ⟨e4, e5⟩⟩)
          have e1' : (o.ven != x.ven) = false := by simpa using e1
          have B4 := hide (B3.out.alloc B3.out.size (.cells (odC o) 35))
          have Z4 := hide (Z3.out.alloc (show w.heap.size + 1 ≤ w2.heap.size by omega) (.cells (odC o) 35))
          have Y4 := hide (Y3.out.alloc (.cells (odC o) 35))
          have HM4 := hide (HM3.out.alloc (.cells (odC o) 35))
          have HN4 := hide (HN3.out.alloc (.cells (odC o) 35))
          have V4 := hide (Box.new w2 35 (odC o))
          have X4 := hide (X3.out.alloc (.cells (odC o) 35))
          have q3 := X4.out.cell 3
          simp at q3
          rw [HA.out] at q3
          clear e1 hid hMo
          have hkc : k ≤ a.bc := by omega
          have hbc0 : ¬ a.bc = 0 := by omega
          have HCF := bl_containsFunc 109 #[.pointer (some ⟨wr.heap.size, 0, none⟩)] (fun c => samB x c) e_bv1 a.bA k a.bc (a.b.take k) _ (((HB.out.below B4.out).more B4.out.size).take (by omega)) (fun W c _ hW => bv1_any c x wr.heap.size W (Y4.out.below hW Y4.out.lt))
          rw [any_ix, HA.out] at HCF
          have HCF := hide HCF
          obtain ⟨sb, hsb⟩ : ∃ sb, (a.b.take k).any (fun c => samB x c) = sb := ⟨_, rfl⟩
          rw [hsb] at HCF HBT
          clear hsb
          go_wp2_with fail
          refine HCF.out.mono ?_
          rintro e w5 ⟨rfl, hb⟩
          have B5 := hide (B4.out.trans (hb.mono B4.out.size))
          have Z5 := hide (Z4.out.trans (hb.mono (Nat.le_trans (show w.heap.size + 1 ≤ w2.heap.size by omega) (by simp))))
          have HM5 := hide (HM4.out.below hb (by simp; omega))
          have HN5 := hide (HN4.out.below hb (by simp; omega))
          have Y5 := hide (Y4.out.below hb Y4.out.lt)
          have V5 := hide (V4.out.below hb V4.out.lt)
          have hz5 : w.heap.size + 3 ≤ w5.heap.size := Nat.le_trans hz3 (Nat.le_trans (by simp) hb.size)
          clear hb HCF B4 Z4 HM4 HN4 Y4 V4 X4 q3 p0 p1 p3 p4 l0 l1 l3 l4 B3 Z3 HM3 HN3 Y3 X3
          cases sb with
          | true =>
            have HR := hide (show okBillsP a.o a.b = false by rw [HK.out, HST.out, HBT.out]; rfl)
            clear HL1 HL2
            go_wp2
            go_ret
            exact ⟨ret_bool HR.out.symm, B5.out⟩
          | false =>
            have HN1 := hide (show okBlsP a.o [] a.b = okBlsP a.o (a.b.take (k + 1)) (a.b.drop (k + 1)) by rw [HST.out, HBT.out]; rfl)
            have HBM2 := hide (blM_step HXX.out HBM.out HMX.out)
            have HTC := hide (fun y => show sumB (·.cop) (a.b.take (k + 1)) y = sumB (·.cop) (a.b.take k) y + (if x.ord = y then x.cop else 0) by rw [take_step HXX.out, sumB_snoc])
            have HTA := hide (fun y => show sumB (·.amt) (a.b.take (k + 1)) y = sumB (·.amt) (a.b.take k) y + (if x.ord = y then x.amt else 0) by rw [take_step HXX.out, sumB_snoc])
            have hsc := sumB_bd (·.cop) (a.b.take k) o.id (fun u hu => (HBM.out u hu).cop)
            have hsa := sumB_bd (·.amt) (a.b.take k) o.id (fun u hu => (HBM.out u hu).amt)
            rw [List.length_take] at hsc hsa
            have hmi : min k a.b.length ≤ 128 := by have := HL2.out; omega
            have HWC := hide (show IntKind.i64.wrap (sumB (·.cop) (a.b.take k) o.id + x.cop) = sumB (·.cop) (a.b.take k) o.id + x.cop by rw [IntKind.wrap_i64]; omega)
            have HWA := hide (show IntKind.i64.wrap (sumB (·.amt) (a.b.take k) o.id + x.amt) = sumB (·.amt) (a.b.take k) o.id + x.amt by rw [IntKind.wrap_i64]; omega)
            obtain ⟨sc, hsc0⟩ : ∃ sc, sumB (·.cop) (a.b.take k) o.id = sc := ⟨_, rfl⟩
            obtain ⟨sa, hsa0⟩ : ∃ sa, sumB (·.amt) (a.b.take k) o.id = sa := ⟨_, rfl⟩
            have hlk := HM5.out.lookup (t := 89) (e := 3) Tryz.underlying3 Tryz.underlying89 (zero_int' _) HWF.out
            have ec := HWC.out
            simp only [hsc0] at hlk ec
            have HSC := hide hsc0
            have HSA := hide hsa0
            have l3 := Y5.out.cell 3
            have v0 := V5.out.cell 0
            simp at l3 v0
            clear hsc0 hsa0 hsc hsa hmi HBT HST HAK HWC
            go_wp2_with (at_mapUpdate; go_must (refine wpList_updateI _ rfl _ _ _ 89 rfl 3 3 Tryz.underlying3 Tryz.underlying89 (.int .i64 0) (w.heap.size + 1) k _ rfl HM5.out (by unfold maxLen; omega) _ _ rfl rfl HWF.out ?_))
            intro w6 hm6 hg6
            have HM6 := hide hm6
            have B6 := hide (B5.out.grown hg6 B5.out.size (fun j hj => by cases hj; omega))
            have Z6 := hide (Z5.out.grown hg6 (by omega) (fun j hj => by cases hj; omega))
            have hz6 : w.heap.size + 3 ≤ w6.heap.size := Nat.le_trans hz5 hg6.size
            have HN6 := hide (HN5.out.kept hg6 (by simp))
            have l4 := cell_kept (show w5.cell? ⟨wr.heap.size, 4, none⟩ = some (.int .i64 x.amt) from Y5.out.cell 4) hg6 HM5.out.isMap
            have v0' := cell_kept v0 hg6 HM5.out.isMap
            have hlk2 := HN6.out.lookup (t := 89) (e := 3) Tryz.underlying3 Tryz.underlying89 (zero_int' _) HWF.out
            have ea := HWA.out
            simp only [HSA.out] at hlk2 ea
            clear hlk ec l3 v0 hm6 hg6 HM5 HN5 B5 Z5 HWA
            go_wp2_with (at_mapUpdate; go_must (refine wpList_updateI _ rfl _ _ _ 89 rfl 3 3 Tryz.underlying3 Tryz.underlying89 (.int .i64 0) (w.heap.size + 1 + 1) k _ rfl HN6.out (by unfold maxLen; omega) _ _ rfl rfl HWF.out ?_))
            intro w7 hm7 hg7
            have HN7 := hide hm7
            have B7 := hide (B6.out.grown hg7 B6.out.size (fun j hj => by cases hj; omega))
            have Z7 := hide (Z6.out.grown hg7 (by omega) (fun j hj => by cases hj; omega))
            have hz7 : w.heap.size + 3 ≤ w7.heap.size := Nat.le_trans hz6 hg7.size
            have HM7 := hide (HM6.out.kept hg7 (by simp))
            clear hlk2 ea l4 v0' hm7 hg7 HM6 HN6 B6 Z6
            go_wp2
            go_roundw
            case rel =>
              refine ⟨k + 1, by omega, by go_num, HN1.out, HBM2.out, Z7.out, hz7, HM7.out.congr (fun y _ => ?_), HN7.out.congr (fun y _ => ?_)⟩
              · rw [HTC.out, HID.out]
                by_cases e : y = x.ord
                · rw [if_pos e.symm, if_pos e, ← HSC.out, HID.out, e]
                · rw [if_neg (fun h => e h.symm), if_neg e, Int.add_zero]
              · rw [HTA.out, HID.out]
                by_cases e : y = x.ord
                · rw [if_pos e.symm, if_pos e, ← HSA.out, HID.out, e]
                · rw [if_neg (fun h => e h.symm), if_neg e, Int.add_zero]
            case measure => simp [intOf]; omega
        · have HR := hide (show okBillsP a.o a.b = false by
            rw [HK.out, HST.out, HBL.out]
            by_cases e1 : o.ven = x.ven
            · by_cases e2 : 1 ≤ x.cop ∧ x.cop ≤ o.cop
              · by_cases e3 : 1 ≤ x.amt ∧ x.amt ≤ 100000000
                · have e4 : ¬ (1 ≤ x.num ∧ x.num ≤ 99999) := fun h => hP ⟨e1, e2.1, e2.2, e3.1, e3.2, h.1, h.2⟩
                  have e5 : (decide (1 ≤ x.num) && decide (x.num ≤ 99999)) = false := by simp; omega
                  rw [e5]; simp
                · have e5 : (decide (1 ≤ x.amt) && decide (x.amt ≤ 100000000)) = false := by simp; omega
                  rw [e5]; simp
              · have e5 : (decide (1 ≤ x.cop) && decide (x.cop ≤ o.cop)) = false := by simp; omega
                rw [e5]; simp
            · rw [show (o.ven == x.ven) = false by simpa using e1]; simp)
          clear HL1 HL2
          go_wp2
          all_goals first | (exfalso; omega) | (go_ret; exact ⟨ret_bool HR.out.symm, B3.out.alloc B3.out.size _⟩) | (exfalso; (try simp only [beq_eq_false_iff_ne, bne_eq_false_iff_eq, beq_iff_eq, bne_iff_ne, ne_eq] at *); omega)
    · have hkz : ¬ (k : Int) < (a.bn : Int) := by omega
      have HK2 := hide (show okBillsP a.o a.b = a.o.all (okOB a.b) by rw [HK.out, HAK.out, List.drop_of_length_le (by have := HL2.out; omega), okBlsP]; rfl)
      have HT := hide (show a.b.take k = a.b from List.take_of_length_le (by have := HL2.out; omega))
      rw [HT.out] at HM HN
      have hbal := sumB_bd (·.cop) a.b
      clear q3
      go_wp2
      clear q2 hkz hlt X1 B1 hz1 HAK HBM hbal
      go_loopw [98] (fun s98 wr => ∃ j : Nat, j ≤ a.on ∧ s98 = .int .i64 j ∧ (∀ u ∈ a.o.take j, okOB a.b u = true) ∧ Below (w.heap.size + 1) (w.alloc (.cells (aqC a) 27)) wr ∧ MapI Tryz.prog 3 wr (w.heap.size + 1) k (.int .i64 0) (fun y => .int .i64 (sumB (·.cop) a.b y)) ∧ MapI Tryz.prog 3 wr (w.heap.size + 1 + 1) k (.int .i64 0) (fun y => .int .i64 (sumB (·.amt) a.b y))) (fun s98 _ => a.on - (intOf s98).toNat)
      case atStart => exact ⟨0, Nat.zero_le _, rfl, by simp, Z1.out, HM.out, HN.out⟩
      case round =>
        clear Z1 HM HN
        obtain ⟨j, hj, rfl, ha, hb, hm, hn⟩ := hrel
        have HAJ := hide ha
        have Z1 := hide hb
        have hz1 : w.heap.size + 1 ≤ wr.heap.size := by have := hb.size; simpa using this
        have HM := hide hm
        have HN := hide hn
        have B1 := hide (B0.out.trans (hb.mono (by omega)))
        clear ha hb hm hn
        by_cases hlt : j < a.on
        · have hjz : (j : Int) < (a.on : Int) := by omega
          obtain ⟨b, off, x, hA, hbB, hx, c0, c1, c2, c3, c4, c5, c6, c7, c8, c9⟩ := Ods_at (HO.out.below B1.out) hlt
          have HX := hide hx
          have HWF := hide (wf64 (show I64 x.id by have := (HV.out.M x (List.mem_of_getElem? hx)).id; unfold I64; omega))
          have hlk := (HM.out.alloc (.cells (odC x) 35)).lookup (t := 89) (e := 3) Tryz.underlying3 Tryz.underlying89 (zero_int' _) HWF.out
          have hlk2 := (HN.out.alloc (.cells (odC x) 35)).lookup (t := 89) (e := 3) Tryz.underlying3 Tryz.underlying89 (zero_int' _) HWF.out
          have HOB := hide (show okOB a.b x = ((sumB (·.cop) a.b x.id == x.bil) && (sumB (·.amt) a.b x.id == x.paid)) from rfl)
          obtain ⟨sc, hsc⟩ : ∃ sc, sumB (·.cop) a.b x.id = sc := ⟨_, rfl⟩
          obtain ⟨sa, hsa⟩ : ∃ sa, sumB (·.amt) a.b x.id = sa := ⟨_, rfl⟩
          simp only [hsc] at hlk
          simp only [hsa] at hlk2
          rw [hsc, hsa] at HOB
          rw [hA]
          clear hx hsc hsa hA
          by_cases hc : x.bil = sc
          · have hc' : (x.bil != sc) = false := by simpa using hc
            by_cases hd : x.paid = sa
            · have hd' : (x.paid != sa) = false := by simpa using hd
              have HN2 := hide (okOB_step HX.out HAJ.out (by rw [HOB.out, hc, hd]; simp))
              clear hc hd
              go_wp2
              go_roundw
              case rel => exact ⟨j + 1, by omega, by go_num, HN2.out, Z1.out.alloc hz1 _, HM.out.alloc _, HN.out.alloc _⟩
              case measure => simp [intOf]; omega
            · have hd' : (x.paid != sa) = true := by simpa using hd
              have HR := hide (show okBillsP a.o a.b = false by
                rw [HK2.out, allT_false HX.out (show okOB a.b x = false by rw [HOB.out, show (sa == x.paid) = false by simpa using fun h => hd h.symm]; simp)])
              clear hc hd
              go_wp2
              go_ret
              exact ⟨ret_bool HR.out.symm, B1.out.alloc B1.out.size _⟩
          · have hc' : (x.bil != sc) = true := by simpa using hc
            have HR := hide (show okBillsP a.o a.b = false by
              rw [HK2.out, allT_false HX.out (show okOB a.b x = false by rw [HOB.out, show (sc == x.bil) = false by simpa using fun h => hc h.symm]; simp)])
            clear hc
            go_wp2
            go_ret
            exact ⟨ret_bool HR.out.symm, B1.out.alloc B1.out.size _⟩
        · have hjz : ¬ (j : Int) < (a.on : Int) := by omega
          have HR := hide (show okBillsP a.o a.b = true by
            rw [HK2.out, List.all_eq_true]
            intro u hu
            exact HAJ.out u (by rwa [List.take_of_length_le (by have := HL1.out; omega)]))
          go_wp2
          go_ret
          exact ⟨ret_bool HR.out.symm, B1.out⟩
end Go.Proofs.YtbhndfphegflhaaGreat
