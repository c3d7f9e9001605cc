/- Texts laid together by merge.py: AqX. -/
import Derived.Test.YtbhndfphegflhaaGreatMrg27
import Derived.Test.YtbhndfphegflhaaGreatMrg21
import Derived.Test.YtbhndfphegflhaaGreatMrg14
import Derived.Test.YtbhndfphegflhaaGreatMrg1
set_option linter.unusedSimpArgs false
set_option linter.unusedVariables false
/- Walks: settled of the reference. Printed by gen_aq_x.py. -/
namespace Go.Proofs.YtbhndfphegflhaaGreat
open Go.RowKit

theorem own_far {w : World} {base : Nat} {t : TypeId} {k n : Nat} {v : Value} {ys : List Value} (h : w.ownsRow base t k v n ys) {p : Addr} (hp : v.ownBlock ≠ some p.block) (u : Value) : (w.setCell p u).ownsRow base t k v n ys := by
  refine ⟨h.1, ?_⟩
  rcases h.2 with hn | ⟨g, cap, cur, rfl, hb, hB, h4⟩
  · exact .inl hn
  · refine .inr ⟨g, cap, cur, rfl, hb, ?_, h4⟩
    exact Box.far (g := g) hB (fun e => hp (by simp [Value.ownBlock, e])) u
/-- The ways through a piece of code meet again: one frame, worlds that R tells of. -/
theorem wp_meet {P : Program} {c : Code} {Q : Exit → Act → World → Prop} {a : Act} {w : World} (A : Act) (R : World → Prop) (h : ∀ w', R w' → Q .normal A w') (hr : c.wp P (fun e a' w' => e = .normal ∧ a' = A ∧ R w') a w) : c.wp P Q a w :=
  Code.wp_mono (fun e a' w' hq => by obtain ⟨rfl, rfl, h1⟩ := hq; exact h w' h1) hr
theorem keys_mem {xs ys : List Fu} (h : keys xs = keys ys) {id : Int} : (getF ys id).2 = (getF xs id).2 := (getF_keys h id).1.symm
theorem keys_dif {xs ys : List Fu} (h : keys xs = keys ys) (hd : Dif xs) : Dif ys := by
  unfold Dif at hd ⊢
  have e : ∀ zs : List Fu, zs.Pairwise (fun a b => a.id < b.id) ↔ (keys zs).Pairwise (fun a b => a.1 < b.1) := fun zs => by
    unfold keys; rw [List.pairwise_map]
  rw [e] at hd ⊢
  rw [← h]; exact hd
theorem dif_ne {xs : List Fu} (hd : Dif xs) {i j : Nat} {x y : Fu} (hx : xs[i]? = some x) (hy : xs[j]? = some y) (hij : i ≠ j) : x.id ≠ y.id := by
  unfold Dif at hd
  rw [List.pairwise_iff_getElem] at hd
  obtain ⟨hi, rfl⟩ := List.getElem?_eq_some_iff.1 hx
  obtain ⟨hj, rfl⟩ := List.getElem?_eq_some_iff.1 hy
  rcases Nat.lt_or_gt_of_ne hij with h | h
  · have := hd i j hi hj h; omega
  · have := hd j i hj hi h; omega

theorem stlF_ok' {de ds : Int} {x : Fu} (h : (stlF de ds x).1 = 0) : (stlF de ds x).2 = { x with enc := x.enc + de, spent := x.spent + ds } := by
  unfold stlF at h ⊢
  split
  · rename_i h1; rw [if_pos h1] at h; simp at h
  · rename_i h1
    rw [if_neg h1] at h
    split
    · rename_i h2; rw [if_pos h2] at h; simp at h
    · rfl

set_option maxRecDepth 100000 in
set_option maxHeartbeats 16000000 in
theorem rsettled_any (A : Option Addr) (n c : Nat) (fs : List Fu) (x y : Od) (am : Int) (w : World) (hs : Fs w w.heap.size A n c fs) (hn : n ≤ 1000) (hd : Dif fs) (hm : ∀ f ∈ fs, FuM f) (hx : OdS w w.heap.size x) (hy : OdS w w.heap.size y) (hxv : sharesV x.sh = true) (hyv : sharesV y.sh = true) (hxm : OdM x) (hym : OdM y) (hhas : y.sh.all (shHas fs) = true) :
    Calls Tryz.prog 78 #[.slice A n c, odV x, odV y, .int .i64 am] w fun e w' => ∃ v, e = .returned (.tuple #[v, .int .i64 (stlA fs x y am).1]) ∧ Fo w' w.heap.size v (stlA fs x y am).2 ∧ Below w.heap.size w w' := by
  obtain rfl := hs.len
  obtain ⟨i0, hi0, hz0, hz1, hz2⟩ := info_parts fu_info
  have HI := hide (And.intro hi0 (And.intro hz0 (And.intro hz1 hz2)))
  have hle := hs.le
  have hbig := hs.big
  have B0 := hide (((Below.refl w.heap.size w).alloc (Nat.le_refl _) (.cells (odC x) 35)).alloc (by simp) (.cells (odC y) 35))
  have U0 := hide ((Box.new w 35 (odC x)).alloc (.cells (odC y) 35))
  have V0 := hide (Box.new (w.alloc (.cells (odC x) 35)) 35 (odC y))
  simp only [World.size_alloc] at V0
  have HS := hide hs
  have HM := hide hm
  have HRX := hide (fun W => rresv_any x W hxm)
  have HRY := hide (fun W => rresv_any y W hym)
  have HPX := hide (fun t id W (hW : Below w.heap.size w W) => rpart_any x t id W ((hx.below hW).more hW.size) hxv)
  have HPY := hide (fun t id W (hW : Below w.heap.size w W) => rpart_any y t id W ((hy.below hW).more hW.size) hyv)
  have HYS := hide hy
  have HXV := hide hxv
  have HYV := hide hyv
  have hylen := hy.len
  have hybig := hy.big
  have HYL := hide hylen
  obtain ⟨rx, hrx⟩ : ∃ r, resvO x = r := ⟨_, rfl⟩
  obtain ⟨ry, hry⟩ : ∃ r, resvO y = r := ⟨_, rfl⟩
  have HST := hide (show stlA fs x y am = stlL (fun id => partO y ry id - partO x rx id) (fun id => partO y am id) y.sh fs by unfold stlA; rw [hrx, hry])
  rw [hrx] at HRX
  rw [hry] at HRY
  have HHAS := hide (fun s (hs : s ∈ y.sh) => (show (getF fs s.fund).2 = true from List.all_eq_true.1 hhas s hs))
  have HD := hide hd
  clear hrx hry hs hm hx hy hxv hyv hxm hym hylen hhas hd hi0 hz0 hz1 hz2
  unfold odV at HRX HRY HPX HPY ⊢
  go_enter Tryz.func78, Tryz.ntmps78
  go_wp2
  obtain ⟨W0, hW0⟩ : ∃ W0, W0 = (w.alloc (.cells (odC x) 35)).alloc (.cells (odC y) 35) := ⟨_, rfl⟩
  rw [← hW0] at B0 U0 V0 ⊢
  clear hW0
  have hzw : w.heap.size + 1 + 1 ≤ W0.heap.size := V0.out.lt
  have Z0 := hide (Below.refl (w.heap.size + 1 + 1) W0)
  generalize (Value.agg #[.int .i64 x.id, .int .i64 x.rcd, .int .i64 x.ven, .int .i64 x.cop, .int .i64 x.pri, .int .i64 x.rcv, .int .i64 x.bil, .int .i64 x.paid, .int .i64 x.st, .slice x.shA x.shn x.shc]) = vx
  generalize (Value.agg #[.int .i64 y.id, .int .i64 y.rcd, .int .i64 y.ven, .int .i64 y.cop, .int .i64 y.pri, .int .i64 y.rcv, .int .i64 y.bil, .int .i64 y.paid, .int .i64 y.st, .slice y.shA y.shn y.shc]) = vy
  go_loopw [10, 11] (fun v s11 wr => ∃ k : Nat, k ≤ fs.length ∧ s11 = .int .i64 k ∧ Fo wr (w.heap.size + 1 + 1) v (fs.take k) ∧ Below (w.heap.size + 1 + 1) W0 wr) (fun _ s11 _ => fs.length - (intOf s11).toNat)
  case atStart => exact ⟨0, Nat.zero_le _, rfl, World.ownsRow_nil _ _ _ _, Z0.out⟩
  case round =>
    clear Z0
    obtain ⟨k, hk, rfl, ho, hb⟩ := hrel
    have HO := hide ho
    have HB := hide hb
    have hzr : w.heap.size + 1 + 1 ≤ wr.heap.size := Nat.le_trans hzw hb.size
    have BW := hide (B0.out.trans (hb.mono (by omega)))
    clear ho hb
    by_cases hlt : k < fs.length
    · have hkz : (k : Int) < (fs.length : Int) := by omega
      obtain ⟨b, off, f, hA, hbB, hf, c0, c1, c2, c3, c4⟩ := Fs_at (HS.out.below BW.out) hlt
      rw [hA]
      have HTK := hide (take_step hf)
      have hlen : (fs.take k).length = k := by rw [List.length_take]; omega
      have HLEN := hide hlen
      have HO2 := hide (show ∀ o, (wr.alloc o).ownsRow (w.heap.size + 1 + 1) 57 5 u10 (fs.take k).length ((fs.take k).flatMap fuE) from fun o => HO.out.alloc o)
      clear hf hlen hA
      go_wp2_with (at_builtin; go_must (refine wpList_append_sl _ rfl _ _ 22 rfl (w.heap.size + 1 + 1) 57 i0 _ 40 Tryz.underlying22 HI.out.1 HI.out.2.1 HI.out.2.2.1 HI.out.2.2.2 rfl (by decide) fuE_len fuE_one _ _ _ rfl (HO2.out _) _ 1 1 rfl (fu_sl1 (x := f) (Box.new _ _ _)) (by rw [HLEN.out]; unfold maxLen; omega) (by rw [HLEN.out]; omega) (by first | (simp; omega) | (simp; done) | omega) ?_))
      intro v' w1 hown hg hat
      have H1 := hide hown
      have H2 := hide ((HB.out.alloc (by simpa using hzr) _).grown hg (by first | (simp; omega) | omega) (by intro q hq; exact (HO.out.lt q hq).1))
      clear hown hg hat
      go_wp2
      go_roundw
      case rel =>
        refine ⟨k + 1, by omega, by go_num, ?_, H2.out⟩
        unfold Fo
        rw [HTK.out, List.flatMap_append, List.length_append]
        have h1 := H1.out
        simpa [HLEN.out] using h1
      case measure => simp [intOf]; omega
    · have hkz : ¬ (k : Int) < (fs.length : Int) := by omega
      have hkk : fs.take k = fs := List.take_of_length_le (by omega)
      have ho := HO.out
      rw [hkk] at ho
      have U1 := hide (U0.out.below HB.out (by omega))
      have V1 := hide (V0.out.below HB.out (by omega))
      obtain ⟨W1, hW1⟩ : ∃ W1, W1 = wr := ⟨_, rfl⟩
      have HO1 := hide ho
      have B1 := BW
      rw [← hW1] at HO1 U1 V1 B1 hzr ⊢
      clear hkk ho hW1 HO HB BW U0 V0 B0 hzw hk hlt
      -- the row
      have hfn : fs.length ≠ 0 := by
        intro h0
        obtain ⟨s, hs⟩ : ∃ s, s ∈ y.sh := by
          have h := (sharesV_W HYV.out).1.1
          exact ⟨y.sh[0], List.getElem_mem _⟩
        have h1 := HHAS.out s hs
        rw [List.eq_nil_of_length_eq_zero h0] at h1
        cases h1
      obtain ⟨g, cap, hv, hgb, hgl⟩ := HO1.out.form (by omega)
      subst hv
      have hr1 : Rw W1 (w.heap.size + 1 + 1) g fs.length cap fs := ⟨HO1.out, rfl⟩
      have HR1 := hide hr1
      have HK0 := hide (show keys fs = keys fs from rfl)
      obtain ⟨n, hnn⟩ : ∃ n, fs.length = n := ⟨_, rfl⟩
      rw [hnn] at HR1 hn hbig hfn hkz ⊢
      have HN := hide hnn
      clear hr1 hnn HO1 hle
      go_wp2
      clear hkz
      go_loopw [12] (fun s12 wr => ∃ (k : Nat) (ys : List Fu), k ≤ y.shn ∧ s12 = .int .i64 k ∧ stlA fs x y am = stlL (fun id => partO y ry id - partO x rx id) (fun id => partO y am id) (y.sh.drop k) ys ∧ keys fs = keys ys ∧ (∀ f ∈ ys, FuB (100000000 + 1000000000000 * k) f) ∧ Below (w.heap.size + 1 + 1) W1 wr ∧ Rw wr (w.heap.size + 1 + 1) g n cap ys) (fun s12 _ => y.shn - (intOf s12).toNat)
      case atStart => exact ⟨0, fs, Nat.zero_le _, rfl, HST.out, rfl, fun f hf => (HM.out f hf).bd, Below.refl _ _, HR1.out⟩
      case round =>
        obtain ⟨k, ys, hk, rfl, ha, hky, hbd, hb, hr⟩ := hrel
        have HAK := hide ha
        have HKY := hide hky
        have HYB := hide hbd
        have HB := hide hb
        have HR := hide hr
        have hzk : w.heap.size + 1 + 1 ≤ wr.heap.size := Nat.le_trans hzr hb.size
        have V2 := hide (V1.out.below hb (by omega))
        have BW := hide (B1.out.trans (hb.mono (by omega)))
        clear ha hky hbd hb hr
        by_cases hlt : k < y.shn
        · have hkz : (k : Int) < (y.shn : Int) := by omega
          obtain ⟨b, off, s, hA, hbB, hsx, c0, c1⟩ := Shs_at (HYS.out.below BW.out) hlt
          have HSX := hide hsx
          have hsm := List.mem_of_getElem? hsx
          have v9 := V2.out.cell 9
          simp at v9
          rw [hA] at v9
          have hgh := HHAS.out s hsm
          rw [← keys_mem HKY.out] at hgh
          rcases at_cases ys s.fund with ⟨_, h2⟩ | ⟨j, f, h1, h2, h3, h4, h5⟩
          · rw [h2] at hgh; cases hgh
          have hjn : j < n := by have := (List.getElem?_eq_some_iff.1 h2).1; have := HR.out.2; omega
          have hdy := keys_dif HKY.out HD.out
          have by1 := partO_bd HYV.out ry s.fund
          have bx1 := partO_bd HXV.out rx s.fund
          have ba1 := partO_bd HYV.out am s.fund
          have hfb := HYB.out f (List.mem_of_getElem? h2)
          have hcr := hide (chR_ok (F := stlF (partO y ry s.fund - partO x rx s.fund) (partO y am s.fund)) h1 h4)
          have hcr2 := hide (chR_err (F := stlF (partO y ry s.fund - partO x rx s.fund) (partO y am s.fund)) h1 h4)
          have HST2 := hide (stlL_step (de := fun id => partO y ry id - partO x rx id) (ds := fun id => partO y am id) (fs := ys) HSX.out)
          have HPXs := hide (fun W hW => HPX.out rx s.fund W hW)
          have HPYs := hide (fun W hW => HPY.out ry s.fund W hW)
          have HPAs := hide (fun W hW => HPY.out am s.fund W hW)
          obtain ⟨px, hpx⟩ : ∃ px, partO x rx s.fund = px := ⟨_, rfl⟩
          obtain ⟨py, hpy⟩ : ∃ py, partO y ry s.fund = py := ⟨_, rfl⟩
          obtain ⟨pa, hpa⟩ : ∃ pa, partO y am s.fund = pa := ⟨_, rfl⟩
          simp only [hpx] at HPXs bx1 hcr hcr2 HST2
          simp only [hpy] at HPYs by1 hcr hcr2 HST2
          simp only [hpa] at HPAs ba1 hcr hcr2 HST2
          have hkb : (k : Int) ≤ 4 := by have := (sharesV_W HYV.out).1.2; have := HYL.out; omega
          obtain ⟨fb1, fb2, fb3⟩ := hfb
          have d2 : IntKind.i64.wrap (f.enc - px) = f.enc - px := by rw [IntKind.wrap_i64]; omega
          have d3 : IntKind.i64.wrap (f.enc - px + py) = f.enc + (py - px) := by rw [IntKind.wrap_i64]; omega
          have d4 : IntKind.i64.wrap (f.spent + pa) = f.spent + pa := by rw [IntKind.wrap_i64]; omega
          have d5 : IntKind.i64.wrap (f.enc + (py - px) + (f.spent + pa)) = f.enc + (py - px) + (f.spent + pa) := by rw [IntKind.wrap_i64]; omega
          have D2 := hide d2
          have D3 := hide d3
          have D4 := hide d4
          have D5 := hide d5
          have HFB := hide (And.intro fb1 (And.intro fb2 (And.intro fb3 (And.intro by1 (And.intro bx1 ba1)))))
          have HJ := hide (And.intro h2 (And.intro h3 h5))
          have HDY := hide hdy
          clear hsx hA hsm hgh hdy h1 h2 h3 h4 h5 hpx hpy hpa d2 d3 d4 d5 fb1 fb2 fb3 by1 bx1 ba1 HPX HPY
          obtain ⟨id, hid⟩ : ∃ id, s.fund = id := ⟨_, rfl⟩
          rw [hid] at c0 HJ HPXs HPYs HPAs
          have HID := hide hid
          clear hid hkb
          go_wp2
          clear v9 c0 c1
          have HZ := hide (Below.refl (w.heap.size + 1 + 1) wr)
          obtain ⟨W2, hW2⟩ : ∃ W2, W2 = wr := ⟨_, rfl⟩
          rw [← hW2] at HR HB V2 BW hzk HZ ⊢
          clear hW2
          go_loopw [14] (fun s14 wr => ∃ (i : Nat) (zs : List Fu), i ≤ n ∧ s14 = .int .i64 i ∧ (i ≤ j ∧ zs = ys ∨ j < i ∧ (stlF (py - px) pa f).1 = 0 ∧ zs = ys.set j (stlF (py - px) pa f).2) ∧ Below (w.heap.size + 1 + 1) W2 wr ∧ Rw wr (w.heap.size + 1 + 1) g n cap zs) (fun s14 _ => n - (intOf s14).toNat)
          case atStart => exact ⟨0, ys, Nat.zero_le _, rfl, .inl ⟨Nat.zero_le _, rfl⟩, HZ.out, HR.out⟩
          case round =>
            clear HZ HR
            obtain ⟨i, zs, hi, rfl, hzs, hb, hr⟩ := hrel
            have HZS := hide hzs
            have HB2 := hide hb
            have HR := hide hr
            have hzi : w.heap.size + 1 + 1 ≤ wr.heap.size := Nat.le_trans hzk hb.size
            have BW2 := hide (BW.out.trans (hb.mono (by omega)))
            have U3 := hide (U1.out.below (HB.out.trans hb) (by omega))
            have V3 := hide (V2.out.below hb (by omega))
            clear hzs hb hr
            by_cases hlt2 : i < n
            · have hiz : (i : Int) < (n : Int) := by omega
              obtain ⟨z, hz⟩ : ∃ z, zs[i]? = some z := ⟨_, List.getElem?_eq_getElem (by have := HR.out.2; omega)⟩
              obtain ⟨⟨f0, f1, f2, f3, f4⟩, hfz⟩ := Rw_cells HR.out hz
              by_cases hij : i = j
              · have hzy : zs = ys := by
                  rcases HZS.out with ⟨_, h⟩ | ⟨h, _⟩
                  · exact h
                  · omega
                subst hij
                rw [hzy] at hz HR
                have hzf : z = f := by have := HJ.out.1; rw [hz] at this; exact Option.some.inj this
                rw [hzf] at f0 f1 f2 f3 f4
                have hq : (f.id != id) = false := by have := HJ.out.2.1; simpa using this
                clear HZS hzy hzf hz
                go_wp2_with fail
                have hgl2 : g < wr.heap.size := (HR.out.1.lt g rfl).2
                have T3 := hide (Box.new wr 57 (fuC f))
                have HB3 := hide (HB2.out.alloc hzi (.cells (fuC f) 57))
                have BW3 := hide (BW2.out.alloc BW2.out.size (.cells (fuC f) 57))
                have Z3 := hide ((Below.refl wr.heap.size wr).alloc (Nat.le_refl _) (.cells (fuC f) 57))
                have HO3 := hide (HR.out.1.alloc (.cells (fuC f) 57))
                have HYN := hide HR.out.2
                obtain ⟨W3, hW3⟩ : ∃ W3, W3 = wr.alloc (.cells (fuC f) 57) := ⟨_, rfl⟩
                rw [← hW3] at T3 HB3 BW3 Z3 HO3 ⊢
                clear hW3 f0 f1 f2 f3 f4 hfz hq HR
                have u0 := U3.out.cell 0
                have u1 := U3.out.cell 1
                have u2 := U3.out.cell 2
                have u3 := U3.out.cell 3
                have u4 := U3.out.cell 4
                have u5 := U3.out.cell 5
                have u6 := U3.out.cell 6
                have u7 := U3.out.cell 7
                have u8 := U3.out.cell 8
                have u9 := U3.out.cell 9
                have v0 := V3.out.cell 0
                have v1 := V3.out.cell 1
                have v2 := V3.out.cell 2
                have v3 := V3.out.cell 3
                have v4 := V3.out.cell 4
                have v5 := V3.out.cell 5
                have v6 := V3.out.cell 6
                have v7 := V3.out.cell 7
                have v8 := V3.out.cell 8
                have v9 := V3.out.cell 9
                simp at u0 u1 u2 u3 u4 u5 u6 u7 u8 u9 v0 v1 v2 v3 v4 v5 v6 v7 v8 v9
                have ult := U3.out.lt
                have vlt := V3.out.lt
                have tlt := T3.out.lt
                have t3 := T3.out.cell 3
                have t4 := T3.out.cell 4
                simp at t3 t4
                have d2 := D2.out
                have d3 := D3.out
                have d4 := D4.out
                have d5 := D5.out
                have H0 := hide Z3.out.drew
                have K0 := hide (Below.refl W3.heap.size W3).drew
                have HKS := hide (fun W (h : Hid (Below wr.heap.size wr W)) => (And.intro h (And.intro ((h.out.cell (p := ⟨w.heap.size, 0, none⟩) ult).trans u0) (And.intro ((h.out.cell (p := ⟨w.heap.size, 1, none⟩) ult).trans u1) (And.intro ((h.out.cell (p := ⟨w.heap.size, 2, none⟩) ult).trans u2) (And.intro ((h.out.cell (p := ⟨w.heap.size, 3, none⟩) ult).trans u3) (And.intro ((h.out.cell (p := ⟨w.heap.size, 4, none⟩) ult).trans u4) (And.intro ((h.out.cell (p := ⟨w.heap.size, 5, none⟩) ult).trans u5) (And.intro ((h.out.cell (p := ⟨w.heap.size, 6, none⟩) ult).trans u6) (And.intro ((h.out.cell (p := ⟨w.heap.size, 7, none⟩) ult).trans u7) (And.intro ((h.out.cell (p := ⟨w.heap.size, 8, none⟩) ult).trans u8) (And.intro ((h.out.cell (p := ⟨w.heap.size, 9, none⟩) ult).trans u9) (And.intro ((h.out.cell (p := ⟨w.heap.size + 1, 0, none⟩) vlt).trans v0) (And.intro ((h.out.cell (p := ⟨w.heap.size + 1, 1, none⟩) vlt).trans v1) (And.intro ((h.out.cell (p := ⟨w.heap.size + 1, 2, none⟩) vlt).trans v2) (And.intro ((h.out.cell (p := ⟨w.heap.size + 1, 3, none⟩) vlt).trans v3) (And.intro ((h.out.cell (p := ⟨w.heap.size + 1, 4, none⟩) vlt).trans v4) (And.intro ((h.out.cell (p := ⟨w.heap.size + 1, 5, none⟩) vlt).trans v5) (And.intro ((h.out.cell (p := ⟨w.heap.size + 1, 6, none⟩) vlt).trans v6) (And.intro ((h.out.cell (p := ⟨w.heap.size + 1, 7, none⟩) vlt).trans v7) (And.intro ((h.out.cell (p := ⟨w.heap.size + 1, 8, none⟩) vlt).trans v8) ((h.out.cell (p := ⟨w.heap.size + 1, 9, none⟩) vlt).trans v9))))))))))))))))))))))
                have HKT := hide (fun W (h : Hid (Below W3.heap.size W3 W)) => And.intro ((h.out.cell (p := ⟨wr.heap.size, 3, none⟩) tlt).trans t3) ((T3.out.below h.out tlt).frz 3))
                have HPXk := hide (fun W (h : Hid (Below wr.heap.size wr W)) => HPXs.out W (BW2.out.trans (h.out.mono BW2.out.size)))
                have HPYk := hide (fun W (h : Hid (Below wr.heap.size wr W)) => HPYs.out W (BW2.out.trans (h.out.mono BW2.out.size)))
                have HPAk := hide (fun W (h : Hid (Below wr.heap.size wr W)) => HPAs.out W (BW2.out.trans (h.out.mono BW2.out.size)))
                clear u0 u1 u2 u3 u4 u5 u6 u7 u8 u9 v0 v1 v2 v3 v4 v5 v6 v7 v8 v9 t4
                apply wp_meet (R := fun w' => ∃ w9, w' = w9.setCell ⟨wr.heap.size, 3, none⟩ (.int .i64 (f.enc + (py - px))) ∧ Below W3.heap.size W3 w9)
                case hr =>
                  refine wp_region_held_drew (S := fun w' => Hid (Below wr.heap.size wr w') ∧ w'.cell? ⟨w.heap.size, 0, none⟩ = some (.int .i64 x.id) ∧ w'.cell? ⟨w.heap.size, 1, none⟩ = some (.int .i64 x.rcd) ∧ w'.cell? ⟨w.heap.size, 2, none⟩ = some (.int .i64 x.ven) ∧ w'.cell? ⟨w.heap.size, 3, none⟩ = some (.int .i64 x.cop) ∧ w'.cell? ⟨w.heap.size, 4, none⟩ = some (.int .i64 x.pri) ∧ w'.cell? ⟨w.heap.size, 5, none⟩ = some (.int .i64 x.rcv) ∧ w'.cell? ⟨w.heap.size, 6, none⟩ = some (.int .i64 x.bil) ∧ w'.cell? ⟨w.heap.size, 7, none⟩ = some (.int .i64 x.paid) ∧ w'.cell? ⟨w.heap.size, 8, none⟩ = some (.int .i64 x.st) ∧ w'.cell? ⟨w.heap.size, 9, none⟩ = some (.slice x.shA x.shn x.shc) ∧ w'.cell? ⟨w.heap.size + 1, 0, none⟩ = some (.int .i64 y.id) ∧ w'.cell? ⟨w.heap.size + 1, 1, none⟩ = some (.int .i64 y.rcd) ∧ w'.cell? ⟨w.heap.size + 1, 2, none⟩ = some (.int .i64 y.ven) ∧ w'.cell? ⟨w.heap.size + 1, 3, none⟩ = some (.int .i64 y.cop) ∧ w'.cell? ⟨w.heap.size + 1, 4, none⟩ = some (.int .i64 y.pri) ∧ w'.cell? ⟨w.heap.size + 1, 5, none⟩ = some (.int .i64 y.rcv) ∧ w'.cell? ⟨w.heap.size + 1, 6, none⟩ = some (.int .i64 y.bil) ∧ w'.cell? ⟨w.heap.size + 1, 7, none⟩ = some (.int .i64 y.paid) ∧ w'.cell? ⟨w.heap.size + 1, 8, none⟩ = some (.int .i64 y.st) ∧ w'.cell? ⟨w.heap.size + 1, 9, none⟩ = some (.slice y.shA y.shn y.shc)) (by kernel_rfl) (HKS.out _ H0) (fun hHeld => ?_)
                  refine wpAnyH_take (i := 0) (v := ?v1) rfl (by kernel_rfl) (by kernel_rfl) (by kernel_rfl) (fun _ _ _ h => nomatch h.1) (Or.inl ⟨by rfl, ?hy1⟩) (by assumption) ?rest1
                  case hy1 => (intro w' hSw; (try dsimp only at hSw); go_simp; (try with_reducible rfl))
                  try simp only [Act.put, List.setIfInBounds_toArray, List.set_cons_zero, List.set_cons_succ]
                  refine wpAnyH_take (i := 2) (v := ?v2) rfl (by kernel_rfl) (by kernel_rfl) (by kernel_rfl) (fun _ _ _ h => nomatch h.1) (Or.inl ⟨by rfl, ?hy2⟩) (by assumption) ?rest2
                  case hy2 => (intro w' hSw; (try dsimp only at hSw); go_simp; (try with_reducible rfl))
                  try simp only [Act.put, List.setIfInBounds_toArray, List.set_cons_zero, List.set_cons_succ]
                  refine wpAnyH_take (i := 3) (v := ?v3) rfl (by kernel_rfl) (by kernel_rfl) (by kernel_rfl) (fun _ _ _ h => nomatch h.1) (Or.inl ⟨by rfl, ?hy3⟩) (by assumption) ?rest3
                  case hy3 => (intro w' hSw; (try dsimp only at hSw); go_simp; (try with_reducible rfl))
                  try simp only [Act.put, List.setIfInBounds_toArray, List.set_cons_zero, List.set_cons_succ]
                  refine wpAnyH_take (i := 5) (v := ?v4) rfl (by kernel_rfl) (by kernel_rfl) (by kernel_rfl) (fun _ _ _ h => nomatch h.1) (Or.inl ⟨by rfl, ?hy4⟩) (by assumption) ?rest4
                  case hy4 => (intro w' hSw; (try dsimp only at hSw); go_simp; (try with_reducible rfl))
                  try simp only [Act.put, List.setIfInBounds_toArray, List.set_cons_zero, List.set_cons_succ]
                  refine wpAnyH_take (i := 8) (v := ?v5) rfl (by kernel_rfl) (by kernel_rfl) (by kernel_rfl) (fun _ _ _ h => nomatch h.1) (Or.inl ⟨by rfl, ?hy5⟩) (by assumption) ?rest5
                  case hy5 => (intro w' hSw; (try dsimp only at hSw); go_simp; (try with_reducible rfl))
                  try simp only [Act.put, List.setIfInBounds_toArray, List.set_cons_zero, List.set_cons_succ]
                  refine wpAnyH_take (i := 9) (v := ?v6) rfl (by kernel_rfl) (by kernel_rfl) (by kernel_rfl) (fun _ _ _ h => nomatch h.1) (Or.inl ⟨by rfl, ?hy6⟩) (by assumption) ?rest6
                  case hy6 => (intro w' hSw; (try dsimp only at hSw); go_simp; (try with_reducible rfl))
                  try simp only [Act.put, List.setIfInBounds_toArray, List.set_cons_zero, List.set_cons_succ]
                  refine wpAnyH_take (i := 11) (v := ?v7) rfl (by kernel_rfl) (by kernel_rfl) (by kernel_rfl) (fun _ _ _ h => nomatch h.1) (Or.inl ⟨by rfl, ?hy7⟩) (by assumption) ?rest7
                  case hy7 => (intro w' hSw; (try dsimp only at hSw); go_simp; (try with_reducible rfl))
                  try simp only [Act.put, List.setIfInBounds_toArray, List.set_cons_zero, List.set_cons_succ]
                  refine wpAnyH_ready (rs := [1, 4]) (by kernel_rfl) (by simp) ?_
                  refine AllReadyH.cons rfl (fun K hK => ?_) ?_
                  · go_simp
                    refine hK.out _ _ (by first | with_reducible exact HKS.out _ H0 | with_reducible exact HKS.out _ hS1 | with_reducible exact HKS.out _ hS2 | with_reducible exact HKS.out _ hS3 | with_reducible exact HKS.out _ hS4 | with_reducible exact HKS.out _ (hbel_set hS4 (Nat.le_refl _) _)) (fun hHeld8 => ?_)
                    clear hK K
                    try simp only [Act.put, List.setIfInBounds_toArray, List.set_cons_zero, List.set_cons_succ]
                    refine wpAnyH_ready (rs := [4]) (by kernel_rfl) (by simp) ?_
                    refine AllReadyH.cons rfl (fun K hK => ?_) AllReadyH.nil
                    go_simp
                    (go_at_call 67; with_reducible refine (HRX.out _).mono ?_; rintro e w3 ⟨rfl, hb3⟩; have hS1 := hbel_call H0 hb3; have hK1 := hbel_call K0 hb3; obtain ⟨a3, z3⟩ := HKT.out _ hK1)
                    refine hK.out _ _ (by first | with_reducible exact HKS.out _ H0 | with_reducible exact HKS.out _ hS1 | with_reducible exact HKS.out _ hS2 | with_reducible exact HKS.out _ hS3 | with_reducible exact HKS.out _ hS4 | with_reducible exact HKS.out _ (hbel_set hS4 (Nat.le_refl _) _)) (fun hHeld9 => ?_)
                    clear hK K
                    try simp only [Act.put, List.setIfInBounds_toArray, List.set_cons_zero, List.set_cons_succ]
                    refine wpAnyH_ready (rs := [6]) (by kernel_rfl) (by simp) ?_
                    refine AllReadyH.cons rfl (fun K hK => ?_) AllReadyH.nil
                    go_simp
                    (go_at_call 66; with_reducible refine (HPXk.out _ hS1).mono ?_; rintro e w4 ⟨rfl, hb4⟩; have hS2 := hbel_call hS1 hb4; have hK2 := hbel_call hK1 hb4; obtain ⟨a4, z4⟩ := HKT.out _ hK2)
                    refine hK.out _ _ (by first | with_reducible exact HKS.out _ H0 | with_reducible exact HKS.out _ hS1 | with_reducible exact HKS.out _ hS2 | with_reducible exact HKS.out _ hS3 | with_reducible exact HKS.out _ hS4 | with_reducible exact HKS.out _ (hbel_set hS4 (Nat.le_refl _) _)) (fun hHeld10 => ?_)
                    clear hK K
                    try simp only [Act.put, List.setIfInBounds_toArray, List.set_cons_zero, List.set_cons_succ]
                    refine wpAnyH_take (i := 7) (v := ?v11) rfl (by kernel_rfl) (by kernel_rfl) (by kernel_rfl) (fun _ _ _ h => nomatch h.1) (Or.inl ⟨by rfl, ?hy11⟩) (by assumption) ?rest11
                    case hy11 => (intro w' hSw; (try dsimp only at hSw); go_simp; (try with_reducible rfl))
                    try simp only [Act.put, List.setIfInBounds_toArray, List.set_cons_zero, List.set_cons_succ]
                    refine wpAnyH_ready (rs := [10]) (by kernel_rfl) (by simp) ?_
                    refine AllReadyH.cons rfl (fun K hK => ?_) AllReadyH.nil
                    go_simp
                    (go_at_call 67; with_reducible refine (HRY.out _).mono ?_; rintro e w5 ⟨rfl, hb5⟩; have hS3 := hbel_call hS2 hb5; have hK3 := hbel_call hK2 hb5; obtain ⟨a5, z5⟩ := HKT.out _ hK3)
                    refine hK.out _ _ (by first | with_reducible exact HKS.out _ H0 | with_reducible exact HKS.out _ hS1 | with_reducible exact HKS.out _ hS2 | with_reducible exact HKS.out _ hS3 | with_reducible exact HKS.out _ hS4 | with_reducible exact HKS.out _ (hbel_set hS4 (Nat.le_refl _) _)) (fun hHeld12 => ?_)
                    clear hK K
                    try simp only [Act.put, List.setIfInBounds_toArray, List.set_cons_zero, List.set_cons_succ]
                    refine wpAnyH_ready (rs := [12]) (by kernel_rfl) (by simp) ?_
                    refine AllReadyH.cons rfl (fun K hK => ?_) AllReadyH.nil
                    go_simp
                    (go_at_call 66; with_reducible refine (HPYk.out _ hS3).mono ?_; rintro e w6 ⟨rfl, hb6⟩; have hS4 := hbel_call hS3 hb6; have hK4 := hbel_call hK3 hb6; obtain ⟨a6, z6⟩ := HKT.out _ hK4)
                    refine hK.out _ _ (by first | with_reducible exact HKS.out _ H0 | with_reducible exact HKS.out _ hS1 | with_reducible exact HKS.out _ hS2 | with_reducible exact HKS.out _ hS3 | with_reducible exact HKS.out _ hS4 | with_reducible exact HKS.out _ (hbel_set hS4 (Nat.le_refl _) _)) (fun hHeld13 => ?_)
                    clear hK K
                    try simp only [Act.put, List.setIfInBounds_toArray, List.set_cons_zero, List.set_cons_succ]
                    refine wpAnyH_take (i := 13) (v := ?v14) rfl (by kernel_rfl) (by kernel_rfl) (by kernel_rfl) (fun _ _ _ h => nomatch h.1) (Or.inl ⟨by rfl, ?hy14⟩) (by assumption) ?rest14
                    case hy14 => (intro w' hSw; (try dsimp only at hSw); go_simp; (try with_reducible rfl))
                    try simp only [Act.put, List.setIfInBounds_toArray, List.set_cons_zero, List.set_cons_succ]
                    refine wpAnyH_take (i := 14) (v := ?v15) rfl (by kernel_rfl) (by kernel_rfl) (by kernel_rfl) (fun _ _ _ h => nomatch h.1) (Or.inl ⟨by rfl, ?hy15⟩) (by assumption) ?rest15
                    case hy15 => (intro w' hSw; (try dsimp only at hSw); go_simp; (try with_reducible rfl))
                    try simp only [Act.put, List.setIfInBounds_toArray, List.set_cons_zero, List.set_cons_succ]
                    refine wpAnyH_ready (rs := [15]) (by kernel_rfl) (by simp) ?_
                    refine AllReadyH.cons rfl (fun K hK => ?_) AllReadyH.nil
                    go_simp
                    refine hK.out _ _ (by first | with_reducible exact HKS.out _ H0 | with_reducible exact HKS.out _ hS1 | with_reducible exact HKS.out _ hS2 | with_reducible exact HKS.out _ hS3 | with_reducible exact HKS.out _ hS4 | with_reducible exact HKS.out _ (hbel_set hS4 (Nat.le_refl _) _)) (fun hHeld16 => ?_)
                    clear hK K
                    try simp only [Act.put, List.setIfInBounds_toArray, List.set_cons_zero, List.set_cons_succ]
                    refine wpAnyH_done (by kernel_rfl) ?_ _
                    exact ⟨rfl, rfl, w6, rfl, hK4.out⟩
                  refine AllReadyH.cons rfl (fun K hK => ?_) AllReadyH.nil
                  go_simp
                  (go_at_call 67; with_reducible refine (HRX.out _).mono ?_; rintro e w3 ⟨rfl, hb3⟩; have hS1 := hbel_call H0 hb3; have hK1 := hbel_call K0 hb3; obtain ⟨a3, z3⟩ := HKT.out _ hK1)
                  refine hK.out _ _ (by first | with_reducible exact HKS.out _ H0 | with_reducible exact HKS.out _ hS1 | with_reducible exact HKS.out _ hS2 | with_reducible exact HKS.out _ hS3 | with_reducible exact HKS.out _ hS4 | with_reducible exact HKS.out _ (hbel_set hS4 (Nat.le_refl _) _)) (fun hHeld17 => ?_)
                  clear hK K
                  try simp only [Act.put, List.setIfInBounds_toArray, List.set_cons_zero, List.set_cons_succ]
                  refine wpAnyH_ready (rs := [1, 6]) (by kernel_rfl) (by simp) ?_
                  refine AllReadyH.cons rfl (fun K hK => ?_) ?_
                  · go_simp
                    refine hK.out _ _ (by first | with_reducible exact HKS.out _ H0 | with_reducible exact HKS.out _ hS1 | with_reducible exact HKS.out _ hS2 | with_reducible exact HKS.out _ hS3 | with_reducible exact HKS.out _ hS4 | with_reducible exact HKS.out _ (hbel_set hS4 (Nat.le_refl _) _)) (fun hHeld18 => ?_)
                    clear hK K
                    try simp only [Act.put, List.setIfInBounds_toArray, List.set_cons_zero, List.set_cons_succ]
                    refine wpAnyH_ready (rs := [6]) (by kernel_rfl) (by simp) ?_
                    refine AllReadyH.cons rfl (fun K hK => ?_) AllReadyH.nil
                    go_simp
                    (go_at_call 66; with_reducible refine (HPXk.out _ hS1).mono ?_; rintro e w4 ⟨rfl, hb4⟩; have hS2 := hbel_call hS1 hb4; have hK2 := hbel_call hK1 hb4; obtain ⟨a4, z4⟩ := HKT.out _ hK2)
                    refine hK.out _ _ (by first | with_reducible exact HKS.out _ H0 | with_reducible exact HKS.out _ hS1 | with_reducible exact HKS.out _ hS2 | with_reducible exact HKS.out _ hS3 | with_reducible exact HKS.out _ hS4 | with_reducible exact HKS.out _ (hbel_set hS4 (Nat.le_refl _) _)) (fun hHeld19 => ?_)
                    clear hK K
                    try simp only [Act.put, List.setIfInBounds_toArray, List.set_cons_zero, List.set_cons_succ]
                    refine wpAnyH_take (i := 7) (v := ?v20) rfl (by kernel_rfl) (by kernel_rfl) (by kernel_rfl) (fun _ _ _ h => nomatch h.1) (Or.inl ⟨by rfl, ?hy20⟩) (by assumption) ?rest20
                    case hy20 => (intro w' hSw; (try dsimp only at hSw); go_simp; (try with_reducible rfl))
                    try simp only [Act.put, List.setIfInBounds_toArray, List.set_cons_zero, List.set_cons_succ]
                    refine wpAnyH_ready (rs := [10]) (by kernel_rfl) (by simp) ?_
                    refine AllReadyH.cons rfl (fun K hK => ?_) AllReadyH.nil
                    go_simp
                    (go_at_call 67; with_reducible refine (HRY.out _).mono ?_; rintro e w5 ⟨rfl, hb5⟩; have hS3 := hbel_call hS2 hb5; have hK3 := hbel_call hK2 hb5; obtain ⟨a5, z5⟩ := HKT.out _ hK3)
                    refine hK.out _ _ (by first | with_reducible exact HKS.out _ H0 | with_reducible exact HKS.out _ hS1 | with_reducible exact HKS.out _ hS2 | with_reducible exact HKS.out _ hS3 | with_reducible exact HKS.out _ hS4 | with_reducible exact HKS.out _ (hbel_set hS4 (Nat.le_refl _) _)) (fun hHeld21 => ?_)
                    clear hK K
                    try simp only [Act.put, List.setIfInBounds_toArray, List.set_cons_zero, List.set_cons_succ]
                    refine wpAnyH_ready (rs := [12]) (by kernel_rfl) (by simp) ?_
                    refine AllReadyH.cons rfl (fun K hK => ?_) AllReadyH.nil
                    go_simp
                    (go_at_call 66; with_reducible refine (HPYk.out _ hS3).mono ?_; rintro e w6 ⟨rfl, hb6⟩; have hS4 := hbel_call hS3 hb6; have hK4 := hbel_call hK3 hb6; obtain ⟨a6, z6⟩ := HKT.out _ hK4)
                    refine hK.out _ _ (by first | with_reducible exact HKS.out _ H0 | with_reducible exact HKS.out _ hS1 | with_reducible exact HKS.out _ hS2 | with_reducible exact HKS.out _ hS3 | with_reducible exact HKS.out _ hS4 | with_reducible exact HKS.out _ (hbel_set hS4 (Nat.le_refl _) _)) (fun hHeld22 => ?_)
                    clear hK K
                    try simp only [Act.put, List.setIfInBounds_toArray, List.set_cons_zero, List.set_cons_succ]
                    refine wpAnyH_take (i := 13) (v := ?v23) rfl (by kernel_rfl) (by kernel_rfl) (by kernel_rfl) (fun _ _ _ h => nomatch h.1) (Or.inl ⟨by rfl, ?hy23⟩) (by assumption) ?rest23
                    case hy23 => (intro w' hSw; (try dsimp only at hSw); go_simp; (try with_reducible rfl))
                    try simp only [Act.put, List.setIfInBounds_toArray, List.set_cons_zero, List.set_cons_succ]
                    refine wpAnyH_take (i := 14) (v := ?v24) rfl (by kernel_rfl) (by kernel_rfl) (by kernel_rfl) (fun _ _ _ h => nomatch h.1) (Or.inl ⟨by rfl, ?hy24⟩) (by assumption) ?rest24
                    case hy24 => (intro w' hSw; (try dsimp only at hSw); go_simp; (try with_reducible rfl))
                    try simp only [Act.put, List.setIfInBounds_toArray, List.set_cons_zero, List.set_cons_succ]
                    refine wpAnyH_ready (rs := [15]) (by kernel_rfl) (by simp) ?_
                    refine AllReadyH.cons rfl (fun K hK => ?_) AllReadyH.nil
                    go_simp
                    refine hK.out _ _ (by first | with_reducible exact HKS.out _ H0 | with_reducible exact HKS.out _ hS1 | with_reducible exact HKS.out _ hS2 | with_reducible exact HKS.out _ hS3 | with_reducible exact HKS.out _ hS4 | with_reducible exact HKS.out _ (hbel_set hS4 (Nat.le_refl _) _)) (fun hHeld25 => ?_)
                    clear hK K
                    try simp only [Act.put, List.setIfInBounds_toArray, List.set_cons_zero, List.set_cons_succ]
                    refine wpAnyH_done (by kernel_rfl) ?_ _
                    exact ⟨rfl, rfl, w6, rfl, hK4.out⟩
                  refine AllReadyH.cons rfl (fun K hK => ?_) AllReadyH.nil
                  go_simp
                  (go_at_call 66; with_reducible refine (HPXk.out _ hS1).mono ?_; rintro e w4 ⟨rfl, hb4⟩; have hS2 := hbel_call hS1 hb4; have hK2 := hbel_call hK1 hb4; obtain ⟨a4, z4⟩ := HKT.out _ hK2)
                  refine hK.out _ _ (by first | with_reducible exact HKS.out _ H0 | with_reducible exact HKS.out _ hS1 | with_reducible exact HKS.out _ hS2 | with_reducible exact HKS.out _ hS3 | with_reducible exact HKS.out _ hS4 | with_reducible exact HKS.out _ (hbel_set hS4 (Nat.le_refl _) _)) (fun hHeld26 => ?_)
                  clear hK K
                  try simp only [Act.put, List.setIfInBounds_toArray, List.set_cons_zero, List.set_cons_succ]
                  refine wpAnyH_ready (rs := [1, 10]) (by kernel_rfl) (by simp) ?_
                  refine AllReadyH.cons rfl (fun K hK => ?_) ?_
                  · go_simp
                    refine hK.out _ _ (by first | with_reducible exact HKS.out _ H0 | with_reducible exact HKS.out _ hS1 | with_reducible exact HKS.out _ hS2 | with_reducible exact HKS.out _ hS3 | with_reducible exact HKS.out _ hS4 | with_reducible exact HKS.out _ (hbel_set hS4 (Nat.le_refl _) _)) (fun hHeld27 => ?_)
                    clear hK K
                    try simp only [Act.put, List.setIfInBounds_toArray, List.set_cons_zero, List.set_cons_succ]
                    refine wpAnyH_take (i := 7) (v := ?v28) rfl (by kernel_rfl) (by kernel_rfl) (by kernel_rfl) (fun _ _ _ h => nomatch h.1) (Or.inl ⟨by rfl, ?hy28⟩) (by assumption) ?rest28
                    case hy28 => (intro w' hSw; (try dsimp only at hSw); go_simp; (try with_reducible rfl))
                    try simp only [Act.put, List.setIfInBounds_toArray, List.set_cons_zero, List.set_cons_succ]
                    refine wpAnyH_ready (rs := [10]) (by kernel_rfl) (by simp) ?_
                    refine AllReadyH.cons rfl (fun K hK => ?_) AllReadyH.nil
                    go_simp
                    (go_at_call 67; with_reducible refine (HRY.out _).mono ?_; rintro e w5 ⟨rfl, hb5⟩; have hS3 := hbel_call hS2 hb5; have hK3 := hbel_call hK2 hb5; obtain ⟨a5, z5⟩ := HKT.out _ hK3)
                    refine hK.out _ _ (by first | with_reducible exact HKS.out _ H0 | with_reducible exact HKS.out _ hS1 | with_reducible exact HKS.out _ hS2 | with_reducible exact HKS.out _ hS3 | with_reducible exact HKS.out _ hS4 | with_reducible exact HKS.out _ (hbel_set hS4 (Nat.le_refl _) _)) (fun hHeld29 => ?_)
                    clear hK K
                    try simp only [Act.put, List.setIfInBounds_toArray, List.set_cons_zero, List.set_cons_succ]
                    refine wpAnyH_ready (rs := [12]) (by kernel_rfl) (by simp) ?_
                    refine AllReadyH.cons rfl (fun K hK => ?_) AllReadyH.nil
                    go_simp
                    (go_at_call 66; with_reducible refine (HPYk.out _ hS3).mono ?_; rintro e w6 ⟨rfl, hb6⟩; have hS4 := hbel_call hS3 hb6; have hK4 := hbel_call hK3 hb6; obtain ⟨a6, z6⟩ := HKT.out _ hK4)
                    refine hK.out _ _ (by first | with_reducible exact HKS.out _ H0 | with_reducible exact HKS.out _ hS1 | with_reducible exact HKS.out _ hS2 | with_reducible exact HKS.out _ hS3 | with_reducible exact HKS.out _ hS4 | with_reducible exact HKS.out _ (hbel_set hS4 (Nat.le_refl _) _)) (fun hHeld30 => ?_)
                    clear hK K
                    try simp only [Act.put, List.setIfInBounds_toArray, List.set_cons_zero, List.set_cons_succ]
                    refine wpAnyH_take (i := 13) (v := ?v31) rfl (by kernel_rfl) (by kernel_rfl) (by kernel_rfl) (fun _ _ _ h => nomatch h.1) (Or.inl ⟨by rfl, ?hy31⟩) (by assumption) ?rest31
                    case hy31 => (intro w' hSw; (try dsimp only at hSw); go_simp; (try with_reducible rfl))
                    try simp only [Act.put, List.setIfInBounds_toArray, List.set_cons_zero, List.set_cons_succ]
                    refine wpAnyH_take (i := 14) (v := ?v32) rfl (by kernel_rfl) (by kernel_rfl) (by kernel_rfl) (fun _ _ _ h => nomatch h.1) (Or.inl ⟨by rfl, ?hy32⟩) (by assumption) ?rest32
                    case hy32 => (intro w' hSw; (try dsimp only at hSw); go_simp; (try with_reducible rfl))
                    try simp only [Act.put, List.setIfInBounds_toArray, List.set_cons_zero, List.set_cons_succ]
                    refine wpAnyH_ready (rs := [15]) (by kernel_rfl) (by simp) ?_
                    refine AllReadyH.cons rfl (fun K hK => ?_) AllReadyH.nil
                    go_simp
                    refine hK.out _ _ (by first | with_reducible exact HKS.out _ H0 | with_reducible exact HKS.out _ hS1 | with_reducible exact HKS.out _ hS2 | with_reducible exact HKS.out _ hS3 | with_reducible exact HKS.out _ hS4 | with_reducible exact HKS.out _ (hbel_set hS4 (Nat.le_refl _) _)) (fun hHeld33 => ?_)
                    clear hK K
                    try simp only [Act.put, List.setIfInBounds_toArray, List.set_cons_zero, List.set_cons_succ]
                    refine wpAnyH_done (by kernel_rfl) ?_ _
                    exact ⟨rfl, rfl, w6, rfl, hK4.out⟩
                  refine AllReadyH.cons rfl (fun K hK => ?_) AllReadyH.nil
                  go_simp
                  (go_at_call 67; with_reducible refine (HRY.out _).mono ?_; rintro e w5 ⟨rfl, hb5⟩; have hS3 := hbel_call hS2 hb5; have hK3 := hbel_call hK2 hb5; obtain ⟨a5, z5⟩ := HKT.out _ hK3)
                  refine hK.out _ _ (by first | with_reducible exact HKS.out _ H0 | with_reducible exact HKS.out _ hS1 | with_reducible exact HKS.out _ hS2 | with_reducible exact HKS.out _ hS3 | with_reducible exact HKS.out _ hS4 | with_reducible exact HKS.out _ (hbel_set hS4 (Nat.le_refl _) _)) (fun hHeld34 => ?_)
                  clear hK K
                  try simp only [Act.put, List.setIfInBounds_toArray, List.set_cons_zero, List.set_cons_succ]
                  refine wpAnyH_ready (rs := [1, 12]) (by kernel_rfl) (by simp) ?_
                  refine AllReadyH.cons rfl (fun K hK => ?_) ?_
                  · go_simp
                    refine hK.out _ _ (by first | with_reducible exact HKS.out _ H0 | with_reducible exact HKS.out _ hS1 | with_reducible exact HKS.out _ hS2 | with_reducible exact HKS.out _ hS3 | with_reducible exact HKS.out _ hS4 | with_reducible exact HKS.out _ (hbel_set hS4 (Nat.le_refl _) _)) (fun hHeld35 => ?_)
                    clear hK K
                    try simp only [Act.put, List.setIfInBounds_toArray, List.set_cons_zero, List.set_cons_succ]
                    refine wpAnyH_take (i := 7) (v := ?v36) rfl (by kernel_rfl) (by kernel_rfl) (by kernel_rfl) (fun _ _ _ h => nomatch h.1) (Or.inl ⟨by rfl, ?hy36⟩) (by assumption) ?rest36
                    case hy36 => (intro w' hSw; (try dsimp only at hSw); go_simp; (try with_reducible rfl))
                    try simp only [Act.put, List.setIfInBounds_toArray, List.set_cons_zero, List.set_cons_succ]
                    refine wpAnyH_ready (rs := [12]) (by kernel_rfl) (by simp) ?_
                    refine AllReadyH.cons rfl (fun K hK => ?_) AllReadyH.nil
                    go_simp
                    (go_at_call 66; with_reducible refine (HPYk.out _ hS3).mono ?_; rintro e w6 ⟨rfl, hb6⟩; have hS4 := hbel_call hS3 hb6; have hK4 := hbel_call hK3 hb6; obtain ⟨a6, z6⟩ := HKT.out _ hK4)
                    refine hK.out _ _ (by first | with_reducible exact HKS.out _ H0 | with_reducible exact HKS.out _ hS1 | with_reducible exact HKS.out _ hS2 | with_reducible exact HKS.out _ hS3 | with_reducible exact HKS.out _ hS4 | with_reducible exact HKS.out _ (hbel_set hS4 (Nat.le_refl _) _)) (fun hHeld37 => ?_)
                    clear hK K
                    try simp only [Act.put, List.setIfInBounds_toArray, List.set_cons_zero, List.set_cons_succ]
                    refine wpAnyH_take (i := 13) (v := ?v38) rfl (by kernel_rfl) (by kernel_rfl) (by kernel_rfl) (fun _ _ _ h => nomatch h.1) (Or.inl ⟨by rfl, ?hy38⟩) (by assumption) ?rest38
                    case hy38 => (intro w' hSw; (try dsimp only at hSw); go_simp; (try with_reducible rfl))
                    try simp only [Act.put, List.setIfInBounds_toArray, List.set_cons_zero, List.set_cons_succ]
                    refine wpAnyH_take (i := 14) (v := ?v39) rfl (by kernel_rfl) (by kernel_rfl) (by kernel_rfl) (fun _ _ _ h => nomatch h.1) (Or.inl ⟨by rfl, ?hy39⟩) (by assumption) ?rest39
                    case hy39 => (intro w' hSw; (try dsimp only at hSw); go_simp; (try with_reducible rfl))
                    try simp only [Act.put, List.setIfInBounds_toArray, List.set_cons_zero, List.set_cons_succ]
                    refine wpAnyH_ready (rs := [15]) (by kernel_rfl) (by simp) ?_
                    refine AllReadyH.cons rfl (fun K hK => ?_) AllReadyH.nil
                    go_simp
                    refine hK.out _ _ (by first | with_reducible exact HKS.out _ H0 | with_reducible exact HKS.out _ hS1 | with_reducible exact HKS.out _ hS2 | with_reducible exact HKS.out _ hS3 | with_reducible exact HKS.out _ hS4 | with_reducible exact HKS.out _ (hbel_set hS4 (Nat.le_refl _) _)) (fun hHeld40 => ?_)
                    clear hK K
                    try simp only [Act.put, List.setIfInBounds_toArray, List.set_cons_zero, List.set_cons_succ]
                    refine wpAnyH_done (by kernel_rfl) ?_ _
                    exact ⟨rfl, rfl, w6, rfl, hK4.out⟩
                  refine AllReadyH.cons rfl (fun K hK => ?_) AllReadyH.nil
                  go_simp
                  (go_at_call 66; with_reducible refine (HPYk.out _ hS3).mono ?_; rintro e w6 ⟨rfl, hb6⟩; have hS4 := hbel_call hS3 hb6; have hK4 := hbel_call hK3 hb6; obtain ⟨a6, z6⟩ := HKT.out _ hK4)
                  refine hK.out _ _ (by first | with_reducible exact HKS.out _ H0 | with_reducible exact HKS.out _ hS1 | with_reducible exact HKS.out _ hS2 | with_reducible exact HKS.out _ hS3 | with_reducible exact HKS.out _ hS4 | with_reducible exact HKS.out _ (hbel_set hS4 (Nat.le_refl _) _)) (fun hHeld41 => ?_)
                  clear hK K
                  try simp only [Act.put, List.setIfInBounds_toArray, List.set_cons_zero, List.set_cons_succ]
                  refine wpAnyH_ready (rs := [1]) (by kernel_rfl) (by simp) ?_
                  refine AllReadyH.cons rfl (fun K hK => ?_) AllReadyH.nil
                  go_simp
                  refine hK.out _ _ (by first | with_reducible exact HKS.out _ H0 | with_reducible exact HKS.out _ hS1 | with_reducible exact HKS.out _ hS2 | with_reducible exact HKS.out _ hS3 | with_reducible exact HKS.out _ hS4 | with_reducible exact HKS.out _ (hbel_set hS4 (Nat.le_refl _) _)) (fun hHeld42 => ?_)
                  clear hK K
                  try simp only [Act.put, List.setIfInBounds_toArray, List.set_cons_zero, List.set_cons_succ]
                  refine wpAnyH_take (i := 7) (v := ?v43) rfl (by kernel_rfl) (by kernel_rfl) (by kernel_rfl) (fun _ _ _ h => nomatch h.1) (Or.inl ⟨by rfl, ?hy43⟩) (by assumption) ?rest43
                  case hy43 => (intro w' hSw; (try dsimp only at hSw); go_simp; (try with_reducible rfl))
                  try simp only [Act.put, List.setIfInBounds_toArray, List.set_cons_zero, List.set_cons_succ]
                  refine wpAnyH_take (i := 13) (v := ?v44) rfl (by kernel_rfl) (by kernel_rfl) (by kernel_rfl) (fun _ _ _ h => nomatch h.1) (Or.inl ⟨by rfl, ?hy44⟩) (by assumption) ?rest44
                  case hy44 => (intro w' hSw; (try dsimp only at hSw); go_simp; (try with_reducible rfl))
                  try simp only [Act.put, List.setIfInBounds_toArray, List.set_cons_zero, List.set_cons_succ]
                  refine wpAnyH_take (i := 14) (v := ?v45) rfl (by kernel_rfl) (by kernel_rfl) (by kernel_rfl) (fun _ _ _ h => nomatch h.1) (Or.inl ⟨by rfl, ?hy45⟩) (by assumption) ?rest45
                  case hy45 => (intro w' hSw; (try dsimp only at hSw); go_simp; (try with_reducible rfl))
                  try simp only [Act.put, List.setIfInBounds_toArray, List.set_cons_zero, List.set_cons_succ]
                  refine wpAnyH_ready (rs := [15]) (by kernel_rfl) (by simp) ?_
                  refine AllReadyH.cons rfl (fun K hK => ?_) AllReadyH.nil
                  go_simp
                  refine hK.out _ _ (by first | with_reducible exact HKS.out _ H0 | with_reducible exact HKS.out _ hS1 | with_reducible exact HKS.out _ hS2 | with_reducible exact HKS.out _ hS3 | with_reducible exact HKS.out _ hS4 | with_reducible exact HKS.out _ (hbel_set hS4 (Nat.le_refl _) _)) (fun hHeld46 => ?_)
                  clear hK K
                  try simp only [Act.put, List.setIfInBounds_toArray, List.set_cons_zero, List.set_cons_succ]
                  refine wpAnyH_done (by kernel_rfl) ?_ _
                  exact ⟨rfl, rfl, w6, rfl, hK4.out⟩
                rintro w' ⟨w9, rfl, hb9⟩
                clear HKS HKT HPXk HPYk H0 K0 t3
                have HW9 := hide hb9
                have T9 := hide ((T3.out.below hb9 tlt).set_ 3 (.int .i64 (f.enc + (py - px))))
                have HB9 := hide ((HB3.out.trans (hb9.mono (by omega))).setCell (p := ⟨wr.heap.size, 3, none⟩) hzi (.int .i64 (f.enc + (py - px))))
                have BW9 := hide ((BW3.out.trans (hb9.mono BW3.out.size)).setCell (p := ⟨wr.heap.size, 3, none⟩) (by show w.heap.size ≤ wr.heap.size; omega) (.int .i64 (f.enc + (py - px))))
                have Z9 := hide ((Z3.out.trans (hb9.mono Z3.out.size)).setCell (p := ⟨wr.heap.size, 3, none⟩) (Nat.le_refl _) (.int .i64 (f.enc + (py - px))))
                have HO9 := hide (own_far (own_below HO3.out hb9 (fun q hq => (HO3.out.lt q hq).2)) (p := ⟨wr.heap.size, 3, none⟩) (by intro e; have e' : g = wr.heap.size := (by simpa [Value.ownBlock] using e); omega) (.int .i64 (f.enc + (py - px))))
                obtain ⟨W9, hW9⟩ : ∃ W9, W9 = w9.setCell ⟨wr.heap.size, 3, none⟩ (.int .i64 (f.enc + (py - px))) := ⟨_, rfl⟩
                rw [← hW9] at T9 HB9 BW9 Z9 HO9 ⊢
                clear hW9 hb9 HW9 T3 HB3 BW3 Z3 HO3 tlt
                have v0 := V3.out.cell 0
                have v1 := V3.out.cell 1
                have v2 := V3.out.cell 2
                have v3 := V3.out.cell 3
                have v4 := V3.out.cell 4
                have v5 := V3.out.cell 5
                have v6 := V3.out.cell 6
                have v7 := V3.out.cell 7
                have v8 := V3.out.cell 8
                have v9 := V3.out.cell 9
                simp at v0 v1 v2 v3 v4 v5 v6 v7 v8 v9
                have tlt := T9.out.lt
                have t4 := T9.out.cell 4
                simp at t4
                have H0 := hide Z9.out.drew
                have K0 := hide (Below.refl W9.heap.size W9).drew
                have HKS := hide (fun W (h : Hid (Below wr.heap.size wr W)) => (And.intro h (And.intro ((h.out.cell (p := ⟨w.heap.size + 1, 0, none⟩) vlt).trans v0) (And.intro ((h.out.cell (p := ⟨w.heap.size + 1, 1, none⟩) vlt).trans v1) (And.intro ((h.out.cell (p := ⟨w.heap.size + 1, 2, none⟩) vlt).trans v2) (And.intro ((h.out.cell (p := ⟨w.heap.size + 1, 3, none⟩) vlt).trans v3) (And.intro ((h.out.cell (p := ⟨w.heap.size + 1, 4, none⟩) vlt).trans v4) (And.intro ((h.out.cell (p := ⟨w.heap.size + 1, 5, none⟩) vlt).trans v5) (And.intro ((h.out.cell (p := ⟨w.heap.size + 1, 6, none⟩) vlt).trans v6) (And.intro ((h.out.cell (p := ⟨w.heap.size + 1, 7, none⟩) vlt).trans v7) (And.intro ((h.out.cell (p := ⟨w.heap.size + 1, 8, none⟩) vlt).trans v8) ((h.out.cell (p := ⟨w.heap.size + 1, 9, none⟩) vlt).trans v9))))))))))))
                have HKT := hide (fun W (h : Hid (Below W9.heap.size W9 W)) => And.intro ((h.out.cell (p := ⟨wr.heap.size, 4, none⟩) tlt).trans t4) ((T9.out.below h.out tlt).frz 4))
                have HPAk := hide (fun W (h : Hid (Below wr.heap.size wr W)) => HPAs.out W (BW2.out.trans (h.out.mono BW2.out.size)))
                clear v0 v1 v2 v3 v4 v5 v6 v7 v8 v9
                go_wp2_with fail
                apply wp_meet (R := fun w' => ∃ w9, w' = w9.setCell ⟨wr.heap.size, 4, none⟩ (.int .i64 (f.spent + pa)) ∧ Below W9.heap.size W9 w9)
                case hr =>
                  refine wp_region_held_drew (S := fun w' => Hid (Below wr.heap.size wr w') ∧ w'.cell? ⟨w.heap.size + 1, 0, none⟩ = some (.int .i64 y.id) ∧ w'.cell? ⟨w.heap.size + 1, 1, none⟩ = some (.int .i64 y.rcd) ∧ w'.cell? ⟨w.heap.size + 1, 2, none⟩ = some (.int .i64 y.ven) ∧ w'.cell? ⟨w.heap.size + 1, 3, none⟩ = some (.int .i64 y.cop) ∧ w'.cell? ⟨w.heap.size + 1, 4, none⟩ = some (.int .i64 y.pri) ∧ w'.cell? ⟨w.heap.size + 1, 5, none⟩ = some (.int .i64 y.rcv) ∧ w'.cell? ⟨w.heap.size + 1, 6, none⟩ = some (.int .i64 y.bil) ∧ w'.cell? ⟨w.heap.size + 1, 7, none⟩ = some (.int .i64 y.paid) ∧ w'.cell? ⟨w.heap.size + 1, 8, none⟩ = some (.int .i64 y.st) ∧ w'.cell? ⟨w.heap.size + 1, 9, none⟩ = some (.slice y.shA y.shn y.shc)) (by kernel_rfl) (HKS.out _ H0) (fun hHeld => ?_)
                  refine wpAnyH_take (i := 0) (v := ?v1001) rfl (by kernel_rfl) (by kernel_rfl) (by kernel_rfl) (fun _ _ _ h => nomatch h.1) (Or.inl ⟨by rfl, ?hy1001⟩) (by assumption) ?rest1001
                  case hy1001 => (intro w' hSw; (try dsimp only at hSw); go_simp; (try with_reducible rfl))
                  try simp only [Act.put, List.setIfInBounds_toArray, List.set_cons_zero, List.set_cons_succ]
                  refine wpAnyH_take (i := 2) (v := ?v1002) rfl (by kernel_rfl) (by kernel_rfl) (by kernel_rfl) (fun _ _ _ h => nomatch h.1) (Or.inl ⟨by rfl, ?hy1002⟩) (by assumption) ?rest1002
                  case hy1002 => (intro w' hSw; (try dsimp only at hSw); go_simp; (try with_reducible rfl))
                  try simp only [Act.put, List.setIfInBounds_toArray, List.set_cons_zero, List.set_cons_succ]
                  refine wpAnyH_take (i := 3) (v := ?v1003) rfl (by kernel_rfl) (by kernel_rfl) (by kernel_rfl) (fun _ _ _ h => nomatch h.1) (Or.inl ⟨by rfl, ?hy1003⟩) (by assumption) ?rest1003
                  case hy1003 => (intro w' hSw; (try dsimp only at hSw); go_simp; (try with_reducible rfl))
                  try simp only [Act.put, List.setIfInBounds_toArray, List.set_cons_zero, List.set_cons_succ]
                  refine wpAnyH_take (i := 4) (v := ?v1004) rfl (by kernel_rfl) (by kernel_rfl) (by kernel_rfl) (fun _ _ _ h => nomatch h.1) (Or.inl ⟨by rfl, ?hy1004⟩) (by assumption) ?rest1004
                  case hy1004 => (intro w' hSw; (try dsimp only at hSw); go_simp; (try with_reducible rfl))
                  try simp only [Act.put, List.setIfInBounds_toArray, List.set_cons_zero, List.set_cons_succ]
                  refine wpAnyH_ready (rs := [1, 5]) (by kernel_rfl) (by simp) ?_
                  refine AllReadyH.cons rfl (fun K hK => ?_) ?_
                  · go_simp
                    refine hK.out _ _ (by first | with_reducible exact HKS.out _ H0 | with_reducible exact HKS.out _ hS1 | with_reducible exact HKS.out _ (hbel_set hS1 (Nat.le_refl _) _)) (fun hHeld1005 => ?_)
                    clear hK K
                    try simp only [Act.put, List.setIfInBounds_toArray, List.set_cons_zero, List.set_cons_succ]
                    refine wpAnyH_ready (rs := [5]) (by kernel_rfl) (by simp) ?_
                    refine AllReadyH.cons rfl (fun K hK => ?_) AllReadyH.nil
                    go_simp
                    (go_at_call 66; with_reducible refine (HPAk.out _ H0).mono ?_; rintro e w3 ⟨rfl, hb3⟩; have hS1 := hbel_call H0 hb3; have hK1 := hbel_call K0 hb3; obtain ⟨a3, z3⟩ := HKT.out _ hK1)
                    refine hK.out _ _ (by first | with_reducible exact HKS.out _ H0 | with_reducible exact HKS.out _ hS1 | with_reducible exact HKS.out _ (hbel_set hS1 (Nat.le_refl _) _)) (fun hHeld1006 => ?_)
                    clear hK K
                    try simp only [Act.put, List.setIfInBounds_toArray, List.set_cons_zero, List.set_cons_succ]
                    refine wpAnyH_take (i := 6) (v := ?v1007) rfl (by kernel_rfl) (by kernel_rfl) (by kernel_rfl) (fun _ _ _ h => nomatch h.1) (Or.inl ⟨by rfl, ?hy1007⟩) (by assumption) ?rest1007
                    case hy1007 => (intro w' hSw; (try dsimp only at hSw); go_simp; (try with_reducible rfl))
                    try simp only [Act.put, List.setIfInBounds_toArray, List.set_cons_zero, List.set_cons_succ]
                    refine wpAnyH_take (i := 7) (v := ?v1008) rfl (by kernel_rfl) (by kernel_rfl) (by kernel_rfl) (fun _ _ _ h => nomatch h.1) (Or.inl ⟨by rfl, ?hy1008⟩) (by assumption) ?rest1008
                    case hy1008 => (intro w' hSw; (try dsimp only at hSw); go_simp; (try with_reducible rfl))
                    try simp only [Act.put, List.setIfInBounds_toArray, List.set_cons_zero, List.set_cons_succ]
                    refine wpAnyH_ready (rs := [8]) (by kernel_rfl) (by simp) ?_
                    refine AllReadyH.cons rfl (fun K hK => ?_) AllReadyH.nil
                    go_simp
                    refine hK.out _ _ (by first | with_reducible exact HKS.out _ H0 | with_reducible exact HKS.out _ hS1 | with_reducible exact HKS.out _ (hbel_set hS1 (Nat.le_refl _) _)) (fun hHeld1009 => ?_)
                    clear hK K
                    try simp only [Act.put, List.setIfInBounds_toArray, List.set_cons_zero, List.set_cons_succ]
                    refine wpAnyH_done (by kernel_rfl) ?_ _
                    exact ⟨rfl, rfl, w3, rfl, hK1.out⟩
                  refine AllReadyH.cons rfl (fun K hK => ?_) AllReadyH.nil
                  go_simp
                  (go_at_call 66; with_reducible refine (HPAk.out _ H0).mono ?_; rintro e w3 ⟨rfl, hb3⟩; have hS1 := hbel_call H0 hb3; have hK1 := hbel_call K0 hb3; obtain ⟨a3, z3⟩ := HKT.out _ hK1)
                  refine hK.out _ _ (by first | with_reducible exact HKS.out _ H0 | with_reducible exact HKS.out _ hS1 | with_reducible exact HKS.out _ (hbel_set hS1 (Nat.le_refl _) _)) (fun hHeld1010 => ?_)
                  clear hK K
                  try simp only [Act.put, List.setIfInBounds_toArray, List.set_cons_zero, List.set_cons_succ]
                  refine wpAnyH_ready (rs := [1]) (by kernel_rfl) (by simp) ?_
                  refine AllReadyH.cons rfl (fun K hK => ?_) AllReadyH.nil
                  go_simp
                  refine hK.out _ _ (by first | with_reducible exact HKS.out _ H0 | with_reducible exact HKS.out _ hS1 | with_reducible exact HKS.out _ (hbel_set hS1 (Nat.le_refl _) _)) (fun hHeld1011 => ?_)
                  clear hK K
                  try simp only [Act.put, List.setIfInBounds_toArray, List.set_cons_zero, List.set_cons_succ]
                  refine wpAnyH_take (i := 6) (v := ?v1012) rfl (by kernel_rfl) (by kernel_rfl) (by kernel_rfl) (fun _ _ _ h => nomatch h.1) (Or.inl ⟨by rfl, ?hy1012⟩) (by assumption) ?rest1012
                  case hy1012 => (intro w' hSw; (try dsimp only at hSw); go_simp; (try with_reducible rfl))
                  try simp only [Act.put, List.setIfInBounds_toArray, List.set_cons_zero, List.set_cons_succ]
                  refine wpAnyH_take (i := 7) (v := ?v1013) rfl (by kernel_rfl) (by kernel_rfl) (by kernel_rfl) (fun _ _ _ h => nomatch h.1) (Or.inl ⟨by rfl, ?hy1013⟩) (by assumption) ?rest1013
                  case hy1013 => (intro w' hSw; (try dsimp only at hSw); go_simp; (try with_reducible rfl))
                  try simp only [Act.put, List.setIfInBounds_toArray, List.set_cons_zero, List.set_cons_succ]
                  refine wpAnyH_ready (rs := [8]) (by kernel_rfl) (by simp) ?_
                  refine AllReadyH.cons rfl (fun K hK => ?_) AllReadyH.nil
                  go_simp
                  refine hK.out _ _ (by first | with_reducible exact HKS.out _ H0 | with_reducible exact HKS.out _ hS1 | with_reducible exact HKS.out _ (hbel_set hS1 (Nat.le_refl _) _)) (fun hHeld1014 => ?_)
                  clear hK K
                  try simp only [Act.put, List.setIfInBounds_toArray, List.set_cons_zero, List.set_cons_succ]
                  refine wpAnyH_done (by kernel_rfl) ?_ _
                  exact ⟨rfl, rfl, w3, rfl, hK1.out⟩
                rintro w' ⟨w9, rfl, hb9⟩
                clear HKS HKT HPAk H0 K0 t4
                have T10 := hide ((T9.out.below hb9 tlt).set_ 4 (.int .i64 (f.spent + pa)))
                have HB10 := hide ((HB9.out.trans (hb9.mono (by omega))).setCell (p := ⟨wr.heap.size, 4, none⟩) hzi (.int .i64 (f.spent + pa)))
                have BW10 := hide ((BW9.out.trans (hb9.mono BW9.out.size)).setCell (p := ⟨wr.heap.size, 4, none⟩) (by show w.heap.size ≤ wr.heap.size; omega) (.int .i64 (f.spent + pa)))
                have HO10 := hide (own_far (own_below HO9.out hb9 (fun q hq => (HO9.out.lt q hq).2)) (p := ⟨wr.heap.size, 4, none⟩) (by intro e; have e' : g = wr.heap.size := (by simpa [Value.ownBlock] using e); omega) (.int .i64 (f.spent + pa)))
                obtain ⟨W10, hW10⟩ : ∃ W10, W10 = w9.setCell ⟨wr.heap.size, 4, none⟩ (.int .i64 (f.spent + pa)) := ⟨_, rfl⟩
                rw [← hW10] at T10 HB10 BW10 HO10 ⊢
                clear hW10 hb9 T9 HB9 BW9 Z9 HO9 tlt
                have t0 := T10.out.cell 0
                have t1 := T10.out.cell 1
                have t2 := T10.out.cell 2
                have t3 := T10.out.cell 3
                have t4 := T10.out.cell 4
                simp at t0 t1 t2 t3 t4
                obtain ⟨f0, f1, f2, f3, f4⟩ := fu_cells (own_cell fuE_len HO10.out HYN.out HJ.out.1)
                have hfz := fun j => HO10.out.frozenAt j
                by_cases hA1 : 100000000 < f.spent + pa
                · have HE := hide (show stlA fs x y am = (2, []) by
                    have hF : (stlF (py - px) pa f).1 = 2 := by unfold stlF; rw [if_pos hA1]
                    rw [HAK.out, HST2.out, hcr2.out (by rw [hF]; decide), hF]
                    rfl)
                  clear f0 f1 f2 f3 f4 hfz
                  go_wp2
                  go_ret2
                  rw [HE.out]
                  exact ⟨_, rfl, World.ownsRow_nil _ _ _ _, BW10.out⟩
                by_cases hA2 : f.budget < f.enc + (py - px) + (f.spent + pa)
                · have HE := hide (show stlA fs x y am = (17, []) by
                    have hF : (stlF (py - px) pa f).1 = 17 := by unfold stlF; rw [if_neg hA1, if_pos hA2]
                    rw [HAK.out, HST2.out, hcr2.out (by rw [hF]; decide), hF]
                    rfl)
                  clear f0 f1 f2 f3 f4 hfz
                  go_wp2
                  go_ret2
                  rw [HE.out]
                  exact ⟨_, rfl, World.ownsRow_nil _ _ _ _, BW10.out⟩
                have hF : stlF (py - px) pa f = (0, { f with enc := f.enc + (py - px), spent := f.spent + pa }) := by unfold stlF; rw [if_neg hA1, if_neg hA2]
                have HF := hide hF
                clear hF
                go_wp2
                go_roundw
                case rel =>
                  refine ⟨i + 1, _, by omega, by go_num, .inr ⟨by omega, by rw [HF.out], rfl⟩, below_setCells hgb (fuE { f with enc := f.enc + (py - px), spent := f.spent + pa }) (i * 5) _ HB10.out, ?_, ?_⟩
                  · rw [HF.out]
                    exact own_setk fuE_len HO10.out HYN.out hlt2 { f with enc := f.enc + (py - px), spent := f.spent + pa }
                  · rw [List.length_set]; exact HYN.out
                case measure => simp [intOf]; omega
              · have hne : z.id ≠ id := by
                  have hj := HJ.out
                  rcases HZS.out with ⟨h1, h⟩ | ⟨h1, _, h⟩
                  · rw [h] at hz
                    rw [← hj.2.1]; exact dif_ne HDY.out hz hj.1 hij
                  · rw [h, List.getElem?_set, if_neg (fun e => hij e.symm)] at hz
                    rw [← hj.2.1]; exact dif_ne HDY.out hz hj.1 hij
                have hq : (z.id != id) = true := by simpa using hne
                have HNX := hide (show i + 1 ≤ j ∧ zs = ys ∨ j < i + 1 ∧ (stlF (py - px) pa f).1 = 0 ∧ zs = ys.set j (stlF (py - px) pa f).2 by
                  rcases HZS.out with ⟨h1, h⟩ | ⟨h1, h⟩
                  · exact .inl ⟨by omega, h⟩
                  · exact .inr ⟨by omega, h⟩)
                clear hz hne
                go_wp2
                go_roundw
                case rel => exact ⟨i + 1, zs, by omega, by go_num, HNX.out, HB2.out, HR.out⟩
                case measure => simp [intOf]; omega
            · have hiz : ¬ (i : Int) < (n : Int) := by omega
              have hzz : (stlF (py - px) pa f).1 = 0 ∧ zs = ys.set j (stlF (py - px) pa f).2 := by
                rcases HZS.out with ⟨h1, _⟩ | ⟨_, h⟩
                · omega
                · exact h
              obtain ⟨hF, rfl⟩ := hzz
              have hF2 := stlF_ok' hF
              have HNX := hide (show stlA fs x y am = stlL (fun id => partO y ry id - partO x rx id) (fun id => partO y am id) (y.sh.drop (k + 1)) (ys.set j { f with enc := f.enc + (py - px), spent := f.spent + pa }) by
                rw [HAK.out, HST2.out, hcr.out hF, if_pos rfl, hF2])
              rw [hF2] at HR
              have HKN := hide (show keys fs = keys (ys.set j { f with enc := f.enc + (py - px), spent := f.spent + pa }) from HKY.out.trans (keys_set HJ.out.1 rfl rfl))
              have HBN := hide (HB.out.trans HB2.out)
              clear hF hF2 HZS
              go_wp2
              go_roundw
              case rel =>
                refine ⟨k + 1, _, by omega, by go_num, HNX.out, HKN.out, ?_, HBN.out, HR.out⟩
                intro u hu
                have hk1 : ((k + 1 : Nat) : Int) = (k : Int) + 1 := by omega
                rw [hk1]
                rcases List.mem_or_eq_of_mem_set hu with hu | hu
                · exact (HYB.out u hu).le (by omega)
                · subst hu
                  obtain ⟨fb1, fb2, fb3, by1, bx1, ba1⟩ := HFB.out
                  exact ⟨fb1, by constructor <;> (show _ ≤ _; simp only; omega), by constructor <;> (show _ ≤ _; simp only; omega)⟩
              case measure => simp [intOf]; omega
        · have hkz : ¬ (k : Int) < (y.shn : Int) := by omega
          have HE := hide (show stlA fs x y am = (0, ys) by rw [HAK.out, stlL_end (by have := HYL.out; omega)])
          have v9 := V2.out.cell 9
          simp at v9
          go_wp2
          go_ret2
          rw [HE.out]
          refine ⟨_, rfl, ?_, BW.out⟩
          have h := HR.out.1
          unfold Fo
          rw [HR.out.2]
          exact own_base h (by omega)
end Go.Proofs.YtbhndfphegflhaaGreat
