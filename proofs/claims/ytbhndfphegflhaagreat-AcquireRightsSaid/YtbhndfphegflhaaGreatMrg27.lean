/- Texts laid together by merge.py: AqN. -/
import Derived.Test.YtbhndfphegflhaaGreatMrg24
import Derived.Test.YtbhndfphegflhaaGreatMrg1
set_option linter.unusedSimpArgs false
set_option linter.unusedVariables false
/- Walks: Same of the reference, where both are the same. Printed by gen_aq_n.py. -/
namespace Go.Proofs.YtbhndfphegflhaaGreat
open Go.RowKit

/-- The same states, perhaps elsewhere. -/
structure AqQ (p q : Aq) : Prop where
  yr : p.yr = q.yr
  f : p.f = q.f
  o : p.o = q.o
  b : p.b = q.b
  sl : p.s.length = q.s.length
  s : ∀ (i : Nat) (x y : Se), p.s[i]? = some x → q.s[i]? = some y → SeQ x y
  nx : p.nx = q.nx
theorem AqQ.of {a b : Aq} (h : aqP a = aqP b) : AqQ a b := by
  unfold aqP at h
  injection h with h1 h2 h3 h4 h5 h6
  refine ⟨h1, h2, h3, h4, by rw [h5], fun i x y hx hy => ?_, h6⟩
  rw [h5, hy] at hx
  cases hx
  exact SeQ.refl _

set_option maxRecDepth 100000 in
set_option maxHeartbeats 8000000 in
theorem same40_any (x y : Aq) (w : World) (hq : AqQ x y) (hx : AqS w w.heap.size x) (hy : AqS w w.heap.size y) :
    Calls Tryz.prog 12 #[aqV x, aqV y] w fun e w' => e = .returned (.bool true) ∧ Below w.heap.size w w' := by
  obtain ⟨e1, e2, e3, e4, e5, e6, e7⟩ := hq
  have HQ6 := hide e6
  have HX := hide hx
  have HY := hide hy
  have hfn : y.fn = x.fn := by have h1 := hx.f.len; have h2 := hy.f.len; rw [e2] at h1; omega
  have hon : y.on = x.on := by have h1 := hx.o.len; have h2 := hy.o.len; rw [e3] at h1; omega
  have hbn : y.bn = x.bn := by have h1 := hx.b.len; have h2 := hy.b.len; rw [e4] at h1; omega
  have hsn : y.sn = x.sn := by have h1 := hx.s.len; have h2 := hy.s.len; omega
  have hb1 := hx.f.big
  have hb2 := hx.o.big
  have hb3 := hx.b.big
  have hb4 := hx.s.big
  have HE := hide (And.intro e2 (And.intro e3 (And.intro e4 e5)))
  have hgf := fu_guard
  have hgb := bl_guard
  have HVX := hide (show aqV x = .agg #[.int .i64 x.yr, .slice x.fA x.fn x.fc, .slice x.oA x.on x.oc, .slice x.bA x.bn x.bc, .slice x.sA x.sn x.sc, .int .i64 x.nx] from rfl)
  have HVY := hide (show aqV y = .agg #[.int .i64 x.yr, .slice y.fA x.fn y.fc, .slice y.oA x.on y.oc, .slice y.bA x.bn y.bc, .slice y.sA x.sn y.sc, .int .i64 x.nx] by unfold aqV; rw [hfn, hon, hbn, hsn, ← e1, ← e7])
  have FY := hide (hfn ▸ hy.f : Fs w w.heap.size y.fA x.fn y.fc y.f)
  have OY := hide (hon ▸ hy.o : Ods w w.heap.size y.oA x.on y.oc y.o)
  have BY := hide (hbn ▸ hy.b : Bls w w.heap.size y.bA x.bn y.bc y.b)
  have SY := hide (hsn ▸ hy.s : Ses w w.heap.size y.sA x.sn y.sc y.s)
  rw [HVX.out, HVY.out]
  clear hx hy hfn hon hbn hsn e1 e2 e3 e4 e5 e6 e7
  obtain ⟨CY, hCY⟩ : ∃ CY : Array Value, CY = #[.int .i64 x.yr, .slice y.fA x.fn y.fc, .slice y.oA x.on y.oc, .slice y.bA x.bn y.bc, .slice y.sA x.sn y.sc, .int .i64 x.nx] := ⟨_, rfl⟩
  have HCY := hide hCY
  have B0 := hide (((Below.refl w.heap.size w).alloc (Nat.le_refl _) (.cells (aqC x) 27)).alloc (by simp) (.cells CY 27))
  have X0 := hide ((Box.new w 27 (aqC x)).alloc (.cells CY 27))
  have Y0 := hide (Box.new (w.alloc (.cells (aqC x) 27)) 27 CY)
  rw [World.size_alloc] at Y0
  rw [hCY] at B0 X0 Y0
  clear hCY HCY
  obtain ⟨W4, hW4⟩ : ∃ W4, W4 = (w.alloc (.cells (aqC x) 27)).alloc (.cells #[.int .i64 x.yr, .slice y.fA x.fn y.fc, .slice y.oA x.on y.oc, .slice y.bA x.bn y.bc, .slice y.sA x.sn y.sc, .int .i64 x.nx] 27) := ⟨_, rfl⟩
  go_enter Tryz.func12, Tryz.ntmps12
  go_wp2
  rw [← hW4] at B0 X0 Y0 ⊢
  clear hW4
  go_loopw [5] (fun i wr => ∃ k : Nat, k ≤ x.fn ∧ i = .int .i64 k ∧ Below W4.heap.size W4 wr) (fun i _ => x.fn - (intOf i).toNat)
  case atStart => exact ⟨0, Nat.zero_le _, rfl, Below.refl _ _⟩
  case round =>
    obtain ⟨k, hk, rfl, hb⟩ := hrel
    have HB := hide hb
    have BW := hide (B0.out.trans (hb.mono B0.out.size))
    have XW := hide (X0.out.below hb X0.out.lt)
    have YW := hide (Y0.out.below hb Y0.out.lt)
    clear hb
    have a1 := XW.out.cell 1
    have a2 := XW.out.cell 2
    simp at a1 a2
    have b1 := YW.out.cell 1
    simp at b1
    by_cases hlt : k < x.fn
    · obtain ⟨b, off, z, hA, hbB, hz, c0, c1, c2, c3, c4⟩ := Fs_at (HX.out.f.below BW.out) hlt
      obtain ⟨b', off', z', hA', hbB', hz', d0, d1, d2, d3, d4⟩ := Fs_at (FY.out.below BW.out) hlt
      obtain rfl : z = z' := by rw [HE.out.1, hz'] at hz; exact (Option.some.inj hz).symm
      have HA := hide (And.intro hA hA')
      rw [hA] at a1
      rw [hA'] at b1
      have hkz : (k : Int) < (x.fn : Int) := by omega
      have hq := fun w => fu_neq z z w
      simp only [decide_true, Bool.not_true] at hq
      unfold fuV at hq
      clear hz hz' hA hA' a2
      go_wp2_with fail
      go_quiet (fail)
      go_wp2
      go_roundw
      case rel => exact ⟨k + 1, by omega, by go_num, below_drewN HB.out _⟩
      case measure => simp [intOf]; omega
    · have hkz : ¬ (k : Int) < (x.fn : Int) := by omega
      clear hlt b1
      go_wp2
      clear a1 hkz a2
      go_loopw [6] (fun i wr => ∃ k : Nat, k ≤ x.on ∧ i = .int .i64 k ∧ Below W4.heap.size W4 wr) (fun i _ => x.on - (intOf i).toNat)
      case atStart => exact ⟨0, Nat.zero_le _, rfl, HB.out⟩
      case round =>
        clear HB BW XW YW hk
        obtain ⟨k, hk, rfl, hb⟩ := hrel
        have HB := hide hb
        have BW := hide (B0.out.trans (hb.mono B0.out.size))
        have XW := hide (X0.out.below hb X0.out.lt)
        have YW := hide (Y0.out.below hb Y0.out.lt)
        clear hb
        have a2 := XW.out.cell 2
        have a3 := XW.out.cell 3
        simp at a2 a3
        have b2 := YW.out.cell 2
        simp at b2
        by_cases hlt : k < x.on
        · obtain ⟨b, off, z, hA, hbB, hz, c0, c1, c2, c3, c4, c5, c6, c7, c8, c9⟩ := Ods_at (HX.out.o.below BW.out) hlt
          obtain ⟨b', off', z', hA', hbB', hz', d0, d1, d2, d3, d4, d5, d6, d7, d8, d9⟩ := Ods_at (OY.out.below BW.out) hlt
          obtain rfl : z = z' := by rw [HE.out.2.1, hz'] at hz; exact (Option.some.inj hz).symm
          have HA := hide (And.intro hA hA')
          rw [hA] at a2
          rw [hA'] at b2
          have hkz : (k : Int) < (x.on : Int) := by omega
          have HC := hide (fun W (hW : Below w.heap.size w W) => sameOd_any z W (((HX.out.os z (List.mem_of_getElem? hz)).below hW).more hW.size))
          unfold odV at HC
          clear hz hz' hA hA' a3
          go_wp2_with fail
          go_region_with (go_at_call 51; refine (HC.out _ (by first | exact BW.out.drew | exact below_drewN BW.out _)).mono ?_; rintro e w2 ⟨rfl, hb2⟩; have HB2 := hide (HB.out.drew.trans (hb2.mono HB.out.size)); clear hb2)
          all_goals
            go_wp2
            go_roundw
            case rel => exact ⟨k + 1, by omega, by go_num, HB2.out⟩
            case measure => simp [intOf]; omega
        · have hkz : ¬ (k : Int) < (x.on : Int) := by omega
          clear hlt b2
          go_wp2
          clear a2 hkz a3
          go_loopw [7] (fun i wr => ∃ k : Nat, k ≤ x.bn ∧ i = .int .i64 k ∧ Below W4.heap.size W4 wr) (fun i _ => x.bn - (intOf i).toNat)
          case atStart => exact ⟨0, Nat.zero_le _, rfl, HB.out⟩
          case round =>
            clear HB BW XW YW hk
            obtain ⟨k, hk, rfl, hb⟩ := hrel
            have HB := hide hb
            have BW := hide (B0.out.trans (hb.mono B0.out.size))
            have XW := hide (X0.out.below hb X0.out.lt)
            have YW := hide (Y0.out.below hb Y0.out.lt)
            clear hb
            have a3 := XW.out.cell 3
            have a4 := XW.out.cell 4
            simp at a3 a4
            have b3 := YW.out.cell 3
            simp at b3
            by_cases hlt : k < x.bn
            · obtain ⟨b, off, z, hA, hbB, hz, c0, c1, c2, c3, c4⟩ := Bls_at (HX.out.b.below BW.out) hlt
              obtain ⟨b', off', z', hA', hbB', hz', d0, d1, d2, d3, d4⟩ := Bls_at (BY.out.below BW.out) hlt
              obtain rfl : z = z' := by rw [HE.out.2.2.1, hz'] at hz; exact (Option.some.inj hz).symm
              have HA := hide (And.intro hA hA')
              rw [hA] at a3
              rw [hA'] at b3
              have hkz : (k : Int) < (x.bn : Int) := by omega
              have hq := fun w => bl_neq z z w
              simp only [decide_true, Bool.not_true] at hq
              unfold blV at hq
              clear hz hz' hA hA' a4
              go_wp2_with fail
              go_quiet (fail)
              go_wp2
              go_roundw
              case rel => exact ⟨k + 1, by omega, by go_num, below_drewN HB.out _⟩
              case measure => simp [intOf]; omega
            · have hkz : ¬ (k : Int) < (x.bn : Int) := by omega
              clear hlt b3
              go_wp2
              clear a3 hkz a4
              go_loopw [8] (fun i wr => ∃ k : Nat, k ≤ x.sn ∧ i = .int .i64 k ∧ Below W4.heap.size W4 wr) (fun i _ => x.sn - (intOf i).toNat)
              case atStart => exact ⟨0, Nat.zero_le _, rfl, HB.out⟩
              case round =>
                clear HB BW XW YW hk
                obtain ⟨k, hk, rfl, hb⟩ := hrel
                have HB := hide hb
                have BW := hide (B0.out.trans (hb.mono B0.out.size))
                have XW := hide (X0.out.below hb X0.out.lt)
                have YW := hide (Y0.out.below hb Y0.out.lt)
                clear hb
                have a4 := XW.out.cell 4
                simp at a4
                have b4 := YW.out.cell 4
                simp at b4
                by_cases hlt : k < x.sn
                · obtain ⟨b, off, z, hA, hbB, hz, c0, c1, c2, c3, c4, c5, c6, c7, c8⟩ := Ses_at (HX.out.s.below BW.out) hlt
                  obtain ⟨b', off', z', hA', hbB', hz', d0, d1, d2, d3, d4, d5, d6, d7, d8⟩ := Ses_at (SY.out.below BW.out) hlt
                  have hzz := HQ6.out k z z' hz hz'
                  have HA := hide (And.intro hA hA')
                  rw [hA] at a4
                  rw [hA'] at b4
                  have hkz : (k : Int) < (x.sn : Int) := by omega
                  have HC := hide (fun W (hW : Below w.heap.size w W) => sameSe_any z z' W hzz (((HX.out.ss z (List.mem_of_getElem? hz)).below hW).more hW.size) (((HY.out.ss z' (List.mem_of_getElem? hz')).below hW).more hW.size))
                  unfold seV at HC
                  clear hz hz' hA hA' hzz
                  go_wp2_with fail
                  go_region_with (go_at_call 52; refine (HC.out _ (by first | exact BW.out.drew | exact below_drewN BW.out _)).mono ?_; rintro e w2 ⟨rfl, hb2⟩; have HB2 := hide (HB.out.drew.trans (hb2.mono HB.out.size)); clear hb2)
                  all_goals
                    go_wp2
                    go_roundw
                    case rel => exact ⟨k + 1, by omega, by go_num, HB2.out⟩
                    case measure => simp [intOf]; omega
                · have hkz : ¬ (k : Int) < (x.sn : Int) := by omega
                  clear hlt b4
                  go_wp2
                  go_ret
                  exact ⟨rfl, BW.out⟩
end Go.Proofs.YtbhndfphegflhaaGreat
