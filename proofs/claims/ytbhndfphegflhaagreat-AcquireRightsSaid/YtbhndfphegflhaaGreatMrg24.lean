/- Texts laid together by merge.py: AqL. -/
import Derived.Test.YtbhndfphegflhaaGreatMrg23
import Derived.Test.YtbhndfphegflhaaGreatMrg4
import Derived.Deep.QuietTactic
import Derived.BigQuiet
import Derived.BigRegion
set_option linter.unusedSimpArgs false
set_option linter.unusedVariables false
/- Walks: sameOrder, SameSerial, Same, where both are the same. Printed by gen_aq_l.py. -/
namespace Go.Proofs.YtbhndfphegflhaaGreat
open Go.RowKit

set_option maxRecDepth 100000 in
set_option maxHeartbeats 2000000 in
theorem sameOd_any (x : Od) (w : World) (hs : OdS w w.heap.size x) :
    Calls Tryz.prog 51 #[odV x, odV x] w fun e w' => e = .returned (.bool true) ∧ Below w.heap.size w w' := by
  have hle := hs.le
  have hbig := hs.big
  have B1 := hide (((Below.refl w.heap.size w).alloc (Nat.le_refl _) (.cells (odC x) 35)).alloc (by simp) (.cells (odC x) 35))
  have X1 := hide ((Box.new w 35 (odC x)).alloc (.cells (odC x) 35))
  have X2 := hide (Box.new (w.alloc (.cells (odC x) 35)) 35 (odC x))
  have HS := hide hs
  have hgd := sh_guard
  clear hs
  unfold odV
  go_enter Tryz.func51, Tryz.ntmps51
  go_wp2
  go_loopw [5] (fun i wr => ∃ k : Nat, k ≤ x.shn ∧ i = .int .i64 k ∧ Below (w.heap.size + 2) ((w.alloc (.cells (odC x) 35)).alloc (.cells (odC x) 35)) wr) (fun i _ => x.shn - (intOf i).toNat)
  case atStart => exact ⟨0, Nat.zero_le _, rfl, Below.refl _ _⟩
  case round =>
    obtain ⟨k, hk, rfl, hb⟩ := hrel
    have HB := hide hb
    have BW := hide (B1.out.trans (hb.mono (by omega)))
    obtain ⟨_, d0, d1, d2, d3, d4, d5, d6, d7, d8, d9⟩ := od_box X1.out (hb.mono (by omega))
    obtain ⟨_, e0, e1, e2, e3, e4, e5, e6, e7, e8, e9⟩ := od_box X2.out (by rw [World.size_alloc]; exact hb)
    rw [World.size_alloc] at e0 e1 e2 e3 e4 e5 e6 e7 e8 e9
    clear hb
    by_cases hlt : k < x.shn
    · obtain ⟨b, off, y, hA, hbB, hy, c0, c1⟩ := Shs_at (HS.out.below BW.out) hlt
      rw [hA] at d9 e9
      have HA := hide hA
      have hkz : (k : Int) < (x.shn : Int) := by omega
      have hq := fun w => sh_neq y y w
      simp only [decide_true, Bool.not_true] at hq
      unfold shV at hq
      clear hy hA d0 d1 d2 d3 d4 d5 d6 d7 d8 e0 e1 e2 e3 e4 e5 e6 e7 e8
      go_wp2_with fail
      go_quiet (fail)
      go_wp2
      go_roundw
      case rel => exact ⟨k + 1, by omega, by go_num, below_drewN HB.out _⟩
      case measure => simp [intOf]; omega
    · go_wp2
      go_ret
      exact ⟨rfl, BW.out⟩


/-- The same subscription, perhaps elsewhere. -/
def SeQ (x y : Se) : Prop := ∃ A1 c1 A2 c2 A3 c3, y = { x with skA := A1, skc := c1, dbA := A2, dbc := c2, iuA := A3, iuc := c3 }
theorem SeQ.refl (x : Se) : SeQ x x := ⟨x.skA, x.skc, x.dbA, x.dbc, x.iuA, x.iuc, rfl⟩
set_option maxRecDepth 100000 in
set_option maxHeartbeats 4000000 in
theorem sameSe_any (x y : Se) (w : World) (hq : SeQ x y) (hx : SeS w w.heap.size x) (hy : SeS w w.heap.size y) :
    Calls Tryz.prog 52 #[seV x, seV y] w fun e w' => e = .returned (.bool true) ∧ Below w.heap.size w w' := by
  obtain ⟨A1, c1, A2, c2, A3, c3, rfl⟩ := hq
  have B0 := hide (((Below.refl w.heap.size w).alloc (Nat.le_refl _) (.cells (seC x) 76)).alloc (by simp) (.cells (seC { x with skA := A1, skc := c1, dbA := A2, dbc := c2, iuA := A3, iuc := c3 }) 76))
  have hb1 := hx.iu.big
  have hb2 : x.skn ≤ 140737488355328 := hx.pt.1.big
  have hb3 : x.dbn ≤ 140737488355328 := hx.pt.2.big
  have HX := hide hx
  have HY := hide hy
  have hgd := iu_guard
  clear hx hy
  unfold seV
  go_enter Tryz.func52, Tryz.ntmps52
  go_wp2_with fail
  go_big_region
  · obtain ⟨W4, hW4⟩ : ∃ W4, W4 = ((((w.alloc (.cells (seC x) 76)).alloc (.cells (seC { x with skA := A1, skc := c1, dbA := A2, dbc := c2, iuA := A3, iuc := c3 }) 76)).alloc (.cells #[.int .i64 x.start, .int .i64 x.every, .int .i64 x.pv, .int .i64 x.fv, .slice x.skA x.skn x.skc, .slice x.dbA x.dbn x.dbc] 67)).alloc (.cells #[.int .i64 x.start, .int .i64 x.every, .int .i64 x.pv, .int .i64 x.fv, .slice A1 x.skn c1, .slice A2 x.dbn c2] 67)) := ⟨_, rfl⟩
    have B4 := hide ((B0.out.alloc (by simp; omega) (.cells #[.int .i64 x.start, .int .i64 x.every, .int .i64 x.pv, .int .i64 x.fv, .slice x.skA x.skn x.skc, .slice x.dbA x.dbn x.dbc] 67)).alloc (by simp; omega) (.cells #[.int .i64 x.start, .int .i64 x.every, .int .i64 x.pv, .int .i64 x.fv, .slice A1 x.skn c1, .slice A2 x.dbn c2] 67))
    have X4 := hide ((((Box.new w 76 (seC x)).alloc (.cells (seC { x with skA := A1, skc := c1, dbA := A2, dbc := c2, iuA := A3, iuc := c3 }) 76)).alloc (.cells #[.int .i64 x.start, .int .i64 x.every, .int .i64 x.pv, .int .i64 x.fv, .slice x.skA x.skn x.skc, .slice x.dbA x.dbn x.dbc] 67)).alloc (.cells #[.int .i64 x.start, .int .i64 x.every, .int .i64 x.pv, .int .i64 x.fv, .slice A1 x.skn c1, .slice A2 x.dbn c2] 67))
    have Y4 := hide (((Box.new (w.alloc (.cells (seC x) 76)) 76 (seC { x with skA := A1, skc := c1, dbA := A2, dbc := c2, iuA := A3, iuc := c3 })).alloc (.cells #[.int .i64 x.start, .int .i64 x.every, .int .i64 x.pv, .int .i64 x.fv, .slice x.skA x.skn x.skc, .slice x.dbA x.dbn x.dbc] 67)).alloc (.cells #[.int .i64 x.start, .int .i64 x.every, .int .i64 x.pv, .int .i64 x.fv, .slice A1 x.skn c1, .slice A2 x.dbn c2] 67))
    have P4 := hide ((Box.new ((w.alloc (.cells (seC x) 76)).alloc (.cells (seC { x with skA := A1, skc := c1, dbA := A2, dbc := c2, iuA := A3, iuc := c3 }) 76)) 67 #[.int .i64 x.start, .int .i64 x.every, .int .i64 x.pv, .int .i64 x.fv, .slice x.skA x.skn x.skc, .slice x.dbA x.dbn x.dbc]).alloc (.cells #[.int .i64 x.start, .int .i64 x.every, .int .i64 x.pv, .int .i64 x.fv, .slice A1 x.skn c1, .slice A2 x.dbn c2] 67))
    have Q4 := hide (Box.new (((w.alloc (.cells (seC x) 76)).alloc (.cells (seC { x with skA := A1, skc := c1, dbA := A2, dbc := c2, iuA := A3, iuc := c3 }) 76)).alloc (.cells #[.int .i64 x.start, .int .i64 x.every, .int .i64 x.pv, .int .i64 x.fv, .slice x.skA x.skn x.skc, .slice x.dbA x.dbn x.dbc] 67)) 67 #[.int .i64 x.start, .int .i64 x.every, .int .i64 x.pv, .int .i64 x.fv, .slice A1 x.skn c1, .slice A2 x.dbn c2])
    simp only [World.size_alloc] at Y4 P4 Q4
    rw [← hW4] at B4 X4 Y4 P4 Q4 ⊢
    clear hW4 B0
    have a0 := X4.out.cell 0
    have a1 := X4.out.cell 1
    have a2 := X4.out.cell 2
    have a3 := X4.out.cell 3
    have a4 := X4.out.cell 4
    have a5 := X4.out.cell 5
    have a6 := X4.out.cell 6
    have a7 := X4.out.cell 7
    have a8 := X4.out.cell 8
    simp at a0 a1 a2 a3 a4 a5 a6 a7 a8
    have b0 := Y4.out.cell 0
    have b1 := Y4.out.cell 1
    have b2 := Y4.out.cell 2
    have b3 := Y4.out.cell 3
    have b4 := Y4.out.cell 4
    have b5 := Y4.out.cell 5
    have b6 := Y4.out.cell 6
    have b7 := Y4.out.cell 7
    have b8 := Y4.out.cell 8
    simp at b0 b1 b2 b3 b4 b5 b6 b7 b8
    have p0 := P4.out.cell 0
    have p1 := P4.out.cell 1
    have p2 := P4.out.cell 2
    have p3 := P4.out.cell 3
    have p4 := P4.out.cell 4
    have p5 := P4.out.cell 5
    simp at p0 p1 p2 p3 p4 p5
    have q0 := Q4.out.cell 0
    have q1 := Q4.out.cell 1
    have q2 := Q4.out.cell 2
    have q3 := Q4.out.cell 3
    have q4 := Q4.out.cell 4
    have q5 := Q4.out.cell 5
    simp at q0 q1 q2 q3 q4 q5
    go_wp2
    clear a0 a1 a2 a3 a4 a5 a6 a7 a8 b0 b1 b2 b3 b4 b5 b6 b7 b8 p0 q0 p1 q1 p2 q2 p3 q3 p4 q4 p5 q5
    go_loopw [7] (fun i wr => ∃ k : Nat, k ≤ x.iun ∧ i = .int .i64 k ∧ Below W4.heap.size W4 wr) (fun i _ => x.iun - (intOf i).toNat)
    case atStart => first | exact ⟨0, Nat.zero_le _, rfl, below_drewN (Below.refl _ _) _⟩ | exact ⟨0, Nat.zero_le _, rfl, (Below.refl _ _).drew⟩ | exact ⟨0, Nat.zero_le _, rfl, Below.refl _ _⟩
    case round =>
      obtain ⟨k, hk, rfl, hb⟩ := hrel
      have HB := hide hb
      have BW := hide (B4.out.trans (hb.mono B4.out.size))
      have XW := hide (X4.out.below hb X4.out.lt)
      have YW := hide (Y4.out.below hb Y4.out.lt)
      have PW := hide (P4.out.below hb P4.out.lt)
      have QW := hide (Q4.out.below hb Q4.out.lt)
      clear hb
      have a8 := XW.out.cell 8
      simp at a8
      have b8 := YW.out.cell 8
      simp at b8
      by_cases hlt : k < x.iun
      · obtain ⟨b, off, z, hA, hbB, hz, k0, k1, k2, k3, k4, k5⟩ := Ius_at (HX.out.iu.below BW.out) hlt
        obtain ⟨b', off', z', hA', hbB', hz', d0, d1, d2, d3, d4, d5⟩ := Ius_at (HY.out.iu.below BW.out) hlt
        obtain rfl : z = z' := by
          have h1 : x.iu[k]? = some z := hz
          have h2 : x.iu[k]? = some z' := hz'
          rw [h1] at h2; exact Option.some.inj h2
        rw [show x.iuA = some ⟨b, off, none⟩ from hA] at a8
        rw [show A3 = some ⟨b', off', none⟩ from hA'] at b8
        have hkz : (k : Int) < (x.iun : Int) := by omega
        have hq := fun w => iu_neq z z w
        simp only [decide_true, Bool.not_true] at hq
        unfold iuV at hq
        clear hz hz' hA hA'
        go_wp2_with fail
        go_quiet (fail)
        go_wp2
        go_roundw
        case rel => exact ⟨k + 1, by omega, by go_num, below_drewN HB.out _⟩
        case measure => simp [intOf]; omega
      · have hkz : ¬ (k : Int) < (x.iun : Int) := by omega
        clear hlt b8
        have e4 := PW.out.cell 4
        simp at e4
        go_wp2
        clear a8 hkz e4
        go_loopw [8] (fun i wr => ∃ k : Nat, k ≤ x.skn ∧ i = .int .i64 k ∧ Below W4.heap.size W4 wr) (fun i _ => x.skn - (intOf i).toNat)
        case atStart => exact ⟨0, Nat.zero_le _, rfl, HB.out⟩
        case round =>
          clear HB BW XW YW PW QW hk
          obtain ⟨k, hk, rfl, hb⟩ := hrel
          have HB := hide hb
          have BW := hide (B4.out.trans (hb.mono B4.out.size))
          have XW := hide (X4.out.below hb X4.out.lt)
          have YW := hide (Y4.out.below hb Y4.out.lt)
          have PW := hide (P4.out.below hb P4.out.lt)
          have QW := hide (Q4.out.below hb Q4.out.lt)
          clear hb
          have a4 := PW.out.cell 4
          simp at a4
          have b4 := QW.out.cell 4
          simp at b4
          by_cases hlt : k < x.skn
          · obtain ⟨b, off, z, hA, hbB, hz, k0⟩ := Is_at (HX.out.pt.1.below BW.out) hlt
            obtain ⟨b', off', z', hA', hbB', hz', d0⟩ := Is_at (HY.out.pt.1.below BW.out) hlt
            obtain rfl : z = z' := by
              have h1 : x.sk[k]? = some z := hz
              have h2 : x.sk[k]? = some z' := hz'
              rw [h1] at h2; exact Option.some.inj h2
            rw [show x.skA = some ⟨b, off, none⟩ from hA] at a4
            rw [show A1 = some ⟨b', off', none⟩ from hA'] at b4
            have hkz : (k : Int) < (x.skn : Int) := by omega
            clear hz hz' hA hA'
            go_wp2_with fail
            go_quiet (fail)
            go_wp2
            go_roundw
            case rel => exact ⟨k + 1, by omega, by go_num, below_drewN HB.out _⟩
            case measure => simp [intOf]; omega
          · have hkz : ¬ (k : Int) < (x.skn : Int) := by omega
            clear hlt b4
            have e5 := PW.out.cell 5
            simp at e5
            go_wp2
            clear a4 hkz e5
            go_loopw [9] (fun i wr => ∃ k : Nat, k ≤ x.dbn ∧ i = .int .i64 k ∧ Below W4.heap.size W4 wr) (fun i _ => x.dbn - (intOf i).toNat)
            case atStart => exact ⟨0, Nat.zero_le _, rfl, HB.out⟩
            case round =>
              clear HB BW XW YW PW QW hk
              obtain ⟨k, hk, rfl, hb⟩ := hrel
              have HB := hide hb
              have BW := hide (B4.out.trans (hb.mono B4.out.size))
              have XW := hide (X4.out.below hb X4.out.lt)
              have YW := hide (Y4.out.below hb Y4.out.lt)
              have PW := hide (P4.out.below hb P4.out.lt)
              have QW := hide (Q4.out.below hb Q4.out.lt)
              clear hb
              have a5 := PW.out.cell 5
              simp at a5
              have b5 := QW.out.cell 5
              simp at b5
              by_cases hlt : k < x.dbn
              · obtain ⟨b, off, z, hA, hbB, hz, k0⟩ := Is_at (HX.out.pt.2.below BW.out) hlt
                obtain ⟨b', off', z', hA', hbB', hz', d0⟩ := Is_at (HY.out.pt.2.below BW.out) hlt
                obtain rfl : z = z' := by
                  have h1 : x.db[k]? = some z := hz
                  have h2 : x.db[k]? = some z' := hz'
                  rw [h1] at h2; exact Option.some.inj h2
                rw [show x.dbA = some ⟨b, off, none⟩ from hA] at a5
                rw [show A2 = some ⟨b', off', none⟩ from hA'] at b5
                have hkz : (k : Int) < (x.dbn : Int) := by omega
                clear hz hz' hA hA'
                go_wp2_with fail
                go_quiet (fail)
                go_wp2
                go_roundw
                case rel => exact ⟨k + 1, by omega, by go_num, below_drewN HB.out _⟩
                case measure => simp [intOf]; omega
              · have hkz : ¬ (k : Int) < (x.dbn : Int) := by omega
                clear hlt b5
                go_wp2
                go_ret
                exact ⟨rfl, BW.out⟩
  · obtain ⟨W4, hW4⟩ : ∃ W4, W4 = ((((w.alloc (.cells (seC x) 76)).alloc (.cells (seC { x with skA := A1, skc := c1, dbA := A2, dbc := c2, iuA := A3, iuc := c3 }) 76)).alloc (.cells #[.int .i64 x.start, .int .i64 x.every, .int .i64 x.pv, .int .i64 x.fv, .slice A1 x.skn c1, .slice A2 x.dbn c2] 67)).alloc (.cells #[.int .i64 x.start, .int .i64 x.every, .int .i64 x.pv, .int .i64 x.fv, .slice x.skA x.skn x.skc, .slice x.dbA x.dbn x.dbc] 67)) := ⟨_, rfl⟩
    have B4 := hide ((B0.out.alloc (by simp; omega) (.cells #[.int .i64 x.start, .int .i64 x.every, .int .i64 x.pv, .int .i64 x.fv, .slice A1 x.skn c1, .slice A2 x.dbn c2] 67)).alloc (by simp; omega) (.cells #[.int .i64 x.start, .int .i64 x.every, .int .i64 x.pv, .int .i64 x.fv, .slice x.skA x.skn x.skc, .slice x.dbA x.dbn x.dbc] 67))
    have X4 := hide ((((Box.new w 76 (seC x)).alloc (.cells (seC { x with skA := A1, skc := c1, dbA := A2, dbc := c2, iuA := A3, iuc := c3 }) 76)).alloc (.cells #[.int .i64 x.start, .int .i64 x.every, .int .i64 x.pv, .int .i64 x.fv, .slice A1 x.skn c1, .slice A2 x.dbn c2] 67)).alloc (.cells #[.int .i64 x.start, .int .i64 x.every, .int .i64 x.pv, .int .i64 x.fv, .slice x.skA x.skn x.skc, .slice x.dbA x.dbn x.dbc] 67))
    have Y4 := hide (((Box.new (w.alloc (.cells (seC x) 76)) 76 (seC { x with skA := A1, skc := c1, dbA := A2, dbc := c2, iuA := A3, iuc := c3 })).alloc (.cells #[.int .i64 x.start, .int .i64 x.every, .int .i64 x.pv, .int .i64 x.fv, .slice A1 x.skn c1, .slice A2 x.dbn c2] 67)).alloc (.cells #[.int .i64 x.start, .int .i64 x.every, .int .i64 x.pv, .int .i64 x.fv, .slice x.skA x.skn x.skc, .slice x.dbA x.dbn x.dbc] 67))
    have P4 := hide ((Box.new ((w.alloc (.cells (seC x) 76)).alloc (.cells (seC { x with skA := A1, skc := c1, dbA := A2, dbc := c2, iuA := A3, iuc := c3 }) 76)) 67 #[.int .i64 x.start, .int .i64 x.every, .int .i64 x.pv, .int .i64 x.fv, .slice A1 x.skn c1, .slice A2 x.dbn c2]).alloc (.cells #[.int .i64 x.start, .int .i64 x.every, .int .i64 x.pv, .int .i64 x.fv, .slice x.skA x.skn x.skc, .slice x.dbA x.dbn x.dbc] 67))
    have Q4 := hide (Box.new (((w.alloc (.cells (seC x) 76)).alloc (.cells (seC { x with skA := A1, skc := c1, dbA := A2, dbc := c2, iuA := A3, iuc := c3 }) 76)).alloc (.cells #[.int .i64 x.start, .int .i64 x.every, .int .i64 x.pv, .int .i64 x.fv, .slice A1 x.skn c1, .slice A2 x.dbn c2] 67)) 67 #[.int .i64 x.start, .int .i64 x.every, .int .i64 x.pv, .int .i64 x.fv, .slice x.skA x.skn x.skc, .slice x.dbA x.dbn x.dbc])
    simp only [World.size_alloc] at Y4 P4 Q4
    rw [← hW4] at B4 X4 Y4 P4 Q4 ⊢
    clear hW4 B0
    have a0 := X4.out.cell 0
    have a1 := X4.out.cell 1
    have a2 := X4.out.cell 2
    have a3 := X4.out.cell 3
    have a4 := X4.out.cell 4
    have a5 := X4.out.cell 5
    have a6 := X4.out.cell 6
    have a7 := X4.out.cell 7
    have a8 := X4.out.cell 8
    simp at a0 a1 a2 a3 a4 a5 a6 a7 a8
    have b0 := Y4.out.cell 0
    have b1 := Y4.out.cell 1
    have b2 := Y4.out.cell 2
    have b3 := Y4.out.cell 3
    have b4 := Y4.out.cell 4
    have b5 := Y4.out.cell 5
    have b6 := Y4.out.cell 6
    have b7 := Y4.out.cell 7
    have b8 := Y4.out.cell 8
    simp at b0 b1 b2 b3 b4 b5 b6 b7 b8
    have p0 := P4.out.cell 0
    have p1 := P4.out.cell 1
    have p2 := P4.out.cell 2
    have p3 := P4.out.cell 3
    have p4 := P4.out.cell 4
    have p5 := P4.out.cell 5
    simp at p0 p1 p2 p3 p4 p5
    have q0 := Q4.out.cell 0
    have q1 := Q4.out.cell 1
    have q2 := Q4.out.cell 2
    have q3 := Q4.out.cell 3
    have q4 := Q4.out.cell 4
    have q5 := Q4.out.cell 5
    simp at q0 q1 q2 q3 q4 q5
    go_wp2
    clear a0 a1 a2 a3 a4 a5 a6 a7 a8 b0 b1 b2 b3 b4 b5 b6 b7 b8 p0 q0 p1 q1 p2 q2 p3 q3 p4 q4 p5 q5
    go_loopw [7] (fun i wr => ∃ k : Nat, k ≤ x.iun ∧ i = .int .i64 k ∧ Below W4.heap.size W4 wr) (fun i _ => x.iun - (intOf i).toNat)
    case atStart => first | exact ⟨0, Nat.zero_le _, rfl, below_drewN (Below.refl _ _) _⟩ | exact ⟨0, Nat.zero_le _, rfl, (Below.refl _ _).drew⟩ | exact ⟨0, Nat.zero_le _, rfl, Below.refl _ _⟩
    case round =>
      obtain ⟨k, hk, rfl, hb⟩ := hrel
      have HB := hide hb
      have BW := hide (B4.out.trans (hb.mono B4.out.size))
      have XW := hide (X4.out.below hb X4.out.lt)
      have YW := hide (Y4.out.below hb Y4.out.lt)
      have PW := hide (P4.out.below hb P4.out.lt)
      have QW := hide (Q4.out.below hb Q4.out.lt)
      clear hb
      have a8 := XW.out.cell 8
      simp at a8
      have b8 := YW.out.cell 8
      simp at b8
      by_cases hlt : k < x.iun
      · obtain ⟨b, off, z, hA, hbB, hz, k0, k1, k2, k3, k4, k5⟩ := Ius_at (HX.out.iu.below BW.out) hlt
        obtain ⟨b', off', z', hA', hbB', hz', d0, d1, d2, d3, d4, d5⟩ := Ius_at (HY.out.iu.below BW.out) hlt
        obtain rfl : z = z' := by
          have h1 : x.iu[k]? = some z := hz
          have h2 : x.iu[k]? = some z' := hz'
          rw [h1] at h2; exact Option.some.inj h2
        rw [show x.iuA = some ⟨b, off, none⟩ from hA] at a8
        rw [show A3 = some ⟨b', off', none⟩ from hA'] at b8
        have hkz : (k : Int) < (x.iun : Int) := by omega
        have hq := fun w => iu_neq z z w
        simp only [decide_true, Bool.not_true] at hq
        unfold iuV at hq
        clear hz hz' hA hA'
        go_wp2_with fail
        go_quiet (fail)
        go_wp2
        go_roundw
        case rel => exact ⟨k + 1, by omega, by go_num, below_drewN HB.out _⟩
        case measure => simp [intOf]; omega
      · have hkz : ¬ (k : Int) < (x.iun : Int) := by omega
        clear hlt b8
        have e4 := QW.out.cell 4
        simp at e4
        go_wp2
        clear a8 hkz e4
        go_loopw [8] (fun i wr => ∃ k : Nat, k ≤ x.skn ∧ i = .int .i64 k ∧ Below W4.heap.size W4 wr) (fun i _ => x.skn - (intOf i).toNat)
        case atStart => exact ⟨0, Nat.zero_le _, rfl, HB.out⟩
        case round =>
          clear HB BW XW YW PW QW hk
          obtain ⟨k, hk, rfl, hb⟩ := hrel
          have HB := hide hb
          have BW := hide (B4.out.trans (hb.mono B4.out.size))
          have XW := hide (X4.out.below hb X4.out.lt)
          have YW := hide (Y4.out.below hb Y4.out.lt)
          have PW := hide (P4.out.below hb P4.out.lt)
          have QW := hide (Q4.out.below hb Q4.out.lt)
          clear hb
          have a4 := QW.out.cell 4
          simp at a4
          have b4 := PW.out.cell 4
          simp at b4
          by_cases hlt : k < x.skn
          · obtain ⟨b, off, z, hA, hbB, hz, k0⟩ := Is_at (HX.out.pt.1.below BW.out) hlt
            obtain ⟨b', off', z', hA', hbB', hz', d0⟩ := Is_at (HY.out.pt.1.below BW.out) hlt
            obtain rfl : z = z' := by
              have h1 : x.sk[k]? = some z := hz
              have h2 : x.sk[k]? = some z' := hz'
              rw [h1] at h2; exact Option.some.inj h2
            rw [show x.skA = some ⟨b, off, none⟩ from hA] at a4
            rw [show A1 = some ⟨b', off', none⟩ from hA'] at b4
            have hkz : (k : Int) < (x.skn : Int) := by omega
            clear hz hz' hA hA'
            go_wp2_with fail
            go_quiet (fail)
            go_wp2
            go_roundw
            case rel => exact ⟨k + 1, by omega, by go_num, below_drewN HB.out _⟩
            case measure => simp [intOf]; omega
          · have hkz : ¬ (k : Int) < (x.skn : Int) := by omega
            clear hlt b4
            have e5 := QW.out.cell 5
            simp at e5
            go_wp2
            clear a4 hkz e5
            go_loopw [9] (fun i wr => ∃ k : Nat, k ≤ x.dbn ∧ i = .int .i64 k ∧ Below W4.heap.size W4 wr) (fun i _ => x.dbn - (intOf i).toNat)
            case atStart => exact ⟨0, Nat.zero_le _, rfl, HB.out⟩
            case round =>
              clear HB BW XW YW PW QW hk
              obtain ⟨k, hk, rfl, hb⟩ := hrel
              have HB := hide hb
              have BW := hide (B4.out.trans (hb.mono B4.out.size))
              have XW := hide (X4.out.below hb X4.out.lt)
              have YW := hide (Y4.out.below hb Y4.out.lt)
              have PW := hide (P4.out.below hb P4.out.lt)
              have QW := hide (Q4.out.below hb Q4.out.lt)
              clear hb
              have a5 := QW.out.cell 5
              simp at a5
              have b5 := PW.out.cell 5
              simp at b5
              by_cases hlt : k < x.dbn
              · obtain ⟨b, off, z, hA, hbB, hz, k0⟩ := Is_at (HX.out.pt.2.below BW.out) hlt
                obtain ⟨b', off', z', hA', hbB', hz', d0⟩ := Is_at (HY.out.pt.2.below BW.out) hlt
                obtain rfl : z = z' := by
                  have h1 : x.db[k]? = some z := hz
                  have h2 : x.db[k]? = some z' := hz'
                  rw [h1] at h2; exact Option.some.inj h2
                rw [show x.dbA = some ⟨b, off, none⟩ from hA] at a5
                rw [show A2 = some ⟨b', off', none⟩ from hA'] at b5
                have hkz : (k : Int) < (x.dbn : Int) := by omega
                clear hz hz' hA hA'
                go_wp2_with fail
                go_quiet (fail)
                go_wp2
                go_roundw
                case rel => exact ⟨k + 1, by omega, by go_num, below_drewN HB.out _⟩
                case measure => simp [intOf]; omega
              · have hkz : ¬ (k : Int) < (x.dbn : Int) := by omega
                clear hlt b5
                go_wp2
                go_ret
                exact ⟨rfl, BW.out⟩
end Go.Proofs.YtbhndfphegflhaaGreat
