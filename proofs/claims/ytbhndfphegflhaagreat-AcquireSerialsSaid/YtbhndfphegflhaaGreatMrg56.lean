/- Texts laid together: what was cut out of others: FuD, BlKit, AqL, AqN. -/
import Derived.Test.YtbhndfphegflhaaGreatMrg1
import Derived.Test.YtbhndfphegflhaaGreatMrg5
import Derived.Test.YtbhndfphegflhaaGreatMrg3
import Derived.Test.YtbhndfphegflhaaGreatMrg0
import Derived.Test.YtbhndfphegflhaaGreatProg
import Derived.Shelf.Abstract
import Derived.Test.YtbhndfphegflhaaGreatMrg24
import Derived.Test.YtbhndfphegflhaaGreatMrg23
import Derived.Test.YtbhndfphegflhaaGreatMrg4
import Derived.Deep.QuietTactic
import Derived.BigQuiet
import Derived.BigRegion
import Derived.Test.YtbhndfphegflhaaGreatMrg27
import Derived.Test.YtbhndfphegflhaaGreatMrg49
set_option linter.unusedSimpArgs false
set_option linter.unusedVariables false
namespace Go.Proofs.YtbhndfphegflhaaGreat
open Go.RowKit
section
theorem fu_stood : Tryz.prog.stoodInHeld 57 = false := by kernel_rfl

theorem fu_eq (x y : Fu) (w : World) : (Op.equalIn 10000 57 (fuV x) (fuV y)).run Tryz.prog w = .ok (decide (x = y)) w := by
  obtain ⟨a0, a1, a2, a3, a4⟩ := x
  obtain ⟨b0, b1, b2, b3, b4⟩ := y
  have u3 := Tryz.underlying3
  simp only [fuV]
  rw [show (10000 : Nat) = 9999 + 1 from rfl, run_equalIn_agg w 9999 57 _ _ fu_struct fu_stood]
  simp only [Program.fieldsOf, Tryz.underlying57]
  go_simp
  by_cases h0 : a0 = b0 <;> by_cases h1 : a1 = b1 <;> by_cases h2 : a2 = b2 <;> by_cases h3 : a3 = b3 <;> by_cases h4 : a4 = b4 <;> simp [h0, h1, h2, h3, h4]

theorem fu_neq (x y : Fu) (w : World) : (binOp .neq 57 (fuV x) (fuV y)).run Tryz.prog w = .ok (.bool (!decide (x = y))) w := by
  have h := fu_eq x y w
  unfold fuV at h ⊢
  rw [run_neq_struct, h]; rfl
theorem fu_guard : Tryz.prog.eqGuardType Tryz.prog.depth 57 = false := by kernel_rfl

end
end Go.Proofs.YtbhndfphegflhaaGreat
namespace Go.Proofs.YtbhndfphegflhaaGreat
open Go.RowKit
section
theorem bl_stood : Tryz.prog.stoodInHeld 43 = false := by kernel_rfl
theorem bl_guard : Tryz.prog.eqGuardType Tryz.prog.depth 43 = false := by kernel_rfl
theorem bl_eq (x y : Bl) (w : World) : (Op.equalIn 10000 43 (blV x) (blV y)).run Tryz.prog w = .ok (decide (x = y)) w := by
  obtain ⟨a0, a1, a2, a3, a4⟩ := x
  obtain ⟨b0, b1, b2, b3, b4⟩ := y
  have u3 := Tryz.underlying3
  have u4 := Tryz.underlying4
  simp only [blV]
  rw [show (10000 : Nat) = 9999 + 1 from rfl, run_equalIn_agg w 9999 43 _ _ bl_struct bl_stood]
  simp only [Program.fieldsOf, Tryz.underlying43]
  go_simp
  by_cases h0 : a0 = b0
  case neg => simp [h0]
  by_cases h1 : a1 = b1
  case neg => simp [h0, h1]
  by_cases h2 : a2 = b2
  case neg => simp [h0, h1, h2]
  by_cases h3 : a3 = b3
  case neg => simp [h0, h1, h2, h3]
  by_cases h4 : a4 = b4
  case neg => simp [h0, h1, h2, h3, h4]
  subst h0 h1 h2 h3 h4
  simp
theorem bl_neq (x y : Bl) (w : World) : (binOp .neq 43 (blV x) (blV y)).run Tryz.prog w = .ok (.bool (!decide (x = y))) w := by
  have h := bl_eq x y w
  unfold blV at h ⊢
  rw [run_neq_struct, h]; rfl
end
end Go.Proofs.YtbhndfphegflhaaGreat
namespace Go.Proofs.YtbhndfphegflhaaGreat
open Go.RowKit
section
set_option maxRecDepth 100000 in
set_option maxHeartbeats 2000000 in
theorem sameOd_any (x : Od) (w : World) (hs : OdS w w.heap.size x) :
    Calls Tryz.prog 51 #[odV x, odV x] w fun e w' => e = .returned (.bool true) ∧ Below w.heap.size w w' := by
  have hle := hs.le
  have hbig := hs.big
  have B1 := hide (((Below.refl w.heap.size w).alloc (Nat.le_refl _) (.cells (odC x) 35)).alloc (by simp) (.cells (odC x) 35))
  have X1 := hide ((Box.new w 35 (odC x)).alloc (.cells (odC x) 35))
  have X2 := hide (Box.new (w.alloc (.cells (odC x) 35)) 35 (odC x))
  have HS := hide hs
  have hgd := sh_guard
  clear hs
  unfold odV
  go_enter Tryz.func51, Tryz.ntmps51
  go_wp2
  go_loopw [5] (fun i wr => ∃ k : Nat, k ≤ x.shn ∧ i = .int .i64 k ∧ Below (w.heap.size + 2) ((w.alloc (.cells (odC x) 35)).alloc (.cells (odC x) 35)) wr) (fun i _ => x.shn - (intOf i).toNat)
  case atStart => exact ⟨0, Nat.zero_le _, rfl, Below.refl _ _⟩
  case round =>
    obtain ⟨k, hk, rfl, hb⟩ := hrel
    have HB := hide hb
    have BW := hide (B1.out.trans (hb.mono (by omega)))
    obtain ⟨_, d0, d1, d2, d3, d4, d5, d6, d7, d8, d9⟩ := od_box X1.out (hb.mono (by omega))
    obtain ⟨_, e0, e1, e2, e3, e4, e5, e6, e7, e8, e9⟩ := od_box X2.out (by rw [World.size_alloc]; exact hb)
    rw [World.size_alloc] at e0 e1 e2 e3 e4 e5 e6 e7 e8 e9
    clear hb
    by_cases hlt : k < x.shn
    · obtain ⟨b, off, y, hA, hbB, hy, c0, c1⟩ := Shs_at (HS.out.below BW.out) hlt
      rw [hA] at d9 e9
      have HA := hide hA
      have hkz : (k : Int) < (x.shn : Int) := by omega
      have hq := fun w => sh_neq y y w
      simp only [decide_true, Bool.not_true] at hq
      unfold shV at hq
      clear hy hA d0 d1 d2 d3 d4 d5 d6 d7 d8 e0 e1 e2 e3 e4 e5 e6 e7 e8
      go_wp2_with fail
      go_quiet (fail)
      go_wp2
      go_roundw
      case rel => exact ⟨k + 1, by omega, by go_num, below_drewN HB.out _⟩
      case measure => simp [intOf]; omega
    · go_wp2
      go_ret
      exact ⟨rfl, BW.out⟩


set_option maxRecDepth 100000 in
set_option maxHeartbeats 4000000 in
theorem sameSe_any (x y : Se) (w : World) (hq : SeQ x y) (hx : SeS w w.heap.size x) (hy : SeS w w.heap.size y) :
    Calls Tryz.prog 52 #[seV x, seV y] w fun e w' => e = .returned (.bool true) ∧ Below w.heap.size w w' := by
  obtain ⟨A1, c1, A2, c2, A3, c3, rfl⟩ := hq
  have B0 := hide (((Below.refl w.heap.size w).alloc (Nat.le_refl _) (.cells (seC x) 76)).alloc (by simp) (.cells (seC { x with skA := A1, skc := c1, dbA := A2, dbc := c2, iuA := A3, iuc := c3 }) 76))
  have hb1 := hx.iu.big
  have hb2 : x.skn ≤ 140737488355328 := hx.pt.1.big
  have hb3 : x.dbn ≤ 140737488355328 := hx.pt.2.big
  have HX := hide hx
  have HY := hide hy
  have hgd := iu_guard
  clear hx hy
  unfold seV
  go_enter Tryz.func52, Tryz.ntmps52
  go_wp2_with fail
  go_big_region
  · obtain ⟨W4, hW4⟩ : ∃ W4, W4 = ((((w.alloc (.cells (seC x) 76)).alloc (.cells (seC { x with skA := A1, skc := c1, dbA := A2, dbc := c2, iuA := A3, iuc := c3 }) 76)).alloc (.cells #[.int .i64 x.start, .int .i64 x.every, .int .i64 x.pv, .int .i64 x.fv, .slice x.skA x.skn x.skc, .slice x.dbA x.dbn x.dbc] 67)).alloc (.cells #[.int .i64 x.start, .int .i64 x.every, .int .i64 x.pv, .int .i64 x.fv, .slice A1 x.skn c1, .slice A2 x.dbn c2] 67)) := ⟨_, rfl⟩
    have B4 := hide ((B0.out.alloc (by simp; omega) (.cells #[.int .i64 x.start, .int .i64 x.every, .int .i64 x.pv, .int .i64 x.fv, .slice x.skA x.skn x.skc, .slice x.dbA x.dbn x.dbc] 67)).alloc (by simp; omega) (.cells #[.int .i64 x.start, .int .i64 x.every, .int .i64 x.pv, .int .i64 x.fv, .slice A1 x.skn c1, .slice A2 x.dbn c2] 67))
    have X4 := hide ((((Box.new w 76 (seC x)).alloc (.cells (seC { x with skA := A1, skc := c1, dbA := A2, dbc := c2, iuA := A3, iuc := c3 }) 76)).alloc (.cells #[.int .i64 x.start, .int .i64 x.every, .int .i64 x.pv, .int .i64 x.fv, .slice x.skA x.skn x.skc, .slice x.dbA x.dbn x.dbc] 67)).alloc (.cells #[.int .i64 x.start, .int .i64 x.every, .int .i64 x.pv, .int .i64 x.fv, .slice A1 x.skn c1, .slice A2 x.dbn c2] 67))
    have Y4 := hide (((Box.new (w.alloc (.cells (seC x) 76)) 76 (seC { x with skA := A1, skc := c1, dbA := A2, dbc := c2, iuA := A3, iuc := c3 })).alloc (.cells #[.int .i64 x.start, .int .i64 x.every, .int .i64 x.pv, .int .i64 x.fv, .slice x.skA x.skn x.skc, .slice x.dbA x.dbn x.dbc] 67)).alloc (.cells #[.int .i64 x.start, .int .i64 x.every, .int .i64 x.pv, .int .i64 x.fv, .slice A1 x.skn c1, .slice A2 x.dbn c2] 67))
    have P4 := hide ((Box.new ((w.alloc (.cells (seC x) 76)).alloc (.cells (seC { x with skA := A1, skc := c1, dbA := A2, dbc := c2, iuA := A3, iuc := c3 }) 76)) 67 #[.int .i64 x.start, .int .i64 x.every, .int .i64 x.pv, .int .i64 x.fv, .slice x.skA x.skn x.skc, .slice x.dbA x.dbn x.dbc]).alloc (.cells #[.int .i64 x.start, .int .i64 x.every, .int .i64 x.pv, .int .i64 x.fv, .slice A1 x.skn c1, .slice A2 x.dbn c2] 67))
    have Q4 := hide (Box.new (((w.alloc (.cells (seC x) 76)).alloc (.cells (seC { x with skA := A1, skc := c1, dbA := A2, dbc := c2, iuA := A3, iuc := c3 }) 76)).alloc (.cells #[.int .i64 x.start, .int .i64 x.every, .int .i64 x.pv, .int .i64 x.fv, .slice x.skA x.skn x.skc, .slice x.dbA x.dbn x.dbc] 67)) 67 #[.int .i64 x.start, .int .i64 x.every, .int .i64 x.pv, .int .i64 x.fv, .slice A1 x.skn c1, .slice A2 x.dbn c2])
    simp only [World.size_alloc] at Y4 P4 Q4
    rw [← hW4] at B4 X4 Y4 P4 Q4 ⊢
    clear hW4 B0
    have a0 := X4.out.cell 0
    have a1 := X4.out.cell 1
    have a2 := X4.out.cell 2
    have a3 := X4.out.cell 3
    have a4 := X4.out.cell 4
    have a5 := X4.out.cell 5
    have a6 := X4.out.cell 6
    have a7 := X4.out.cell 7
    have a8 := X4.out.cell 8
    simp at a0 a1 a2 a3 a4 a5 a6 a7 a8
    have b0 := Y4.out.cell 0
    have b1 := Y4.out.cell 1
    have b2 := Y4.out.cell 2
    have b3 := Y4.out.cell 3
    have b4 := Y4.out.cell 4
    have b5 := Y4.out.cell 5
    have b6 := Y4.out.cell 6
    have b7 := Y4.out.cell 7
    have b8 := Y4.out.cell 8
    simp at b0 b1 b2 b3 b4 b5 b6 b7 b8
    have p0 := P4.out.cell 0
    have p1 := P4.out.cell 1
    have p2 := P4.out.cell 2
    have p3 := P4.out.cell 3
    have p4 := P4.out.cell 4
    have p5 := P4.out.cell 5
    simp at p0 p1 p2 p3 p4 p5
    have q0 := Q4.out.cell 0
    have q1 := Q4.out.cell 1
    have q2 := Q4.out.cell 2
    have q3 := Q4.out.cell 3
    have q4 := Q4.out.cell 4
    have q5 := Q4.out.cell 5
    simp at q0 q1 q2 q3 q4 q5
    go_wp2
    clear a0 a1 a2 a3 a4 a5 a6 a7 a8 b0 b1 b2 b3 b4 b5 b6 b7 b8 p0 q0 p1 q1 p2 q2 p3 q3 p4 q4 p5 q5
    go_loopw [7] (fun i wr => ∃ k : Nat, k ≤ x.iun ∧ i = .int .i64 k ∧ Below W4.heap.size W4 wr) (fun i _ => x.iun - (intOf i).toNat)
    case atStart => first | exact ⟨0, Nat.zero_le _, rfl, below_drewN (Below.refl _ _) _⟩ | exact ⟨0, Nat.zero_le _, rfl, (Below.refl _ _).drew⟩ | exact ⟨0, Nat.zero_le _, rfl, Below.refl _ _⟩
    case round =>
      obtain ⟨k, hk, rfl, hb⟩ := hrel
      have HB := hide hb
      have BW := hide (B4.out.trans (hb.mono B4.out.size))
      have XW := hide (X4.out.below hb X4.out.lt)
      have YW := hide (Y4.out.below hb Y4.out.lt)
      have PW := hide (P4.out.below hb P4.out.lt)
      have QW := hide (Q4.out.below hb Q4.out.lt)
      clear hb
      have a8 := XW.out.cell 8
      simp at a8
      have b8 := YW.out.cell 8
      simp at b8
      by_cases hlt : k < x.iun
      · obtain ⟨b, off, z, hA, hbB, hz, k0, k1, k2, k3, k4, k5⟩ := Ius_at (HX.out.iu.below BW.out) hlt
        obtain ⟨b', off', z', hA', hbB', hz', d0, d1, d2, d3, d4, d5⟩ := Ius_at (HY.out.iu.below BW.out) hlt
        obtain rfl : z = z' := by
          have h1 : x.iu[k]? = some z := hz
          have h2 : x.iu[k]? = some z' := hz'
          rw [h1] at h2; exact Option.some.inj h2
        rw [show x.iuA = some ⟨b, off, none⟩ from hA] at a8
        rw [show A3 = some ⟨b', off', none⟩ from hA'] at b8
        have hkz : (k : Int) < (x.iun : Int) := by omega
        have hq := fun w => iu_neq z z w
        simp only [decide_true, Bool.not_true] at hq
        unfold iuV at hq
        clear hz hz' hA hA'
        go_wp2_with fail
        go_quiet (fail)
        go_wp2
        go_roundw
        case rel => exact ⟨k + 1, by omega, by go_num, below_drewN HB.out _⟩
        case measure => simp [intOf]; omega
      · have hkz : ¬ (k : Int) < (x.iun : Int) := by omega
        clear hlt b8
        have e4 := PW.out.cell 4
        simp at e4
        go_wp2
        clear a8 hkz e4
        go_loopw [8] (fun i wr => ∃ k : Nat, k ≤ x.skn ∧ i = .int .i64 k ∧ Below W4.heap.size W4 wr) (fun i _ => x.skn - (intOf i).toNat)
        case atStart => exact ⟨0, Nat.zero_le _, rfl, HB.out⟩
        case round =>
          clear HB BW XW YW PW QW hk
          obtain ⟨k, hk, rfl, hb⟩ := hrel
          have HB := hide hb
          have BW := hide (B4.out.trans (hb.mono B4.out.size))
          have XW := hide (X4.out.below hb X4.out.lt)
          have YW := hide (Y4.out.below hb Y4.out.lt)
          have PW := hide (P4.out.below hb P4.out.lt)
          have QW := hide (Q4.out.below hb Q4.out.lt)
          clear hb
          have a4 := PW.out.cell 4
          simp at a4
          have b4 := QW.out.cell 4
          simp at b4
          by_cases hlt : k < x.skn
          · obtain ⟨b, off, z, hA, hbB, hz, k0⟩ := Is_at (HX.out.pt.1.below BW.out) hlt
            obtain ⟨b', off', z', hA', hbB', hz', d0⟩ := Is_at (HY.out.pt.1.below BW.out) hlt
            obtain rfl : z = z' := by
              have h1 : x.sk[k]? = some z := hz
              have h2 : x.sk[k]? = some z' := hz'
              rw [h1] at h2; exact Option.some.inj h2
            rw [show x.skA = some ⟨b, off, none⟩ from hA] at a4
            rw [show A1 = some ⟨b', off', none⟩ from hA'] at b4
            have hkz : (k : Int) < (x.skn : Int) := by omega
            clear hz hz' hA hA'
            go_wp2_with fail
            go_quiet (fail)
            go_wp2
            go_roundw
            case rel => exact ⟨k + 1, by omega, by go_num, below_drewN HB.out _⟩
            case measure => simp [intOf]; omega
          · have hkz : ¬ (k : Int) < (x.skn : Int) := by omega
            clear hlt b4
            have e5 := PW.out.cell 5
            simp at e5
            go_wp2
            clear a4 hkz e5
            go_loopw [9] (fun i wr => ∃ k : Nat, k ≤ x.dbn ∧ i = .int .i64 k ∧ Below W4.heap.size W4 wr) (fun i _ => x.dbn - (intOf i).toNat)
            case atStart => exact ⟨0, Nat.zero_le _, rfl, HB.out⟩
            case round =>
              clear HB BW XW YW PW QW hk
              obtain ⟨k, hk, rfl, hb⟩ := hrel
              have HB := hide hb
              have BW := hide (B4.out.trans (hb.mono B4.out.size))
              have XW := hide (X4.out.below hb X4.out.lt)
              have YW := hide (Y4.out.below hb Y4.out.lt)
              have PW := hide (P4.out.below hb P4.out.lt)
              have QW := hide (Q4.out.below hb Q4.out.lt)
              clear hb
              have a5 := PW.out.cell 5
              simp at a5
              have b5 := QW.out.cell 5
              simp at b5
              by_cases hlt : k < x.dbn
              · obtain ⟨b, off, z, hA, hbB, hz, k0⟩ := Is_at (HX.out.pt.2.below BW.out) hlt
                obtain ⟨b', off', z', hA', hbB', hz', d0⟩ := Is_at (HY.out.pt.2.below BW.out) hlt
                obtain rfl : z = z' := by
                  have h1 : x.db[k]? = some z := hz
                  have h2 : x.db[k]? = some z' := hz'
                  rw [h1] at h2; exact Option.some.inj h2
                rw [show x.dbA = some ⟨b, off, none⟩ from hA] at a5
                rw [show A2 = some ⟨b', off', none⟩ from hA'] at b5
                have hkz : (k : Int) < (x.dbn : Int) := by omega
                clear hz hz' hA hA'
                go_wp2_with fail
                go_quiet (fail)
                go_wp2
                go_roundw
                case rel => exact ⟨k + 1, by omega, by go_num, below_drewN HB.out _⟩
                case measure => simp [intOf]; omega
              · have hkz : ¬ (k : Int) < (x.dbn : Int) := by omega
                clear hlt b5
                go_wp2
                go_ret
                exact ⟨rfl, BW.out⟩
  · obtain ⟨W4, hW4⟩ : ∃ W4, W4 = ((((w.alloc (.cells (seC x) 76)).alloc (.cells (seC { x with skA := A1, skc := c1, dbA := A2, dbc := c2, iuA := A3, iuc := c3 }) 76)).alloc (.cells #[.int .i64 x.start, .int .i64 x.every, .int .i64 x.pv, .int .i64 x.fv, .slice A1 x.skn c1, .slice A2 x.dbn c2] 67)).alloc (.cells #[.int .i64 x.start, .int .i64 x.every, .int .i64 x.pv, .int .i64 x.fv, .slice x.skA x.skn x.skc, .slice x.dbA x.dbn x.dbc] 67)) := ⟨_, rfl⟩
    have B4 := hide ((B0.out.alloc (by simp; omega) (.cells #[.int .i64 x.start, .int .i64 x.every, .int .i64 x.pv, .int .i64 x.fv, .slice A1 x.skn c1, .slice A2 x.dbn c2] 67)).alloc (by simp; omega) (.cells #[.int .i64 x.start, .int .i64 x.every, .int .i64 x.pv, .int .i64 x.fv, .slice x.skA x.skn x.skc, .slice x.dbA x.dbn x.dbc] 67))
    have X4 := hide ((((Box.new w 76 (seC x)).alloc (.cells (seC { x with skA := A1, skc := c1, dbA := A2, dbc := c2, iuA := A3, iuc := c3 }) 76)).alloc (.cells #[.int .i64 x.start, .int .i64 x.every, .int .i64 x.pv, .int .i64 x.fv, .slice A1 x.skn c1, .slice A2 x.dbn c2] 67)).alloc (.cells #[.int .i64 x.start, .int .i64 x.every, .int .i64 x.pv, .int .i64 x.fv, .slice x.skA x.skn x.skc, .slice x.dbA x.dbn x.dbc] 67))
    have Y4 := hide (((Box.new (w.alloc (.cells (seC x) 76)) 76 (seC { x with skA := A1, skc := c1, dbA := A2, dbc := c2, iuA := A3, iuc := c3 })).alloc (.cells #[.int .i64 x.start, .int .i64 x.every, .int .i64 x.pv, .int .i64 x.fv, .slice A1 x.skn c1, .slice A2 x.dbn c2] 67)).alloc (.cells #[.int .i64 x.start, .int .i64 x.every, .int .i64 x.pv, .int .i64 x.fv, .slice x.skA x.skn x.skc, .slice x.dbA x.dbn x.dbc] 67))
    have P4 := hide ((Box.new ((w.alloc (.cells (seC x) 76)).alloc (.cells (seC { x with skA := A1, skc := c1, dbA := A2, dbc := c2, iuA := A3, iuc := c3 }) 76)) 67 #[.int .i64 x.start, .int .i64 x.every, .int .i64 x.pv, .int .i64 x.fv, .slice A1 x.skn c1, .slice A2 x.dbn c2]).alloc (.cells #[.int .i64 x.start, .int .i64 x.every, .int .i64 x.pv, .int .i64 x.fv, .slice x.skA x.skn x.skc, .slice x.dbA x.dbn x.dbc] 67))
    have Q4 := hide (Box.new (((w.alloc (.cells (seC x) 76)).alloc (.cells (seC { x with skA := A1, skc := c1, dbA := A2, dbc := c2, iuA := A3, iuc := c3 }) 76)).alloc (.cells #[.int .i64 x.start, .int .i64 x.every, .int .i64 x.pv, .int .i64 x.fv, .slice A1 x.skn c1, .slice A2 x.dbn c2] 67)) 67 #[.int .i64 x.start, .int .i64 x.every, .int .i64 x.pv, .int .i64 x.fv, .slice x.skA x.skn x.skc, .slice x.dbA x.dbn x.dbc])
    simp only [World.size_alloc] at Y4 P4 Q4
    rw [← hW4] at B4 X4 Y4 P4 Q4 ⊢
    clear hW4 B0
    have a0 := X4.out.cell 0
    have a1 := X4.out.cell 1
    have a2 := X4.out.cell 2
    have a3 := X4.out.cell 3
    have a4 := X4.out.cell 4
    have a5 := X4.out.cell 5
    have a6 := X4.out.cell 6
    have a7 := X4.out.cell 7
    have a8 := X4.out.cell 8
    simp at a0 a1 a2 a3 a4 a5 a6 a7 a8
    have b0 := Y4.out.cell 0
    have b1 := Y4.out.cell 1
    have b2 := Y4.out.cell 2
    have b3 := Y4.out.cell 3
    have b4 := Y4.out.cell 4
    have b5 := Y4.out.cell 5
    have b6 := Y4.out.cell 6
    have b7 := Y4.out.cell 7
    have b8 := Y4.out.cell 8
    simp at b0 b1 b2 b3 b4 b5 b6 b7 b8
    have p0 := P4.out.cell 0
    have p1 := P4.out.cell 1
    have p2 := P4.out.cell 2
    have p3 := P4.out.cell 3
    have p4 := P4.out.cell 4
    have p5 := P4.out.cell 5
    simp at p0 p1 p2 p3 p4 p5
    have q0 := Q4.out.cell 0
    have q1 := Q4.out.cell 1
    have q2 := Q4.out.cell 2
    have q3 := Q4.out.cell 3
    have q4 := Q4.out.cell 4
    have q5 := Q4.out.cell 5
    simp at q0 q1 q2 q3 q4 q5
    go_wp2
    clear a0 a1 a2 a3 a4 a5 a6 a7 a8 b0 b1 b2 b3 b4 b5 b6 b7 b8 p0 q0 p1 q1 p2 q2 p3 q3 p4 q4 p5 q5
    go_loopw [7] (fun i wr => ∃ k : Nat, k ≤ x.iun ∧ i = .int .i64 k ∧ Below W4.heap.size W4 wr) (fun i _ => x.iun - (intOf i).toNat)
    case atStart => first | exact ⟨0, Nat.zero_le _, rfl, below_drewN (Below.refl _ _) _⟩ | exact ⟨0, Nat.zero_le _, rfl, (Below.refl _ _).drew⟩ | exact ⟨0, Nat.zero_le _, rfl, Below.refl _ _⟩
    case round =>
      obtain ⟨k, hk, rfl, hb⟩ := hrel
      have HB := hide hb
      have BW := hide (B4.out.trans (hb.mono B4.out.size))
      have XW := hide (X4.out.below hb X4.out.lt)
      have YW := hide (Y4.out.below hb Y4.out.lt)
      have PW := hide (P4.out.below hb P4.out.lt)
      have QW := hide (Q4.out.below hb Q4.out.lt)
      clear hb
      have a8 := XW.out.cell 8
      simp at a8
      have b8 := YW.out.cell 8
      simp at b8
      by_cases hlt : k < x.iun
      · obtain ⟨b, off, z, hA, hbB, hz, k0, k1, k2, k3, k4, k5⟩ := Ius_at (HX.out.iu.below BW.out) hlt
        obtain ⟨b', off', z', hA', hbB', hz', d0, d1, d2, d3, d4, d5⟩ := Ius_at (HY.out.iu.below BW.out) hlt
        obtain rfl : z = z' := by
          have h1 : x.iu[k]? = some z := hz
          have h2 : x.iu[k]? = some z' := hz'
          rw [h1] at h2; exact Option.some.inj h2
        rw [show x.iuA = some ⟨b, off, none⟩ from hA] at a8
        rw [show A3 = some ⟨b', off', none⟩ from hA'] at b8
        have hkz : (k : Int) < (x.iun : Int) := by omega
        have hq := fun w => iu_neq z z w
        simp only [decide_true, Bool.not_true] at hq
        unfold iuV at hq
        clear hz hz' hA hA'
        go_wp2_with fail
        go_quiet (fail)
        go_wp2
        go_roundw
        case rel => exact ⟨k + 1, by omega, by go_num, below_drewN HB.out _⟩
        case measure => simp [intOf]; omega
      · have hkz : ¬ (k : Int) < (x.iun : Int) := by omega
        clear hlt b8
        have e4 := QW.out.cell 4
        simp at e4
        go_wp2
        clear a8 hkz e4
        go_loopw [8] (fun i wr => ∃ k : Nat, k ≤ x.skn ∧ i = .int .i64 k ∧ Below W4.heap.size W4 wr) (fun i _ => x.skn - (intOf i).toNat)
        case atStart => exact ⟨0, Nat.zero_le _, rfl, HB.out⟩
        case round =>
          clear HB BW XW YW PW QW hk
          obtain ⟨k, hk, rfl, hb⟩ := hrel
          have HB := hide hb
          have BW := hide (B4.out.trans (hb.mono B4.out.size))
          have XW := hide (X4.out.below hb X4.out.lt)
          have YW := hide (Y4.out.below hb Y4.out.lt)
          have PW := hide (P4.out.below hb P4.out.lt)
          have QW := hide (Q4.out.below hb Q4.out.lt)
          clear hb
          have a4 := QW.out.cell 4
          simp at a4
          have b4 := PW.out.cell 4
          simp at b4
          by_cases hlt : k < x.skn
          · obtain ⟨b, off, z, hA, hbB, hz, k0⟩ := Is_at (HX.out.pt.1.below BW.out) hlt
            obtain ⟨b', off', z', hA', hbB', hz', d0⟩ := Is_at (HY.out.pt.1.below BW.out) hlt
            obtain rfl : z = z' := by
              have h1 : x.sk[k]? = some z := hz
              have h2 : x.sk[k]? = some z' := hz'
              rw [h1] at h2; exact Option.some.inj h2
            rw [show x.skA = some ⟨b, off, none⟩ from hA] at a4
            rw [show A1 = some ⟨b', off', none⟩ from hA'] at b4
            have hkz : (k : Int) < (x.skn : Int) := by omega
            clear hz hz' hA hA'
            go_wp2_with fail
            go_quiet (fail)
            go_wp2
            go_roundw
            case rel => exact ⟨k + 1, by omega, by go_num, below_drewN HB.out _⟩
            case measure => simp [intOf]; omega
          · have hkz : ¬ (k : Int) < (x.skn : Int) := by omega
            clear hlt b4
            have e5 := QW.out.cell 5
            simp at e5
            go_wp2
            clear a4 hkz e5
            go_loopw [9] (fun i wr => ∃ k : Nat, k ≤ x.dbn ∧ i = .int .i64 k ∧ Below W4.heap.size W4 wr) (fun i _ => x.dbn - (intOf i).toNat)
            case atStart => exact ⟨0, Nat.zero_le _, rfl, HB.out⟩
            case round =>
              clear HB BW XW YW PW QW hk
              obtain ⟨k, hk, rfl, hb⟩ := hrel
              have HB := hide hb
              have BW := hide (B4.out.trans (hb.mono B4.out.size))
              have XW := hide (X4.out.below hb X4.out.lt)
              have YW := hide (Y4.out.below hb Y4.out.lt)
              have PW := hide (P4.out.below hb P4.out.lt)
              have QW := hide (Q4.out.below hb Q4.out.lt)
              clear hb
              have a5 := QW.out.cell 5
              simp at a5
              have b5 := PW.out.cell 5
              simp at b5
              by_cases hlt : k < x.dbn
              · obtain ⟨b, off, z, hA, hbB, hz, k0⟩ := Is_at (HX.out.pt.2.below BW.out) hlt
                obtain ⟨b', off', z', hA', hbB', hz', d0⟩ := Is_at (HY.out.pt.2.below BW.out) hlt
                obtain rfl : z = z' := by
                  have h1 : x.db[k]? = some z := hz
                  have h2 : x.db[k]? = some z' := hz'
                  rw [h1] at h2; exact Option.some.inj h2
                rw [show x.dbA = some ⟨b, off, none⟩ from hA] at a5
                rw [show A2 = some ⟨b', off', none⟩ from hA'] at b5
                have hkz : (k : Int) < (x.dbn : Int) := by omega
                clear hz hz' hA hA'
                go_wp2_with fail
                go_quiet (fail)
                go_wp2
                go_roundw
                case rel => exact ⟨k + 1, by omega, by go_num, below_drewN HB.out _⟩
                case measure => simp [intOf]; omega
              · have hkz : ¬ (k : Int) < (x.dbn : Int) := by omega
                clear hlt b5
                go_wp2
                go_ret
                exact ⟨rfl, BW.out⟩
end
end Go.Proofs.YtbhndfphegflhaaGreat
namespace Go.Proofs.YtbhndfphegflhaaGreat
open Go.RowKit
section
set_option maxRecDepth 100000 in
set_option maxHeartbeats 8000000 in
theorem same40_any (x y : Aq) (w : World) (hq : AqQ x y) (hx : AqS w w.heap.size x) (hy : AqS w w.heap.size y) :
    Calls Tryz.prog 12 #[aqV x, aqV y] w fun e w' => e = .returned (.bool true) ∧ Below w.heap.size w w' := by
  obtain ⟨e1, e2, e3, e4, e5, e6, e7⟩ := hq
  have HQ6 := hide e6
  have HX := hide hx
  have HY := hide hy
  have hfn : y.fn = x.fn := by have h1 := hx.f.len; have h2 := hy.f.len; rw [e2] at h1; omega
  have hon : y.on = x.on := by have h1 := hx.o.len; have h2 := hy.o.len; rw [e3] at h1; omega
  have hbn : y.bn = x.bn := by have h1 := hx.b.len; have h2 := hy.b.len; rw [e4] at h1; omega
  have hsn : y.sn = x.sn := by have h1 := hx.s.len; have h2 := hy.s.len; omega
  have hb1 := hx.f.big
  have hb2 := hx.o.big
  have hb3 := hx.b.big
  have hb4 := hx.s.big
  have HE := hide (And.intro e2 (And.intro e3 (And.intro e4 e5)))
  have hgf := fu_guard
  have hgb := bl_guard
  have HVX := hide (show aqV x = .agg #[.int .i64 x.yr, .slice x.fA x.fn x.fc, .slice x.oA x.on x.oc, .slice x.bA x.bn x.bc, .slice x.sA x.sn x.sc, .int .i64 x.nx] from rfl)
  have HVY := hide (show aqV y = .agg #[.int .i64 x.yr, .slice y.fA x.fn y.fc, .slice y.oA x.on y.oc, .slice y.bA x.bn y.bc, .slice y.sA x.sn y.sc, .int .i64 x.nx] by unfold aqV; rw [hfn, hon, hbn, hsn, ← e1, ← e7])
  have FY := hide (hfn ▸ hy.f : Fs w w.heap.size y.fA x.fn y.fc y.f)
  have OY := hide (hon ▸ hy.o : Ods w w.heap.size y.oA x.on y.oc y.o)
  have BY := hide (hbn ▸ hy.b : Bls w w.heap.size y.bA x.bn y.bc y.b)
  have SY := hide (hsn ▸ hy.s : Ses w w.heap.size y.sA x.sn y.sc y.s)
  rw [HVX.out, HVY.out]
  clear hx hy hfn hon hbn hsn e1 e2 e3 e4 e5 e6 e7
  obtain ⟨CY, hCY⟩ : ∃ CY : Array Value, CY = #[.int .i64 x.yr, .slice y.fA x.fn y.fc, .slice y.oA x.on y.oc, .slice y.bA x.bn y.bc, .slice y.sA x.sn y.sc, .int .i64 x.nx] := ⟨_, rfl⟩
  have HCY := hide hCY
  have B0 := hide (((Below.refl w.heap.size w).alloc (Nat.le_refl _) (.cells (aqC x) 27)).alloc (by simp) (.cells CY 27))
  have X0 := hide ((Box.new w 27 (aqC x)).alloc (.cells CY 27))
  have Y0 := hide (Box.new (w.alloc (.cells (aqC x) 27)) 27 CY)
  rw [World.size_alloc] at Y0
  rw [hCY] at B0 X0 Y0
  clear hCY HCY
  obtain ⟨W4, hW4⟩ : ∃ W4, W4 = (w.alloc (.cells (aqC x) 27)).alloc (.cells #[.int .i64 x.yr, .slice y.fA x.fn y.fc, .slice y.oA x.on y.oc, .slice y.bA x.bn y.bc, .slice y.sA x.sn y.sc, .int .i64 x.nx] 27) := ⟨_, rfl⟩
  go_enter Tryz.func12, Tryz.ntmps12
  go_wp2
  rw [← hW4] at B0 X0 Y0 ⊢
  clear hW4
  go_loopw [5] (fun i wr => ∃ k : Nat, k ≤ x.fn ∧ i = .int .i64 k ∧ Below W4.heap.size W4 wr) (fun i _ => x.fn - (intOf i).toNat)
  case atStart => exact ⟨0, Nat.zero_le _, rfl, Below.refl _ _⟩
  case round =>
    obtain ⟨k, hk, rfl, hb⟩ := hrel
    have HB := hide hb
    have BW := hide (B0.out.trans (hb.mono B0.out.size))
    have XW := hide (X0.out.below hb X0.out.lt)
    have YW := hide (Y0.out.below hb Y0.out.lt)
    clear hb
    have a1 := XW.out.cell 1
    have a2 := XW.out.cell 2
    simp at a1 a2
    have b1 := YW.out.cell 1
    simp at b1
    by_cases hlt : k < x.fn
    · obtain ⟨b, off, z, hA, hbB, hz, c0, c1, c2, c3, c4⟩ := Fs_at (HX.out.f.below BW.out) hlt
      obtain ⟨b', off', z', hA', hbB', hz', d0, d1, d2, d3, d4⟩ := Fs_at (FY.out.below BW.out) hlt
      obtain rfl : z = z' := by rw [HE.out.1, hz'] at hz; exact (Option.some.inj hz).symm
      have HA := hide (And.intro hA hA')
      rw [hA] at a1
      rw [hA'] at b1
      have hkz : (k : Int) < (x.fn : Int) := by omega
      have hq := fun w => fu_neq z z w
      simp only [decide_true, Bool.not_true] at hq
      unfold fuV at hq
      clear hz hz' hA hA' a2
      go_wp2_with fail
      go_quiet (fail)
      go_wp2
      go_roundw
      case rel => exact ⟨k + 1, by omega, by go_num, below_drewN HB.out _⟩
      case measure => simp [intOf]; omega
    · have hkz : ¬ (k : Int) < (x.fn : Int) := by omega
      clear hlt b1
      go_wp2
      clear a1 hkz a2
      go_loopw [6] (fun i wr => ∃ k : Nat, k ≤ x.on ∧ i = .int .i64 k ∧ Below W4.heap.size W4 wr) (fun i _ => x.on - (intOf i).toNat)
      case atStart => exact ⟨0, Nat.zero_le _, rfl, HB.out⟩
      case round =>
        clear HB BW XW YW hk
        obtain ⟨k, hk, rfl, hb⟩ := hrel
        have HB := hide hb
        have BW := hide (B0.out.trans (hb.mono B0.out.size))
        have XW := hide (X0.out.below hb X0.out.lt)
        have YW := hide (Y0.out.below hb Y0.out.lt)
        clear hb
        have a2 := XW.out.cell 2
        have a3 := XW.out.cell 3
        simp at a2 a3
        have b2 := YW.out.cell 2
        simp at b2
        by_cases hlt : k < x.on
        · obtain ⟨b, off, z, hA, hbB, hz, c0, c1, c2, c3, c4, c5, c6, c7, c8, c9⟩ := Ods_at (HX.out.o.below BW.out) hlt
          obtain ⟨b', off', z', hA', hbB', hz', d0, d1, d2, d3, d4, d5, d6, d7, d8, d9⟩ := Ods_at (OY.out.below BW.out) hlt
          obtain rfl : z = z' := by rw [HE.out.2.1, hz'] at hz; exact (Option.some.inj hz).symm
          have HA := hide (And.intro hA hA')
          rw [hA] at a2
          rw [hA'] at b2
          have hkz : (k : Int) < (x.on : Int) := by omega
          have HC := hide (fun W (hW : Below w.heap.size w W) => sameOd_any z W (((HX.out.os z (List.mem_of_getElem? hz)).below hW).more hW.size))
          unfold odV at HC
          clear hz hz' hA hA' a3
          go_wp2_with fail
          go_region_with (go_at_call 51; refine (HC.out _ (by first | exact BW.out.drew | exact below_drewN BW.out _)).mono ?_; rintro e w2 ⟨rfl, hb2⟩; have HB2 := hide (HB.out.drew.trans (hb2.mono HB.out.size)); clear hb2)
          all_goals
            go_wp2
            go_roundw
            case rel => exact ⟨k + 1, by omega, by go_num, HB2.out⟩
            case measure => simp [intOf]; omega
        · have hkz : ¬ (k : Int) < (x.on : Int) := by omega
          clear hlt b2
          go_wp2
          clear a2 hkz a3
          go_loopw [7] (fun i wr => ∃ k : Nat, k ≤ x.bn ∧ i = .int .i64 k ∧ Below W4.heap.size W4 wr) (fun i _ => x.bn - (intOf i).toNat)
          case atStart => exact ⟨0, Nat.zero_le _, rfl, HB.out⟩
          case round =>
            clear HB BW XW YW hk
            obtain ⟨k, hk, rfl, hb⟩ := hrel
            have HB := hide hb
            have BW := hide (B0.out.trans (hb.mono B0.out.size))
            have XW := hide (X0.out.below hb X0.out.lt)
            have YW := hide (Y0.out.below hb Y0.out.lt)
            clear hb
            have a3 := XW.out.cell 3
            have a4 := XW.out.cell 4
            simp at a3 a4
            have b3 := YW.out.cell 3
            simp at b3
            by_cases hlt : k < x.bn
            · obtain ⟨b, off, z, hA, hbB, hz, c0, c1, c2, c3, c4⟩ := Bls_at (HX.out.b.below BW.out) hlt
              obtain ⟨b', off', z', hA', hbB', hz', d0, d1, d2, d3, d4⟩ := Bls_at (BY.out.below BW.out) hlt
              obtain rfl : z = z' := by rw [HE.out.2.2.1, hz'] at hz; exact (Option.some.inj hz).symm
              have HA := hide (And.intro hA hA')
              rw [hA] at a3
              rw [hA'] at b3
              have hkz : (k : Int) < (x.bn : Int) := by omega
              have hq := fun w => bl_neq z z w
              simp only [decide_true, Bool.not_true] at hq
              unfold blV at hq
              clear hz hz' hA hA' a4
              go_wp2_with fail
              go_quiet (fail)
              go_wp2
              go_roundw
              case rel => exact ⟨k + 1, by omega, by go_num, below_drewN HB.out _⟩
              case measure => simp [intOf]; omega
            · have hkz : ¬ (k : Int) < (x.bn : Int) := by omega
              clear hlt b3
              go_wp2
              clear a3 hkz a4
              go_loopw [8] (fun i wr => ∃ k : Nat, k ≤ x.sn ∧ i = .int .i64 k ∧ Below W4.heap.size W4 wr) (fun i _ => x.sn - (intOf i).toNat)
              case atStart => exact ⟨0, Nat.zero_le _, rfl, HB.out⟩
              case round =>
                clear HB BW XW YW hk
                obtain ⟨k, hk, rfl, hb⟩ := hrel
                have HB := hide hb
                have BW := hide (B0.out.trans (hb.mono B0.out.size))
                have XW := hide (X0.out.below hb X0.out.lt)
                have YW := hide (Y0.out.below hb Y0.out.lt)
                clear hb
                have a4 := XW.out.cell 4
                simp at a4
                have b4 := YW.out.cell 4
                simp at b4
                by_cases hlt : k < x.sn
                · obtain ⟨b, off, z, hA, hbB, hz, c0, c1, c2, c3, c4, c5, c6, c7, c8⟩ := Ses_at (HX.out.s.below BW.out) hlt
                  obtain ⟨b', off', z', hA', hbB', hz', d0, d1, d2, d3, d4, d5, d6, d7, d8⟩ := Ses_at (SY.out.below BW.out) hlt
                  have hzz := HQ6.out k z z' hz hz'
                  have HA := hide (And.intro hA hA')
                  rw [hA] at a4
                  rw [hA'] at b4
                  have hkz : (k : Int) < (x.sn : Int) := by omega
                  have HC := hide (fun W (hW : Below w.heap.size w W) => sameSe_any z z' W hzz (((HX.out.ss z (List.mem_of_getElem? hz)).below hW).more hW.size) (((HY.out.ss z' (List.mem_of_getElem? hz')).below hW).more hW.size))
                  unfold seV at HC
                  clear hz hz' hA hA' hzz
                  go_wp2_with fail
                  go_region_with (go_at_call 52; refine (HC.out _ (by first | exact BW.out.drew | exact below_drewN BW.out _)).mono ?_; rintro e w2 ⟨rfl, hb2⟩; have HB2 := hide (HB.out.drew.trans (hb2.mono HB.out.size)); clear hb2)
                  all_goals
                    go_wp2
                    go_roundw
                    case rel => exact ⟨k + 1, by omega, by go_num, HB2.out⟩
                    case measure => simp [intOf]; omega
                · have hkz : ¬ (k : Int) < (x.sn : Int) := by omega
                  clear hlt b4
                  go_wp2
                  go_ret
                  exact ⟨rfl, BW.out⟩
end
end Go.Proofs.YtbhndfphegflhaaGreat
