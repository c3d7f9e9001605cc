/- Walks: the law HoldKeeps. -/
import Derived.Test.YtgjhjabnnhhkbaaHoW
import Derived.Test.YtgjhjabnnhhkbaaHoX
import Derived.Test.YtgjhjabnnhhkbaaHoSame
import Derived.Deep.Cut
import Derived.Deep.CutRange
import Derived.Deep.DeepCutAuto
namespace Go.Proofs.Ytgjhjabnnhhkbaa
open Go.RowKit

/-- The law returns true, and leaves the old memory as it was. -/
def LawH (f : FuncId) (args : Array Value) (w : World) : Prop := Calls Try.prog f args w fun e w' => e = .returned (.bool true) ∧ Below w.heap.size w w'

set_option maxRecDepth 100000 in
set_option maxHeartbeats 8000000 in
theorem holdKeeps_any (A : Option Addr) (n c : Nat) (xs : List Ho) (h : Ho) (id item unt : Int) (w : World) (hs : Hos w w.heap.size A n c xs) :
    LawH 10 #[.slice A n c, hoV h, .int .i64 id, .int .i64 item, .int .i64 unt] w := by
  unfold LawH
  obtain rfl := hs.len
  have hbig := hs.big
  have hle := hs.le
  have hsl : ∀ W, Below w.heap.size w W → Hos W W.heap.size A xs.length c xs := fun W hW => (hs.below hW).more hW.size
  have B0 := hide ((Below.refl w.heap.size w).alloc (Nat.le_refl _) (.cells (hoC h) 47))
  have Z0 := hide (Below.refl (w.heap.size + 1) (w.alloc (.cells (hoC h) 47)))
  have HZ := hide (fun W (hW : Below (w.heap.size + 1) (w.alloc (.cells (hoC h) 47)) W) => (Box.new w 47 (hoC h)).below hW (by omega))
  by_cases h60 : xs.length ≤ 60
  · have h60z : ¬ (60 : Int) < (xs.length : Int) := by omega
    have hR := fun W (hW : Below w.heap.size w W) => hright_any A _ c xs W (hsl W hW)
    by_cases hr : rightH xs = 0
    · rw [hr] at hR
      have hV := VldH.of hr
      have HR := hide hR
      have hpl := fun W (hW : Below w.heap.size w W) => hplace_any A _ c xs h W (hsl W hW) h60
      have hk0 := place_keeps (xs := xs) (h := h)
      have hg := fun W (hW : Below w.heap.size w W) => hget_any A _ c xs id W (hsl W hW)
      have hsp := fun W (hW : Below w.heap.size w W) => hsleep_any A _ c xs id unt W (hsl W hW) (by omega)
      have hk3 := sleep_keeps hV id unt
      have hsc : ∃ st : Int, ((st = 3 ∧ (unt == 0) = false) ∨ (st = 2 ∧ (unt == 0) = true)) := by
        by_cases e : unt = 0
        · exact ⟨2, .inr ⟨rfl, by simpa using e⟩⟩
        · exact ⟨3, .inl ⟨rfl, by simpa using e⟩⟩
      obtain ⟨st, hst⟩ := hsc
      have hct := fun W (hW : Below w.heap.size w W) => hcatch_any A _ c xs id item st unt W (hsl W hW) (by omega)
      have hk1 := catch_keeps hV id item unt st
      have HSL := hide hsl
      generalize placeH xs h = r0 at hpl hk0
      generalize sleepH xs id unt = r3 at hsp hk3
      generalize catchH xs id item st unt = r1 at hct hk1
      generalize hy : getH xs id = y0 at hg hk1
      obtain ⟨y0, is⟩ := y0
      unfold hoV at hpl hg
      simp only at hg
      have HPL := hide hpl
      have HK0 := hide hk0
      have HG := hide hg
      have HSP := hide hsp
      have HK3 := hide hk3
      have HCT := hide hct
      have HK1 := hide hk1
      clear hR hr hV hpl hk0 hg hsp hk3 hct hk1 hs hsl hy
      unfold hoV
      rcases hst with ⟨rfl, hub⟩ | ⟨rfl, hub⟩
      all_goals
        go_enter Try.func10, Try.ntmps10
        go_wp2_with fail
        refine (halive_any _).mono ?_
        rintro e w1 ⟨rfl, hb⟩
        have B1 := hide (B0.out.trans (hb.mono (by simp)))
        have Z1 := hide (Z0.out.trans (hb.mono (by simp)))
        clear hb B0 Z0
        go_wp2_with fail
        refine (HR.out _ B1.out).mono ?_
        rintro e w2 ⟨rfl, hb⟩
        have B2 := hide (B1.out.trans (hb.mono B1.out.size))
        have Z2 := hide (Z1.out.trans (hb.mono (Nat.le_trans (by simp) Z1.out.size)))
        obtain ⟨_, d0, d1, d2, d3, d4, d5, d6, d7, d8, d9, d10⟩ := ho_box (HZ.out _ Z2.out) (Below.refl _ _)
        clear hb HR B1 Z1
        go_wp2_with fail
        refine (HPL.out _ B2.out).mono ?_
        rintro e w3 ⟨A1, n1, c1, rfl, hsl1, hb⟩
        have B3 := hide (B2.out.trans (hb.mono B2.out.size))
        have Z3 := hide (Z2.out.trans (hb.mono (Nat.le_trans (by simp) Z2.out.size)))
        have S1 := hide hsl1
        clear hb B2 Z2 hsl1 HPL d0 d1 d2 d3 d4 d5 d6 d7 d8 d9 d10
        obtain ⟨_, d0, d1, d2, d3, d4, d5, d6, d7, d8, d9, d10⟩ := ho_box (HZ.out _ Z3.out) (Below.refl _ _)
        go_upto_if 38 with fail
        go_cut [] from 37 to 64 (fun wx => Below w3.heap.size w3 wx)
        case first =>
          rcases HK0.out with hne | ⟨h0, h1, h2⟩
          · have hb0 : (r0.1 == 0) = false := by simpa using hne
            have Q := hide (Below.refl w3.heap.size w3)
            clear hne
            go_wp2
            go_meet
            case rel => exact Q.out
          · have hb0 : (r0.1 == 0) = true := by rw [h0]; rfl
            have hs1 : Hos w3 w3.heap.size A1 n1 c1 (xs ++ [h]) := by have := S1.out; rwa [h0] at this
            have hn1 := hs1.len
            simp at hn1
            have hca := hcancel_any A1 n1 c1 (xs ++ [h]) h.id w3 hs1 (by omega)
            rw [h2] at hca
            have hrt := fun W (hW : Below w3.heap.size w3 W) => hright_any A1 n1 c1 (xs ++ [h]) W ((hs1.below hW).more hW.size)
            rw [h1] at hrt
            have HCA := hide hca
            have HRT := hide hrt
            have Q := hide (Below.refl w3.heap.size w3)
            have hgd := ho_guard
            have hq := fun w => ho_neq h h w
            simp only [decide_true, Bool.not_true] at hq
            unfold hoV at hq
            clear hca hrt h0 h1 h2 hs1 S1
            go_wp2_with fail
            refine HCA.out.mono ?_
            rintro e w4 ⟨A2, n2, c2, rfl, hsl2, hb⟩
            have Q4 := hide (hb.alloc hb.size (.cells (hoC h) 47))
            have S2 := hide (hsl2.alloc (Nat.le_refl _) (.cells (hoC h) 47))
            have Z4 := hide ((Z3.out.trans (hb.mono (Nat.le_trans (by simp) Z3.out.size))).alloc (Nat.le_trans (by simp) (Nat.le_trans Z3.out.size hb.size)) (.cells (hoC h) 47))
            have Y4 := hide (Below.refl (w4.heap.size + 1) (w4.alloc (.cells (hoC h) 47)))
            have HY := hide (fun W (hW : Below (w4.heap.size + 1) (w4.alloc (.cells (hoC h) 47)) W) => (Box.new w4 47 (hoC h)).below hW (by omega))
            clear hb hsl2 HCA d0 d1 d2 d3 d4 d5 d6 d7 d8 d9 d10
            unfold hoV
            go_wp2_with fail
            refine (HRT.out _ Q4.out).mono ?_
            rintro e w5 ⟨rfl, hb⟩
            have Q5 := hide (Q4.out.trans (hb.mono Q4.out.size))
            have S5 := hide (((S2.out.more (by simp)).below hb).more hb.size)
            have L5 := hide (HSL.out w5 (B3.out.trans (Q5.out.mono B3.out.size)))
            obtain ⟨_, d0, d1, d2, d3, d4, d5, d6, d7, d8, d9, d10⟩ := ho_box (HZ.out _ (Z4.out.trans (hb.mono (Nat.le_trans (by simp) Z4.out.size)))) (Below.refl _ _)
            obtain ⟨_, e0, e1, e2, e3, e4, e5, e6, e7, e8, e9, e10⟩ := ho_box (HY.out _ (Y4.out.trans (hb.mono (by simp)))) (Below.refl _ _)
            have hsm := ho_same A2 A n2 c2 xs.length c xs xs w5 S5.out L5.out
            rw [decide_eq_true rfl] at hsm
            have HSM := hide hsm
            clear hb Q4 S2 Z4 Y4 hsm
            go_wp2_with fail
            refine HSM.out.mono ?_
            rintro e w6 ⟨rfl, hb⟩
            have Q6 := hide (Q5.out.trans (hb.mono Q5.out.size))
            clear hb
            go_wp2
            go_meet
            case rel => exact Q6.out
        case rest =>
          have hb := hcut
          have B4 := hide (B3.out.trans (hb.mono B3.out.size))
          clear hb hcut B3 Z3 S1 HK0 HZ d0 d1 d2 d3 d4 d5 d6 d7 d8 d9 d10
          go_wp2_with fail
          refine (HG.out _ B4.out).mono ?_
          rintro e w5 ⟨rfl, hb⟩
          have B5 := hide ((B4.out.trans (hb.mono B4.out.size)).alloc (Nat.le_trans B4.out.size hb.size) (.cells (hoC y0) 47))
          have Y5 := hide (Below.refl (w5.heap.size + 1) (w5.alloc (.cells (hoC y0) 47)))
          have HY := hide (fun W (hW : Below (w5.heap.size + 1) (w5.alloc (.cells (hoC y0) 47)) W) => (Box.new w5 47 (hoC y0)).below hW (by omega))
          clear hb B4 HG
          go_wp2_with fail
          refine (HCT.out _ B5.out).mono ?_
          rintro e w6 ⟨A2, n2, c2, rfl, hsl2, hb⟩
          have B6 := hide (B5.out.trans (hb.mono B5.out.size))
          have Y6 := hide (Y5.out.trans (hb.mono (by simp)))
          have S2 := hide hsl2
          clear hb B5 Y5 hsl2 HCT
          go_upto_if 83 with fail
          go_cut [] from 82 to 112 (fun wx => Below w6.heap.size w6 wx)
          case first =>
            have Q := hide (Below.refl w6.heap.size w6)
            rcases HK1.out with hne | ⟨ys, x, h0, h1, hyx, zs, h3, h4, h5⟩
            · have hb0 : (r1.1 == 0) = false := by simpa using hne
              clear hne
              go_wp2
              go_meet
              case rel => exact Q.out
            · have hb0 : (r1.1 == 0) = true := by rw [h0]; rfl
              obtain ⟨rfl, rfl⟩ : y0 = x ∧ is = true := by simpa using hyx
              have hs2 : Hos w6 w6.heap.size A2 n2 c2 ys := by have := S2.out; rwa [h0] at this
              obtain rfl := hs2.len
              have hyl : ys.length ≤ 64 := (VldH.of h1).len
              have hdr := hdrop_any A2 _ c2 ys item w6 hs2 (by omega)
              rw [h3] at hdr
              have hr1 := fun W (hW : Below w6.heap.size w6 W) => hright_any A2 _ c2 ys W ((hs2.below hW).more hW.size)
              rw [h1] at hr1
              have hr2 := fun A3 n3 c3 W (hh : Hos W W.heap.size A3 n3 c3 zs) => hright_any A3 n3 c3 zs W hh
              rw [h4] at hr2
              have hsm := fun A3 n3 c3 W (hh : Hos W W.heap.size A3 n3 c3 zs) (hW : Below w.heap.size w W) => ho_same A3 A n3 c3 xs.length c zs xs W hh (HSL.out W hW)
              have HSM := hide hsm
              have HDR := hide hdr
              have HR1 := hide hr1
              have HR2 := hide hr2
              have H5 := hide h5
              clear hs2 hdr hr1 hr2 hsm h0 h1 hyx h3 h4 h5 S2
              go_wp2_with fail
              refine HDR.out.mono ?_
              rintro e w7 ⟨A3, n3, c3, rfl, hsl3, hb⟩
              have Q7 := hide hb
              have Y7 := hide (Y6.out.trans (hb.mono (Nat.le_trans (by simp) Y6.out.size)))
              have S3 := hide hsl3
              have K7 := hide (Below.refl w7.heap.size w7)
              clear hb hsl3 HDR
              go_wp2_with fail
              refine (HR1.out _ Q7.out).mono ?_
              rintro e w8 ⟨rfl, hb⟩
              have Q8 := hide (Q7.out.trans (hb.mono Q7.out.size))
              have Y8 := hide (Y7.out.trans (hb.mono (Nat.le_trans (by simp) Y7.out.size)))
              have S8 := hide ((S3.out.below hb).more hb.size)
              clear hb Q7 Y7 S3 HR1
              go_wp2_with fail
              refine (HR2.out _ _ _ _ S8.out).mono ?_
              rintro e w9 ⟨rfl, hb⟩
              have Q9 := hide (Q8.out.trans (hb.mono Q8.out.size))
              have Y9 := hide (Y8.out.trans (hb.mono (Nat.le_trans (by simp) Y8.out.size)))
              have S9 := hide ((S8.out.below hb).more hb.size)
              obtain ⟨_, e0, e1, e2, e3, e4, e5, e6, e7, e8, e9, e10⟩ := ho_box (HY.out _ Y9.out) (Below.refl _ _)
              clear hb Q8 Y8 S8 HR2 e0 e1 e2 e3 e4 e5 e7 e8 e9 e10
              by_cases hs1 : y0.st = 1
              · have hsb : (y0.st == 1) = true := by simpa using hs1
                have hzx := H5.out hs1
                subst hzx
                have hsm := HSM.out A3 n3 c3 w9 S9.out (B6.out.trans (Q9.out.mono B6.out.size))
                rw [decide_eq_true rfl] at hsm
                have HS2 := hide hsm
                clear hsm HSM hs1
                go_wp2_with fail
                refine HS2.out.mono ?_
                rintro e w10 ⟨rfl, hb⟩
                have Q10 := hide (Q9.out.trans (hb.mono Q9.out.size))
                clear hb
                go_wp2
                go_meet
                case rel => exact Q10.out
              · have hsb : (y0.st == 1) = false := by simpa using hs1
                clear hs1 HSM
                go_wp2
                go_meet
                case rel => exact Q9.out
          case rest =>
            have hb := hcut
            have B7 := hide (B6.out.trans (hb.mono B6.out.size))
            clear hb hcut B6 Y6 S2 HK1 HY
            go_wp2_with fail
            refine (HSP.out _ B7.out).mono ?_
            rintro e w8 ⟨A3, n3, c3, rfl, hsl3, hb⟩
            have B8 := hide (B7.out.trans (hb.mono B7.out.size))
            have hrt := hright_any A3 n3 c3 r3.2 w8 hsl3
            clear hb hsl3 B7
            rcases HK3.out with hne | ⟨h0, h1⟩
            · have hb0 : (r3.1 != 0) = true := by simpa using hne
              clear hne hrt
              go_wp2
              go_ret
              exact ⟨rfl, B8.out⟩
            · have hb0 : (r3.1 != 0) = false := by simpa using h0
              rw [h1] at hrt
              have HRT := hide hrt
              clear hrt h0 h1
              go_wp2_with fail
              refine HRT.out.mono ?_
              rintro e w9 ⟨rfl, hb⟩
              have B9 := hide (B8.out.trans (hb.mono B8.out.size))
              clear hb
              go_wp2
              go_ret
              exact ⟨rfl, B9.out⟩
    · have hrb : (rightH xs != 0) = true := by simpa using hr
      generalize rightH xs = r at hR hrb
      have HR := hide hR
      clear hR hr hs hsl
      unfold hoV
      go_enter Try.func10, Try.ntmps10
      go_wp2_with fail
      refine (halive_any _).mono ?_
      rintro e w1 ⟨rfl, hb⟩
      have B1 := hide (B0.out.trans (hb.mono (by simp)))
      clear hb
      go_wp2_with fail
      refine (HR.out _ B1.out).mono ?_
      rintro e w2 ⟨rfl, hb⟩
      have B2 := hide (B1.out.trans (hb.mono B1.out.size))
      clear hb
      go_wp2
      go_ret
      exact ⟨rfl, B2.out⟩
  · have h60z : (60 : Int) < (xs.length : Int) := by omega
    clear hs hsl
    unfold hoV
    go_enter Try.func10, Try.ntmps10
    go_wp2_with fail
    refine (halive_any _).mono ?_
    rintro e w1 ⟨rfl, hb⟩
    have B1 := hide (B0.out.trans (hb.mono (by simp)))
    clear hb
    go_wp2
    go_ret
    exact ⟨rfl, B1.out⟩
end Go.Proofs.Ytgjhjabnnhhkbaa
