/- Walks: the law FundBalance. Printed by gen_fu_bal.py. -/
import Derived.Test.YtbcapljiangjcaaFuLaw4
import Derived.Test.YtbcapljiangjcaaFuH2
import Derived.Test.YtbcapljiangjcaaFuF
import Derived.Test.YtbcapljiangjcaaFuL
namespace Go.Proofs.Ytbcapljiangjcaa
open Go.RowKit

set_option maxHeartbeats 800000 in
theorem budg_any (A : Option Addr) (n c : Nat) (xs : List Fu) (w : World) (B : Nat) (hs : Fs w B A n c xs) (hn : n ≤ 1000) (hm : ∀ x ∈ xs, FuM x) :
    Calls Try.prog 34 #[.slice A n c] w fun e w' => e = .returned (.int .i64 (budS xs)) ∧ w = w' := by
  obtain rfl := hs.len
  have hle := hs.le
  have HS := hide hs
  have HM := hide hm
  clear hs hm
  go_enter Try.func34, Try.ntmps34
  go_wp2
  go_loop [3, 4] (fun s3 s4 => ∃ k : Nat, k ≤ xs.length ∧ s4 = .int .i64 k ∧ s3 = .int .i64 (budS (xs.take k))) (fun _ s4 => xs.length - (intOf s4).toNat)
  case atStart => exact ⟨0, Nat.zero_le _, rfl, rfl⟩
  case round =>
    obtain ⟨k, hk, rfl, rfl⟩ := hrel
    by_cases hlt : k < xs.length
    · obtain ⟨b, off, x, rfl, hbB, hx, c0, c1, c2, c3, c4⟩ := Fs_at HS.out hlt
      have hst := budS_step hx
      have hbd := budS_bd (xs := xs.take k) (fun y hy => HM.out y (List.mem_of_mem_take hy))
      have hll : (xs.take k).length ≤ k := List.length_take_le _ _
      have hxb := (HM.out x (List.mem_of_getElem? hx)).b
      obtain ⟨b1, b2⟩ := hbd
      obtain ⟨b3, b4⟩ := hxb
      have HST := hide hst
      generalize hq : budS (xs.take k) = q at b1 b2
      have HQ := hide hq
      have b5 : q ≤ 100000000000 := by omega
      clear hx hst hq b2 hll c0 c1 c3 c4
      go_wp2
      go_round
      case rel => exact ⟨k + 1, by omega, by go_num, by rw [HST.out, HQ.out]⟩
      case measure => simp [intOf]; omega
    · obtain rfl : k = xs.length := by omega
      go_wp2
      go_ret
      first
        | exact ⟨rfl, rfl⟩
        | exact ⟨ret_int (by rw [List.take_length]), rfl⟩

set_option maxRecDepth 100000 in
set_option maxHeartbeats 16000000 in
theorem fundBalance_any (A : Option Addr) (n c : Nat) (xs : List Fu) (o0 o1 o2 o3 : Int) (w : World) (hs : Fs w w.heap.size A n c xs) (_i0 : I64 o0) (_i1 : I64 o1) (_i2 : I64 o2) (i3 : I64 o3) :
    Law 9 #[.slice A n c, .agg #[.int .i64 o0, .int .i64 o1, .int .i64 o2, .int .i64 o3]] w := by
  unfold Law
  obtain rfl := hs.len
  have hsl : ∀ W, Below w.heap.size w W → Fs W W.heap.size A xs.length c xs := fun W hW => (hs.below hW).more hW.size
  have B0 := hide ((Below.refl w.heap.size w).alloc (Nat.le_refl _) (.cells #[.int .i64 o0, .int .i64 o1, .int .i64 o2, .int .i64 o3] 33))
  have Z0 := hide (Below.refl (w.heap.size + 1) (w.alloc (.cells #[.int .i64 o0, .int .i64 o1, .int .i64 o2, .int .i64 o3] 33)))
  have HZ : Hid (∀ W, Below (w.heap.size + 1) (w.alloc (.cells #[.int .i64 o0, .int .i64 o1, .int .i64 o2, .int .i64 o3] 33)) W → Box W w.heap.size 33 #[.int .i64 o0, .int .i64 o1, .int .i64 o2, .int .i64 o3]) := hide (fun W hW => (Box.new w 33 _).below hW (by omega))
  have HV := hide (fun W hW => valid_any A xs.length c xs W (hsl W hW))
  by_cases hv : rightR xs = 0
  · have hV := vld_of hv
    have hl32 := hV.len
    have hvb : (rightR xs == 0) = true := by simpa using hv
    rw [hvb] at HV
    have h1 := fun W hW => ptr_any A xs.length c xs o0 o1 o3 W (hsl W hW) (by omega) hV.M i3
    have c1 := tr_cases hV o0 o1 o3
    have hlr : (trR xs o0 o1 o3).2.length ≤ 140737488355328 := Nat.le_trans trR_len (by omega)
    generalize trR xs o0 o1 o3 = r at h1 c1 hlr
    have h2 := fun W hW => penc_any A xs.length c xs o0 o3 W (hsl W hW) (by omega) hV.M
    have c2 := enc_cases hV o0 o3
    have hls : (chR (encF o3) xs o0).2.length ≤ 140737488355328 := Nat.le_trans chR_len (by omega)
    generalize chR (encF o3) xs o0 = s at h2 c2 hls
    have h3 := fun W hW => pspd_any A xs.length c xs o0 o2 o3 W (hsl W hW) (by omega) hV.M
    have c3 := spd_cases hV o0 o2 o3
    generalize chR (spdF o2 o3) xs o0 = u at h3 c3
    have hb0 := fun W hW => budg_any A xs.length c xs W _ (hsl W hW) (by omega) hV.M
    have hf0 := fun W hW => pfree_any A xs.length c xs o0 W (hsl W hW) hV.M
    have hf1 := fun W hW => pfree_any A xs.length c xs o1 W (hsl W hW) hV.M
    have fb0 := free_bd hV o0
    have fb1 := free_bd hV o1
    generalize freeF (getF xs o0).1 = f0 at hf0 fb0 c1 c3
    generalize freeF (getF xs o1).1 = f1 at hf1 fb1 c1
    generalize budS xs = S at hb0 c1
    obtain ⟨r1, r2⟩ := r
    obtain ⟨s1, s2⟩ := s
    obtain ⟨u1, u2⟩ := u
    simp only at h1 h2 h3 c1 c2 c3 hlr hls
    obtain ⟨p1, p2⟩ := fb0
    obtain ⟨p3, p4⟩ := fb1
    have HSL := hide hsl
    have H1 := hide h1
    have H2 := hide h2
    have H3 := hide h3
    have HB0 := hide hb0
    have HF0 := hide hf0
    have HF1 := hide hf1
    clear h1 h2 h3 hb0 hf0 hf1 hsl hs hvb hv hV
    have hr2 : r2.length ≤ 140737488355328 := hlr
    have hs2 : s2.length ≤ 140737488355328 := hls
    rcases c1 with e1 | ⟨rfl, e2, e3, e4, e5, e6⟩
    · rcases c2 with k1 | ⟨rfl, k2, k3⟩
      · rcases c3 with ⟨m1, m2⟩ | ⟨rfl, m2, m3, m4, m5⟩
        · skip
          have e1b : (r1 == 0) = false := by simpa using e1
          have E1 := hide e1
          clear e1
          have k1b : (s1 == 0) = false := by simpa using k1
          have K1 := hide k1
          clear k1
          have m1b : (u1 != 0) = true := by simpa using m1
          have M1 := hide m1
          clear m1
          have LR : r2.length ≤ 140737488355328 := hr2
          have LS : s2.length ≤ 140737488355328 := hs2
          go_enter Try.func9, Try.ntmps9
          go_wp2_with fail
          refine (alive_any _).mono ?_
          rintro e w1 ⟨rfl, hb⟩
          have B1 := hide (B0.out.trans (hb.mono (Nat.le_trans (by simp) B0.out.size)))
          have Z1 := hide (Z0.out.trans (hb.mono (Nat.le_trans (by simp) Z0.out.size)))
          clear hb 
          go_wp2_with fail
          refine (HV.out _ B1.out).mono ?_
          rintro e w2 ⟨rfl, hb⟩
          have B2 := hide (B1.out.trans (hb.mono (Nat.le_trans (by simp) B1.out.size)))
          have Z2 := hide (Z1.out.trans (hb.mono (Nat.le_trans (by simp) Z1.out.size)))
          clear hb B1 Z1
          clear HV
          have hbx := HZ.out _ Z2.out
          have q0 := hbx.cell 0
          have q1 := hbx.cell 1
          have q2 := hbx.cell 2
          have q3 := hbx.cell 3
          simp at q0 q1 q2 q3
          clear hbx
          go_wp2_with fail
          refine (H1.out _ B2.out).mono ?_
          rintro e w3 ⟨v1, rfl, hown, hb⟩
          have B3 := hide (B2.out.trans (hb.mono (Nat.le_trans (by simp) B2.out.size)))
          have Z3 := hide (Z2.out.trans (hb.mono (Nat.le_trans (by simp) Z2.out.size)))
          clear hb B2 Z2
          obtain ⟨A1, c1, hv, hsl1⟩ := Fo_sl hown (by first | omega | simp)
          subst hv
          have S1 := hide hsl1
          clear hown hsl1 H1
          have K13 := hide (Below.refl w3.heap.size w3)
          clear q0 q1 q2 q3
          go_wp2_with fail
          refine wp_region_grn (by kernel_rfl) (by kernel_rfl) ?_
          repeat (go_big_quiet_step (fail))
          refine wpQuiet_nil ?_
          rintro _ ⟨p, rfl⟩
          obtain ⟨w4, hw4⟩ : ∃ w4, w4 = p.W := ⟨_, rfl⟩
          have hb : Below w3.heap.size w3 w4 := by rw [hw4]; exact p.h
          rw [← hw4]
          have B4 := hide (B3.out.trans (hb.mono (Nat.le_trans (by simp) B3.out.size)))
          have Z4 := hide (Z3.out.trans (hb.mono (Nat.le_trans (by simp) Z3.out.size)))
          have K14 := hide (K13.out.trans (hb.mono (Nat.le_trans (by simp) K13.out.size)))
          clear hb hw4 B3 Z3 K13
          have hbx := HZ.out _ Z4.out
          have q0 := hbx.cell 0
          have q1 := hbx.cell 1
          have q2 := hbx.cell 2
          have q3 := hbx.cell 3
          simp at q0 q1 q2 q3
          clear hbx
          go_wp2_with fail
          refine (H2.out _ B4.out).mono ?_
          rintro e w5 ⟨v2, rfl, hown, hb⟩
          have B5 := hide (B4.out.trans (hb.mono (Nat.le_trans (by simp) B4.out.size)))
          have Z5 := hide (Z4.out.trans (hb.mono (Nat.le_trans (by simp) Z4.out.size)))
          have K15 := hide (K14.out.trans (hb.mono (Nat.le_trans (by simp) K14.out.size)))
          clear hb B4 Z4 K14
          obtain ⟨A2, c2, hv, hsl2⟩ := Fo_sl hown (by first | omega | simp)
          subst hv
          have S2 := hide hsl2
          clear hown hsl2 H2
          have K25 := hide (Below.refl w5.heap.size w5)
          clear q0 q1 q2 q3
          subst m2
          have hbx := HZ.out _ Z5.out
          have q0 := hbx.cell 0
          have q1 := hbx.cell 1
          have q2 := hbx.cell 2
          have q3 := hbx.cell 3
          simp at q0 q1 q2 q3
          clear hbx
          go_wp2_with fail
          refine (H3.out _ B5.out).mono ?_
          rintro e w6 ⟨v4, rfl, hown, hb⟩
          have B6 := hide (B5.out.trans (hb.mono (Nat.le_trans (by simp) B5.out.size)))
          have Z6 := hide (Z5.out.trans (hb.mono (Nat.le_trans (by simp) Z5.out.size)))
          have K16 := hide (K15.out.trans (hb.mono (Nat.le_trans (by simp) K15.out.size)))
          have K26 := hide (K25.out.trans (hb.mono (Nat.le_trans (by simp) K25.out.size)))
          clear hb B5 Z5 K15 K25
          obtain ⟨A4, c4, hv, hsl4⟩ := Fo_sl hown (by first | omega | simp)
          subst hv
          have S4 := hide hsl4
          clear hown hsl4 H3
          have K46 := hide (Below.refl w6.heap.size w6)
          clear q0 q1 q2 q3
          go_wp2
          go_ret
          exact ⟨rfl, B6.out⟩
        · skip
          have e1b : (r1 == 0) = false := by simpa using e1
          have E1 := hide e1
          clear e1
          have k1b : (s1 == 0) = false := by simpa using k1
          have K1 := hide k1
          clear k1
          have VU := hide m2
          have LU := m2.len
          have t7 := fun W A1 n1 c1 hs => pright_any A1 n1 c1 u2 W hs
          rw [m2.right] at t7
          have t8 := fun W A1 n1 c1 hs => pfree_any A1 n1 c1 u2 o0 W hs m2.M
          rw [m5] at t8
          obtain ⟨b1, b2⟩ := m3
          obtain ⟨b3, b4⟩ := m4
          have y1 : IntKind.i64.wrap (f0 + o2) = f0 + o2 := by rw [IntKind.wrap_i64]; omega
          have y2 : IntKind.i64.wrap (f0 + o2 - o3) = f0 + o2 - o3 := by rw [IntKind.wrap_i64]; omega
          have Y1 := hide y1
          have Y2 := hide y2
          have T7 := hide t7
          have T8 := hide t8
          clear t7 t8 m2 m5 y1 y2
          have LR : r2.length ≤ 140737488355328 := hr2
          have LS : s2.length ≤ 140737488355328 := hs2
          go_enter Try.func9, Try.ntmps9
          go_wp2_with fail
          refine (alive_any _).mono ?_
          rintro e w1 ⟨rfl, hb⟩
          have B1 := hide (B0.out.trans (hb.mono (Nat.le_trans (by simp) B0.out.size)))
          have Z1 := hide (Z0.out.trans (hb.mono (Nat.le_trans (by simp) Z0.out.size)))
          clear hb 
          go_wp2_with fail
          refine (HV.out _ B1.out).mono ?_
          rintro e w2 ⟨rfl, hb⟩
          have B2 := hide (B1.out.trans (hb.mono (Nat.le_trans (by simp) B1.out.size)))
          have Z2 := hide (Z1.out.trans (hb.mono (Nat.le_trans (by simp) Z1.out.size)))
          clear hb B1 Z1
          clear HV
          have hbx := HZ.out _ Z2.out
          have q0 := hbx.cell 0
          have q1 := hbx.cell 1
          have q2 := hbx.cell 2
          have q3 := hbx.cell 3
          simp at q0 q1 q2 q3
          clear hbx
          go_wp2_with fail
          refine (H1.out _ B2.out).mono ?_
          rintro e w3 ⟨v1, rfl, hown, hb⟩
          have B3 := hide (B2.out.trans (hb.mono (Nat.le_trans (by simp) B2.out.size)))
          have Z3 := hide (Z2.out.trans (hb.mono (Nat.le_trans (by simp) Z2.out.size)))
          clear hb B2 Z2
          obtain ⟨A1, c1, hv, hsl1⟩ := Fo_sl hown (by first | omega | simp)
          subst hv
          have S1 := hide hsl1
          clear hown hsl1 H1
          have K13 := hide (Below.refl w3.heap.size w3)
          clear q0 q1 q2 q3
          go_wp2_with fail
          refine wp_region_grn (by kernel_rfl) (by kernel_rfl) ?_
          repeat (go_big_quiet_step (fail))
          refine wpQuiet_nil ?_
          rintro _ ⟨p, rfl⟩
          obtain ⟨w4, hw4⟩ : ∃ w4, w4 = p.W := ⟨_, rfl⟩
          have hb : Below w3.heap.size w3 w4 := by rw [hw4]; exact p.h
          rw [← hw4]
          have B4 := hide (B3.out.trans (hb.mono (Nat.le_trans (by simp) B3.out.size)))
          have Z4 := hide (Z3.out.trans (hb.mono (Nat.le_trans (by simp) Z3.out.size)))
          have K14 := hide (K13.out.trans (hb.mono (Nat.le_trans (by simp) K13.out.size)))
          clear hb hw4 B3 Z3 K13
          have hbx := HZ.out _ Z4.out
          have q0 := hbx.cell 0
          have q1 := hbx.cell 1
          have q2 := hbx.cell 2
          have q3 := hbx.cell 3
          simp at q0 q1 q2 q3
          clear hbx
          go_wp2_with fail
          refine (H2.out _ B4.out).mono ?_
          rintro e w5 ⟨v2, rfl, hown, hb⟩
          have B5 := hide (B4.out.trans (hb.mono (Nat.le_trans (by simp) B4.out.size)))
          have Z5 := hide (Z4.out.trans (hb.mono (Nat.le_trans (by simp) Z4.out.size)))
          have K15 := hide (K14.out.trans (hb.mono (Nat.le_trans (by simp) K14.out.size)))
          clear hb B4 Z4 K14
          obtain ⟨A2, c2, hv, hsl2⟩ := Fo_sl hown (by first | omega | simp)
          subst hv
          have S2 := hide hsl2
          clear hown hsl2 H2
          have K25 := hide (Below.refl w5.heap.size w5)
          clear q0 q1 q2 q3
          have hbx := HZ.out _ Z5.out
          have q0 := hbx.cell 0
          have q1 := hbx.cell 1
          have q2 := hbx.cell 2
          have q3 := hbx.cell 3
          simp at q0 q1 q2 q3
          clear hbx
          go_wp2_with fail
          refine (H3.out _ B5.out).mono ?_
          rintro e w6 ⟨v4, rfl, hown, hb⟩
          have B6 := hide (B5.out.trans (hb.mono (Nat.le_trans (by simp) B5.out.size)))
          have Z6 := hide (Z5.out.trans (hb.mono (Nat.le_trans (by simp) Z5.out.size)))
          have K16 := hide (K15.out.trans (hb.mono (Nat.le_trans (by simp) K15.out.size)))
          have K26 := hide (K25.out.trans (hb.mono (Nat.le_trans (by simp) K25.out.size)))
          clear hb B5 Z5 K15 K25
          obtain ⟨A4, c4, hv, hsl4⟩ := Fo_sl hown (by first | omega | simp)
          subst hv
          have S4 := hide hsl4
          clear hown hsl4 H3
          have K46 := hide (Below.refl w6.heap.size w6)
          clear q0 q1 q2 q3
          have hbx := HZ.out _ Z6.out
          have q0 := hbx.cell 0
          have q1 := hbx.cell 1
          have q2 := hbx.cell 2
          have q3 := hbx.cell 3
          simp at q0 q1 q2 q3
          clear hbx
          have g0 := Grn.cell q0
          have g1 := Grn.cell q1
          have g2 := Grn.cell q2
          have g3 := Grn.cell q3
          have y1 := Y1.out
          have y2 := Y2.out
          go_wp2_with fail
          refine wp_region_grn (by kernel_rfl) (by kernel_rfl) ?_
          repeat (go_big_quiet_step (first | (go_at_call 30; with_reducible exact Calls_grn (T7.out _ _ _ _ ((S4.out.below (Grn.h _)).more (Grn.h _).size))) | (go_at_call 15; with_reducible exact Calls_grn (T8.out _ _ _ _ ((S4.out.below (Grn.h _)).more (Grn.h _).size))) | (go_at_call 15; with_reducible exact Calls_grn (HF0.out _ (B6.out.trans ((Grn.h _).mono B6.out.size))))))
          refine wpQuiet_nil ?_
          rintro _ ⟨p, rfl⟩
          obtain ⟨w7, hw7⟩ : ∃ w7, w7 = p.W := ⟨_, rfl⟩
          have hb : Below w6.heap.size w6 w7 := by rw [hw7]; exact p.h
          rw [← hw7]
          have B7 := hide (B6.out.trans (hb.mono (Nat.le_trans (by simp) B6.out.size)))
          have Z7 := hide (Z6.out.trans (hb.mono (Nat.le_trans (by simp) Z6.out.size)))
          have K17 := hide (K16.out.trans (hb.mono (Nat.le_trans (by simp) K16.out.size)))
          have K27 := hide (K26.out.trans (hb.mono (Nat.le_trans (by simp) K26.out.size)))
          have K47 := hide (K46.out.trans (hb.mono (Nat.le_trans (by simp) K46.out.size)))
          clear hb hw7 B6 Z6 K16 K26 K46
          go_wp2
          go_ret
          exact ⟨rfl, B7.out⟩
      · rcases c3 with ⟨m1, m2⟩ | ⟨rfl, m2, m3, m4, m5⟩
        · skip
          have e1b : (r1 == 0) = false := by simpa using e1
          have E1 := hide e1
          clear e1
          have VS := hide k2
          have LS := k2.len
          have t5 := fun W A1 n1 c1 hs => pright_any A1 n1 c1 s2 W hs
          rw [k2.right] at t5
          have t6 := fun W A1 n1 c1 hs hn => prel_any A1 n1 c1 s2 o0 o3 W hs hn k2.M
          rw [k3] at t6
          simp only at t6
          have T5 := hide t5
          have T6 := hide t6
          clear t5 t6 k2 k3
          have m1b : (u1 != 0) = true := by simpa using m1
          have M1 := hide m1
          clear m1
          have LR : r2.length ≤ 140737488355328 := hr2
          go_enter Try.func9, Try.ntmps9
          go_wp2_with fail
          refine (alive_any _).mono ?_
          rintro e w1 ⟨rfl, hb⟩
          have B1 := hide (B0.out.trans (hb.mono (Nat.le_trans (by simp) B0.out.size)))
          have Z1 := hide (Z0.out.trans (hb.mono (Nat.le_trans (by simp) Z0.out.size)))
          clear hb 
          go_wp2_with fail
          refine (HV.out _ B1.out).mono ?_
          rintro e w2 ⟨rfl, hb⟩
          have B2 := hide (B1.out.trans (hb.mono (Nat.le_trans (by simp) B1.out.size)))
          have Z2 := hide (Z1.out.trans (hb.mono (Nat.le_trans (by simp) Z1.out.size)))
          clear hb B1 Z1
          clear HV
          have hbx := HZ.out _ Z2.out
          have q0 := hbx.cell 0
          have q1 := hbx.cell 1
          have q2 := hbx.cell 2
          have q3 := hbx.cell 3
          simp at q0 q1 q2 q3
          clear hbx
          go_wp2_with fail
          refine (H1.out _ B2.out).mono ?_
          rintro e w3 ⟨v1, rfl, hown, hb⟩
          have B3 := hide (B2.out.trans (hb.mono (Nat.le_trans (by simp) B2.out.size)))
          have Z3 := hide (Z2.out.trans (hb.mono (Nat.le_trans (by simp) Z2.out.size)))
          clear hb B2 Z2
          obtain ⟨A1, c1, hv, hsl1⟩ := Fo_sl hown (by first | omega | simp)
          subst hv
          have S1 := hide hsl1
          clear hown hsl1 H1
          have K13 := hide (Below.refl w3.heap.size w3)
          clear q0 q1 q2 q3
          go_wp2_with fail
          refine wp_region_grn (by kernel_rfl) (by kernel_rfl) ?_
          repeat (go_big_quiet_step (fail))
          refine wpQuiet_nil ?_
          rintro _ ⟨p, rfl⟩
          obtain ⟨w4, hw4⟩ : ∃ w4, w4 = p.W := ⟨_, rfl⟩
          have hb : Below w3.heap.size w3 w4 := by rw [hw4]; exact p.h
          rw [← hw4]
          have B4 := hide (B3.out.trans (hb.mono (Nat.le_trans (by simp) B3.out.size)))
          have Z4 := hide (Z3.out.trans (hb.mono (Nat.le_trans (by simp) Z3.out.size)))
          have K14 := hide (K13.out.trans (hb.mono (Nat.le_trans (by simp) K13.out.size)))
          clear hb hw4 B3 Z3 K13
          have hbx := HZ.out _ Z4.out
          have q0 := hbx.cell 0
          have q1 := hbx.cell 1
          have q2 := hbx.cell 2
          have q3 := hbx.cell 3
          simp at q0 q1 q2 q3
          clear hbx
          go_wp2_with fail
          refine (H2.out _ B4.out).mono ?_
          rintro e w5 ⟨v2, rfl, hown, hb⟩
          have B5 := hide (B4.out.trans (hb.mono (Nat.le_trans (by simp) B4.out.size)))
          have Z5 := hide (Z4.out.trans (hb.mono (Nat.le_trans (by simp) Z4.out.size)))
          have K15 := hide (K14.out.trans (hb.mono (Nat.le_trans (by simp) K14.out.size)))
          clear hb B4 Z4 K14
          obtain ⟨A2, c2, hv, hsl2⟩ := Fo_sl hown (by first | omega | simp)
          subst hv
          have S2 := hide hsl2
          clear hown hsl2 H2
          have K25 := hide (Below.refl w5.heap.size w5)
          clear q0 q1 q2 q3
          have hbx := HZ.out _ Z5.out
          have q0 := hbx.cell 0
          have q1 := hbx.cell 1
          have q2 := hbx.cell 2
          have q3 := hbx.cell 3
          simp at q0 q1 q2 q3
          clear hbx
          go_wp2_with fail
          refine (T6.out _ _ _ _ ((S2.out.below K25.out).more K25.out.size) (by omega)).mono ?_
          rintro e w6 ⟨v3, rfl, hown, hb⟩
          have B6 := hide (B5.out.trans (hb.mono (Nat.le_trans (by simp) B5.out.size)))
          have Z6 := hide (Z5.out.trans (hb.mono (Nat.le_trans (by simp) Z5.out.size)))
          have K16 := hide (K15.out.trans (hb.mono (Nat.le_trans (by simp) K15.out.size)))
          have K26 := hide (K25.out.trans (hb.mono (Nat.le_trans (by simp) K25.out.size)))
          clear hb B5 Z5 K15 K25
          obtain ⟨A3, c3, hv, hsl3⟩ := Fo_sl hown (by first | omega | simp)
          subst hv
          have S3 := hide hsl3
          clear hown hsl3 T6
          have K36 := hide (Below.refl w6.heap.size w6)
          clear q0 q1 q2 q3
          go_wp2_with fail
          refine (T5.out _ _ _ _ ((S2.out.below K26.out).more K26.out.size)).mono ?_
          rintro e w7 ⟨rfl, hb⟩
          have B7 := hide (B6.out.trans (hb.mono (Nat.le_trans (by simp) B6.out.size)))
          have Z7 := hide (Z6.out.trans (hb.mono (Nat.le_trans (by simp) Z6.out.size)))
          have K17 := hide (K16.out.trans (hb.mono (Nat.le_trans (by simp) K16.out.size)))
          have K27 := hide (K26.out.trans (hb.mono (Nat.le_trans (by simp) K26.out.size)))
          have K37 := hide (K36.out.trans (hb.mono (Nat.le_trans (by simp) K36.out.size)))
          clear hb B6 Z6 K16 K26 K36
          clear T5
          have hq := same_any _ _ _ _ _ _ _ _ _ ((S3.out.below K37.out).more K37.out.size) (HSL.out _ B7.out)
          rw [decide_eq_true rfl] at hq
          have HQ := hide hq
          clear hq
          go_wp2_with fail
          refine (HQ.out).mono ?_
          rintro e w8 ⟨rfl, hb⟩
          have B8 := hide (B7.out.trans (hb.mono (Nat.le_trans (by simp) B7.out.size)))
          have Z8 := hide (Z7.out.trans (hb.mono (Nat.le_trans (by simp) Z7.out.size)))
          have K18 := hide (K17.out.trans (hb.mono (Nat.le_trans (by simp) K17.out.size)))
          have K28 := hide (K27.out.trans (hb.mono (Nat.le_trans (by simp) K27.out.size)))
          have K38 := hide (K37.out.trans (hb.mono (Nat.le_trans (by simp) K37.out.size)))
          clear hb B7 Z7 K17 K27 K37
          subst m2
          have hbx := HZ.out _ Z8.out
          have q0 := hbx.cell 0
          have q1 := hbx.cell 1
          have q2 := hbx.cell 2
          have q3 := hbx.cell 3
          simp at q0 q1 q2 q3
          clear hbx
          go_wp2_with fail
          refine (H3.out _ B8.out).mono ?_
          rintro e w9 ⟨v4, rfl, hown, hb⟩
          have B9 := hide (B8.out.trans (hb.mono (Nat.le_trans (by simp) B8.out.size)))
          have Z9 := hide (Z8.out.trans (hb.mono (Nat.le_trans (by simp) Z8.out.size)))
          have K19 := hide (K18.out.trans (hb.mono (Nat.le_trans (by simp) K18.out.size)))
          have K29 := hide (K28.out.trans (hb.mono (Nat.le_trans (by simp) K28.out.size)))
          have K39 := hide (K38.out.trans (hb.mono (Nat.le_trans (by simp) K38.out.size)))
          clear hb B8 Z8 K18 K28 K38
          obtain ⟨A4, c4, hv, hsl4⟩ := Fo_sl hown (by first | omega | simp)
          subst hv
          have S4 := hide hsl4
          clear hown hsl4 H3
          have K49 := hide (Below.refl w9.heap.size w9)
          clear q0 q1 q2 q3
          go_wp2
          go_ret
          exact ⟨rfl, B9.out⟩
        · skip
          have e1b : (r1 == 0) = false := by simpa using e1
          have E1 := hide e1
          clear e1
          have VS := hide k2
          have LS := k2.len
          have t5 := fun W A1 n1 c1 hs => pright_any A1 n1 c1 s2 W hs
          rw [k2.right] at t5
          have t6 := fun W A1 n1 c1 hs hn => prel_any A1 n1 c1 s2 o0 o3 W hs hn k2.M
          rw [k3] at t6
          simp only at t6
          have T5 := hide t5
          have T6 := hide t6
          clear t5 t6 k2 k3
          have VU := hide m2
          have LU := m2.len
          have t7 := fun W A1 n1 c1 hs => pright_any A1 n1 c1 u2 W hs
          rw [m2.right] at t7
          have t8 := fun W A1 n1 c1 hs => pfree_any A1 n1 c1 u2 o0 W hs m2.M
          rw [m5] at t8
          obtain ⟨b1, b2⟩ := m3
          obtain ⟨b3, b4⟩ := m4
          have y1 : IntKind.i64.wrap (f0 + o2) = f0 + o2 := by rw [IntKind.wrap_i64]; omega
          have y2 : IntKind.i64.wrap (f0 + o2 - o3) = f0 + o2 - o3 := by rw [IntKind.wrap_i64]; omega
          have Y1 := hide y1
          have Y2 := hide y2
          have T7 := hide t7
          have T8 := hide t8
          clear t7 t8 m2 m5 y1 y2
          have LR : r2.length ≤ 140737488355328 := hr2
          go_enter Try.func9, Try.ntmps9
          go_wp2_with fail
          refine (alive_any _).mono ?_
          rintro e w1 ⟨rfl, hb⟩
          have B1 := hide (B0.out.trans (hb.mono (Nat.le_trans (by simp) B0.out.size)))
          have Z1 := hide (Z0.out.trans (hb.mono (Nat.le_trans (by simp) Z0.out.size)))
          clear hb 
          go_wp2_with fail
          refine (HV.out _ B1.out).mono ?_
          rintro e w2 ⟨rfl, hb⟩
          have B2 := hide (B1.out.trans (hb.mono (Nat.le_trans (by simp) B1.out.size)))
          have Z2 := hide (Z1.out.trans (hb.mono (Nat.le_trans (by simp) Z1.out.size)))
          clear hb B1 Z1
          clear HV
          have hbx := HZ.out _ Z2.out
          have q0 := hbx.cell 0
          have q1 := hbx.cell 1
          have q2 := hbx.cell 2
          have q3 := hbx.cell 3
          simp at q0 q1 q2 q3
          clear hbx
          go_wp2_with fail
          refine (H1.out _ B2.out).mono ?_
          rintro e w3 ⟨v1, rfl, hown, hb⟩
          have B3 := hide (B2.out.trans (hb.mono (Nat.le_trans (by simp) B2.out.size)))
          have Z3 := hide (Z2.out.trans (hb.mono (Nat.le_trans (by simp) Z2.out.size)))
          clear hb B2 Z2
          obtain ⟨A1, c1, hv, hsl1⟩ := Fo_sl hown (by first | omega | simp)
          subst hv
          have S1 := hide hsl1
          clear hown hsl1 H1
          have K13 := hide (Below.refl w3.heap.size w3)
          clear q0 q1 q2 q3
          go_wp2_with fail
          refine wp_region_grn (by kernel_rfl) (by kernel_rfl) ?_
          repeat (go_big_quiet_step (fail))
          refine wpQuiet_nil ?_
          rintro _ ⟨p, rfl⟩
          obtain ⟨w4, hw4⟩ : ∃ w4, w4 = p.W := ⟨_, rfl⟩
          have hb : Below w3.heap.size w3 w4 := by rw [hw4]; exact p.h
          rw [← hw4]
          have B4 := hide (B3.out.trans (hb.mono (Nat.le_trans (by simp) B3.out.size)))
          have Z4 := hide (Z3.out.trans (hb.mono (Nat.le_trans (by simp) Z3.out.size)))
          have K14 := hide (K13.out.trans (hb.mono (Nat.le_trans (by simp) K13.out.size)))
          clear hb hw4 B3 Z3 K13
          have hbx := HZ.out _ Z4.out
          have q0 := hbx.cell 0
          have q1 := hbx.cell 1
          have q2 := hbx.cell 2
          have q3 := hbx.cell 3
          simp at q0 q1 q2 q3
          clear hbx
          go_wp2_with fail
          refine (H2.out _ B4.out).mono ?_
          rintro e w5 ⟨v2, rfl, hown, hb⟩
          have B5 := hide (B4.out.trans (hb.mono (Nat.le_trans (by simp) B4.out.size)))
          have Z5 := hide (Z4.out.trans (hb.mono (Nat.le_trans (by simp) Z4.out.size)))
          have K15 := hide (K14.out.trans (hb.mono (Nat.le_trans (by simp) K14.out.size)))
          clear hb B4 Z4 K14
          obtain ⟨A2, c2, hv, hsl2⟩ := Fo_sl hown (by first | omega | simp)
          subst hv
          have S2 := hide hsl2
          clear hown hsl2 H2
          have K25 := hide (Below.refl w5.heap.size w5)
          clear q0 q1 q2 q3
          have hbx := HZ.out _ Z5.out
          have q0 := hbx.cell 0
          have q1 := hbx.cell 1
          have q2 := hbx.cell 2
          have q3 := hbx.cell 3
          simp at q0 q1 q2 q3
          clear hbx
          go_wp2_with fail
          refine (T6.out _ _ _ _ ((S2.out.below K25.out).more K25.out.size) (by omega)).mono ?_
          rintro e w6 ⟨v3, rfl, hown, hb⟩
          have B6 := hide (B5.out.trans (hb.mono (Nat.le_trans (by simp) B5.out.size)))
          have Z6 := hide (Z5.out.trans (hb.mono (Nat.le_trans (by simp) Z5.out.size)))
          have K16 := hide (K15.out.trans (hb.mono (Nat.le_trans (by simp) K15.out.size)))
          have K26 := hide (K25.out.trans (hb.mono (Nat.le_trans (by simp) K25.out.size)))
          clear hb B5 Z5 K15 K25
          obtain ⟨A3, c3, hv, hsl3⟩ := Fo_sl hown (by first | omega | simp)
          subst hv
          have S3 := hide hsl3
          clear hown hsl3 T6
          have K36 := hide (Below.refl w6.heap.size w6)
          clear q0 q1 q2 q3
          go_wp2_with fail
          refine (T5.out _ _ _ _ ((S2.out.below K26.out).more K26.out.size)).mono ?_
          rintro e w7 ⟨rfl, hb⟩
          have B7 := hide (B6.out.trans (hb.mono (Nat.le_trans (by simp) B6.out.size)))
          have Z7 := hide (Z6.out.trans (hb.mono (Nat.le_trans (by simp) Z6.out.size)))
          have K17 := hide (K16.out.trans (hb.mono (Nat.le_trans (by simp) K16.out.size)))
          have K27 := hide (K26.out.trans (hb.mono (Nat.le_trans (by simp) K26.out.size)))
          have K37 := hide (K36.out.trans (hb.mono (Nat.le_trans (by simp) K36.out.size)))
          clear hb B6 Z6 K16 K26 K36
          clear T5
          have hq := same_any _ _ _ _ _ _ _ _ _ ((S3.out.below K37.out).more K37.out.size) (HSL.out _ B7.out)
          rw [decide_eq_true rfl] at hq
          have HQ := hide hq
          clear hq
          go_wp2_with fail
          refine (HQ.out).mono ?_
          rintro e w8 ⟨rfl, hb⟩
          have B8 := hide (B7.out.trans (hb.mono (Nat.le_trans (by simp) B7.out.size)))
          have Z8 := hide (Z7.out.trans (hb.mono (Nat.le_trans (by simp) Z7.out.size)))
          have K18 := hide (K17.out.trans (hb.mono (Nat.le_trans (by simp) K17.out.size)))
          have K28 := hide (K27.out.trans (hb.mono (Nat.le_trans (by simp) K27.out.size)))
          have K38 := hide (K37.out.trans (hb.mono (Nat.le_trans (by simp) K37.out.size)))
          clear hb B7 Z7 K17 K27 K37
          have hbx := HZ.out _ Z8.out
          have q0 := hbx.cell 0
          have q1 := hbx.cell 1
          have q2 := hbx.cell 2
          have q3 := hbx.cell 3
          simp at q0 q1 q2 q3
          clear hbx
          go_wp2_with fail
          refine (H3.out _ B8.out).mono ?_
          rintro e w9 ⟨v4, rfl, hown, hb⟩
          have B9 := hide (B8.out.trans (hb.mono (Nat.le_trans (by simp) B8.out.size)))
          have Z9 := hide (Z8.out.trans (hb.mono (Nat.le_trans (by simp) Z8.out.size)))
          have K19 := hide (K18.out.trans (hb.mono (Nat.le_trans (by simp) K18.out.size)))
          have K29 := hide (K28.out.trans (hb.mono (Nat.le_trans (by simp) K28.out.size)))
          have K39 := hide (K38.out.trans (hb.mono (Nat.le_trans (by simp) K38.out.size)))
          clear hb B8 Z8 K18 K28 K38
          obtain ⟨A4, c4, hv, hsl4⟩ := Fo_sl hown (by first | omega | simp)
          subst hv
          have S4 := hide hsl4
          clear hown hsl4 H3
          have K49 := hide (Below.refl w9.heap.size w9)
          clear q0 q1 q2 q3
          have hbx := HZ.out _ Z9.out
          have q0 := hbx.cell 0
          have q1 := hbx.cell 1
          have q2 := hbx.cell 2
          have q3 := hbx.cell 3
          simp at q0 q1 q2 q3
          clear hbx
          have g0 := Grn.cell q0
          have g1 := Grn.cell q1
          have g2 := Grn.cell q2
          have g3 := Grn.cell q3
          have y1 := Y1.out
          have y2 := Y2.out
          go_wp2_with fail
          refine wp_region_grn (by kernel_rfl) (by kernel_rfl) ?_
          repeat (go_big_quiet_step (first | (go_at_call 30; with_reducible exact Calls_grn (T7.out _ _ _ _ ((S4.out.below (Grn.h _)).more (Grn.h _).size))) | (go_at_call 15; with_reducible exact Calls_grn (T8.out _ _ _ _ ((S4.out.below (Grn.h _)).more (Grn.h _).size))) | (go_at_call 15; with_reducible exact Calls_grn (HF0.out _ (B9.out.trans ((Grn.h _).mono B9.out.size))))))
          refine wpQuiet_nil ?_
          rintro _ ⟨p, rfl⟩
          obtain ⟨w10, hw10⟩ : ∃ w10, w10 = p.W := ⟨_, rfl⟩
          have hb : Below w9.heap.size w9 w10 := by rw [hw10]; exact p.h
          rw [← hw10]
          have B10 := hide (B9.out.trans (hb.mono (Nat.le_trans (by simp) B9.out.size)))
          have Z10 := hide (Z9.out.trans (hb.mono (Nat.le_trans (by simp) Z9.out.size)))
          have K110 := hide (K19.out.trans (hb.mono (Nat.le_trans (by simp) K19.out.size)))
          have K210 := hide (K29.out.trans (hb.mono (Nat.le_trans (by simp) K29.out.size)))
          have K310 := hide (K39.out.trans (hb.mono (Nat.le_trans (by simp) K39.out.size)))
          have K410 := hide (K49.out.trans (hb.mono (Nat.le_trans (by simp) K49.out.size)))
          clear hb hw10 B9 Z9 K19 K29 K39 K49
          go_wp2
          go_ret
          exact ⟨rfl, B10.out⟩
    · rcases c2 with k1 | ⟨rfl, k2, k3⟩
      · rcases c3 with ⟨m1, m2⟩ | ⟨rfl, m2, m3, m4, m5⟩
        · skip
          have VR := hide e2
          have LR := e2.len
          have t1 := fun W A1 n1 c1 hs => budg_any A1 n1 c1 r2 W W.heap.size hs
          have t2 := fun W A1 n1 c1 hs => pright_any A1 n1 c1 r2 W hs
          rw [e2.right] at t2
          have t3 := fun W A1 n1 c1 hs => pfree_any A1 n1 c1 r2 o0 W hs e2.M
          have t4 := fun W A1 n1 c1 hs => pfree_any A1 n1 c1 r2 o1 W hs e2.M
          rw [e5] at t3
          rw [e6] at t4
          have t1 : ∀ W A1 n1 c1, Fs W W.heap.size A1 n1 c1 r2 → n1 ≤ 1000 → Calls Try.prog 34 #[.slice A1 n1 c1] W fun e w' => e = .returned (.int .i64 S) ∧ W = w' := fun W A1 n1 c1 hs hn => by have := t1 W A1 n1 c1 hs hn e2.M; rwa [e3] at this
          obtain ⟨a1, a2⟩ := e4
          have x1 : IntKind.i64.wrap (f0 - o3) = f0 - o3 := by rw [IntKind.wrap_i64]; omega
          have x2 : IntKind.i64.wrap (f1 + o3) = f1 + o3 := by rw [IntKind.wrap_i64]; omega
          have X1 := hide x1
          have X2 := hide x2
          have T1 := hide t1
          have T2 := hide t2
          have T3 := hide t3
          have T4 := hide t4
          clear t1 t2 t3 t4 e2 e3 e5 e6 x1 x2
          have k1b : (s1 == 0) = false := by simpa using k1
          have K1 := hide k1
          clear k1
          have m1b : (u1 != 0) = true := by simpa using m1
          have M1 := hide m1
          clear m1
          have LS : s2.length ≤ 140737488355328 := hs2
          go_enter Try.func9, Try.ntmps9
          go_wp2_with fail
          refine (alive_any _).mono ?_
          rintro e w1 ⟨rfl, hb⟩
          have B1 := hide (B0.out.trans (hb.mono (Nat.le_trans (by simp) B0.out.size)))
          have Z1 := hide (Z0.out.trans (hb.mono (Nat.le_trans (by simp) Z0.out.size)))
          clear hb 
          go_wp2_with fail
          refine (HV.out _ B1.out).mono ?_
          rintro e w2 ⟨rfl, hb⟩
          have B2 := hide (B1.out.trans (hb.mono (Nat.le_trans (by simp) B1.out.size)))
          have Z2 := hide (Z1.out.trans (hb.mono (Nat.le_trans (by simp) Z1.out.size)))
          clear hb B1 Z1
          clear HV
          have hbx := HZ.out _ Z2.out
          have q0 := hbx.cell 0
          have q1 := hbx.cell 1
          have q2 := hbx.cell 2
          have q3 := hbx.cell 3
          simp at q0 q1 q2 q3
          clear hbx
          go_wp2_with fail
          refine (H1.out _ B2.out).mono ?_
          rintro e w3 ⟨v1, rfl, hown, hb⟩
          have B3 := hide (B2.out.trans (hb.mono (Nat.le_trans (by simp) B2.out.size)))
          have Z3 := hide (Z2.out.trans (hb.mono (Nat.le_trans (by simp) Z2.out.size)))
          clear hb B2 Z2
          obtain ⟨A1, c1, hv, hsl1⟩ := Fo_sl hown (by first | omega | simp)
          subst hv
          have S1 := hide hsl1
          clear hown hsl1 H1
          have K13 := hide (Below.refl w3.heap.size w3)
          clear q0 q1 q2 q3
          have hbx := HZ.out _ Z3.out
          have q0 := hbx.cell 0
          have q1 := hbx.cell 1
          have q2 := hbx.cell 2
          have q3 := hbx.cell 3
          simp at q0 q1 q2 q3
          clear hbx
          have g0 := Grn.cell q0
          have g1 := Grn.cell q1
          have g2 := Grn.cell q2
          have g3 := Grn.cell q3
          have x1 := X1.out
          have x2 := X2.out
          go_wp2_with fail
          refine wp_region_grn (by kernel_rfl) (by kernel_rfl) ?_
          repeat (go_big_quiet_step (first | (go_at_call 34; with_reducible exact Calls_grn_same (T1.out _ _ _ _ ((S1.out.below (Grn.h _)).more (Grn.h _).size) (by omega))) | (go_at_call 34; with_reducible exact Calls_grn_same (HB0.out _ (B3.out.trans ((Grn.h _).mono B3.out.size)))) | (go_at_call 30; with_reducible exact Calls_grn (T2.out _ _ _ _ ((S1.out.below (Grn.h _)).more (Grn.h _).size))) | (go_at_call 15; with_reducible exact Calls_grn (T3.out _ _ _ _ ((S1.out.below (Grn.h _)).more (Grn.h _).size))) | (go_at_call 15; with_reducible exact Calls_grn (HF0.out _ (B3.out.trans ((Grn.h _).mono B3.out.size)))) | (go_at_call 15; with_reducible exact Calls_grn (T4.out _ _ _ _ ((S1.out.below (Grn.h _)).more (Grn.h _).size))) | (go_at_call 15; with_reducible exact Calls_grn (HF1.out _ (B3.out.trans ((Grn.h _).mono B3.out.size))))))
          refine wpQuiet_nil ?_
          rintro _ ⟨p, rfl⟩
          obtain ⟨w4, hw4⟩ : ∃ w4, w4 = p.W := ⟨_, rfl⟩
          have hb : Below w3.heap.size w3 w4 := by rw [hw4]; exact p.h
          rw [← hw4]
          have B4 := hide (B3.out.trans (hb.mono (Nat.le_trans (by simp) B3.out.size)))
          have Z4 := hide (Z3.out.trans (hb.mono (Nat.le_trans (by simp) Z3.out.size)))
          have K14 := hide (K13.out.trans (hb.mono (Nat.le_trans (by simp) K13.out.size)))
          clear hb hw4 B3 Z3 K13
          clear q0 q1 q2 q3 g0 g1 g2 g3
          clear x1 x2
          have hbx := HZ.out _ Z4.out
          have q0 := hbx.cell 0
          have q1 := hbx.cell 1
          have q2 := hbx.cell 2
          have q3 := hbx.cell 3
          simp at q0 q1 q2 q3
          clear hbx
          go_wp2_with fail
          refine (H2.out _ B4.out).mono ?_
          rintro e w5 ⟨v2, rfl, hown, hb⟩
          have B5 := hide (B4.out.trans (hb.mono (Nat.le_trans (by simp) B4.out.size)))
          have Z5 := hide (Z4.out.trans (hb.mono (Nat.le_trans (by simp) Z4.out.size)))
          have K15 := hide (K14.out.trans (hb.mono (Nat.le_trans (by simp) K14.out.size)))
          clear hb B4 Z4 K14
          obtain ⟨A2, c2, hv, hsl2⟩ := Fo_sl hown (by first | omega | simp)
          subst hv
          have S2 := hide hsl2
          clear hown hsl2 H2
          have K25 := hide (Below.refl w5.heap.size w5)
          clear q0 q1 q2 q3
          subst m2
          have hbx := HZ.out _ Z5.out
          have q0 := hbx.cell 0
          have q1 := hbx.cell 1
          have q2 := hbx.cell 2
          have q3 := hbx.cell 3
          simp at q0 q1 q2 q3
          clear hbx
          go_wp2_with fail
          refine (H3.out _ B5.out).mono ?_
          rintro e w6 ⟨v4, rfl, hown, hb⟩
          have B6 := hide (B5.out.trans (hb.mono (Nat.le_trans (by simp) B5.out.size)))
          have Z6 := hide (Z5.out.trans (hb.mono (Nat.le_trans (by simp) Z5.out.size)))
          have K16 := hide (K15.out.trans (hb.mono (Nat.le_trans (by simp) K15.out.size)))
          have K26 := hide (K25.out.trans (hb.mono (Nat.le_trans (by simp) K25.out.size)))
          clear hb B5 Z5 K15 K25
          obtain ⟨A4, c4, hv, hsl4⟩ := Fo_sl hown (by first | omega | simp)
          subst hv
          have S4 := hide hsl4
          clear hown hsl4 H3
          have K46 := hide (Below.refl w6.heap.size w6)
          clear q0 q1 q2 q3
          go_wp2
          go_ret
          exact ⟨rfl, B6.out⟩
        · skip
          have VR := hide e2
          have LR := e2.len
          have t1 := fun W A1 n1 c1 hs => budg_any A1 n1 c1 r2 W W.heap.size hs
          have t2 := fun W A1 n1 c1 hs => pright_any A1 n1 c1 r2 W hs
          rw [e2.right] at t2
          have t3 := fun W A1 n1 c1 hs => pfree_any A1 n1 c1 r2 o0 W hs e2.M
          have t4 := fun W A1 n1 c1 hs => pfree_any A1 n1 c1 r2 o1 W hs e2.M
          rw [e5] at t3
          rw [e6] at t4
          have t1 : ∀ W A1 n1 c1, Fs W W.heap.size A1 n1 c1 r2 → n1 ≤ 1000 → Calls Try.prog 34 #[.slice A1 n1 c1] W fun e w' => e = .returned (.int .i64 S) ∧ W = w' := fun W A1 n1 c1 hs hn => by have := t1 W A1 n1 c1 hs hn e2.M; rwa [e3] at this
          obtain ⟨a1, a2⟩ := e4
          have x1 : IntKind.i64.wrap (f0 - o3) = f0 - o3 := by rw [IntKind.wrap_i64]; omega
          have x2 : IntKind.i64.wrap (f1 + o3) = f1 + o3 := by rw [IntKind.wrap_i64]; omega
          have X1 := hide x1
          have X2 := hide x2
          have T1 := hide t1
          have T2 := hide t2
          have T3 := hide t3
          have T4 := hide t4
          clear t1 t2 t3 t4 e2 e3 e5 e6 x1 x2
          have k1b : (s1 == 0) = false := by simpa using k1
          have K1 := hide k1
          clear k1
          have VU := hide m2
          have LU := m2.len
          have t7 := fun W A1 n1 c1 hs => pright_any A1 n1 c1 u2 W hs
          rw [m2.right] at t7
          have t8 := fun W A1 n1 c1 hs => pfree_any A1 n1 c1 u2 o0 W hs m2.M
          rw [m5] at t8
          obtain ⟨b1, b2⟩ := m3
          obtain ⟨b3, b4⟩ := m4
          have y1 : IntKind.i64.wrap (f0 + o2) = f0 + o2 := by rw [IntKind.wrap_i64]; omega
          have y2 : IntKind.i64.wrap (f0 + o2 - o3) = f0 + o2 - o3 := by rw [IntKind.wrap_i64]; omega
          have Y1 := hide y1
          have Y2 := hide y2
          have T7 := hide t7
          have T8 := hide t8
          clear t7 t8 m2 m5 y1 y2
          have LS : s2.length ≤ 140737488355328 := hs2
          go_enter Try.func9, Try.ntmps9
          go_wp2_with fail
          refine (alive_any _).mono ?_
          rintro e w1 ⟨rfl, hb⟩
          have B1 := hide (B0.out.trans (hb.mono (Nat.le_trans (by simp) B0.out.size)))
          have Z1 := hide (Z0.out.trans (hb.mono (Nat.le_trans (by simp) Z0.out.size)))
          clear hb 
          go_wp2_with fail
          refine (HV.out _ B1.out).mono ?_
          rintro e w2 ⟨rfl, hb⟩
          have B2 := hide (B1.out.trans (hb.mono (Nat.le_trans (by simp) B1.out.size)))
          have Z2 := hide (Z1.out.trans (hb.mono (Nat.le_trans (by simp) Z1.out.size)))
          clear hb B1 Z1
          clear HV
          have hbx := HZ.out _ Z2.out
          have q0 := hbx.cell 0
          have q1 := hbx.cell 1
          have q2 := hbx.cell 2
          have q3 := hbx.cell 3
          simp at q0 q1 q2 q3
          clear hbx
          go_wp2_with fail
          refine (H1.out _ B2.out).mono ?_
          rintro e w3 ⟨v1, rfl, hown, hb⟩
          have B3 := hide (B2.out.trans (hb.mono (Nat.le_trans (by simp) B2.out.size)))
          have Z3 := hide (Z2.out.trans (hb.mono (Nat.le_trans (by simp) Z2.out.size)))
          clear hb B2 Z2
          obtain ⟨A1, c1, hv, hsl1⟩ := Fo_sl hown (by first | omega | simp)
          subst hv
          have S1 := hide hsl1
          clear hown hsl1 H1
          have K13 := hide (Below.refl w3.heap.size w3)
          clear q0 q1 q2 q3
          have hbx := HZ.out _ Z3.out
          have q0 := hbx.cell 0
          have q1 := hbx.cell 1
          have q2 := hbx.cell 2
          have q3 := hbx.cell 3
          simp at q0 q1 q2 q3
          clear hbx
          have g0 := Grn.cell q0
          have g1 := Grn.cell q1
          have g2 := Grn.cell q2
          have g3 := Grn.cell q3
          have x1 := X1.out
          have x2 := X2.out
          go_wp2_with fail
          refine wp_region_grn (by kernel_rfl) (by kernel_rfl) ?_
          repeat (go_big_quiet_step (first | (go_at_call 34; with_reducible exact Calls_grn_same (T1.out _ _ _ _ ((S1.out.below (Grn.h _)).more (Grn.h _).size) (by omega))) | (go_at_call 34; with_reducible exact Calls_grn_same (HB0.out _ (B3.out.trans ((Grn.h _).mono B3.out.size)))) | (go_at_call 30; with_reducible exact Calls_grn (T2.out _ _ _ _ ((S1.out.below (Grn.h _)).more (Grn.h _).size))) | (go_at_call 15; with_reducible exact Calls_grn (T3.out _ _ _ _ ((S1.out.below (Grn.h _)).more (Grn.h _).size))) | (go_at_call 15; with_reducible exact Calls_grn (HF0.out _ (B3.out.trans ((Grn.h _).mono B3.out.size)))) | (go_at_call 15; with_reducible exact Calls_grn (T4.out _ _ _ _ ((S1.out.below (Grn.h _)).more (Grn.h _).size))) | (go_at_call 15; with_reducible exact Calls_grn (HF1.out _ (B3.out.trans ((Grn.h _).mono B3.out.size))))))
          refine wpQuiet_nil ?_
          rintro _ ⟨p, rfl⟩
          obtain ⟨w4, hw4⟩ : ∃ w4, w4 = p.W := ⟨_, rfl⟩
          have hb : Below w3.heap.size w3 w4 := by rw [hw4]; exact p.h
          rw [← hw4]
          have B4 := hide (B3.out.trans (hb.mono (Nat.le_trans (by simp) B3.out.size)))
          have Z4 := hide (Z3.out.trans (hb.mono (Nat.le_trans (by simp) Z3.out.size)))
          have K14 := hide (K13.out.trans (hb.mono (Nat.le_trans (by simp) K13.out.size)))
          clear hb hw4 B3 Z3 K13
          clear q0 q1 q2 q3 g0 g1 g2 g3
          clear x1 x2
          have hbx := HZ.out _ Z4.out
          have q0 := hbx.cell 0
          have q1 := hbx.cell 1
          have q2 := hbx.cell 2
          have q3 := hbx.cell 3
          simp at q0 q1 q2 q3
          clear hbx
          go_wp2_with fail
          refine (H2.out _ B4.out).mono ?_
          rintro e w5 ⟨v2, rfl, hown, hb⟩
          have B5 := hide (B4.out.trans (hb.mono (Nat.le_trans (by simp) B4.out.size)))
          have Z5 := hide (Z4.out.trans (hb.mono (Nat.le_trans (by simp) Z4.out.size)))
          have K15 := hide (K14.out.trans (hb.mono (Nat.le_trans (by simp) K14.out.size)))
          clear hb B4 Z4 K14
          obtain ⟨A2, c2, hv, hsl2⟩ := Fo_sl hown (by first | omega | simp)
          subst hv
          have S2 := hide hsl2
          clear hown hsl2 H2
          have K25 := hide (Below.refl w5.heap.size w5)
          clear q0 q1 q2 q3
          have hbx := HZ.out _ Z5.out
          have q0 := hbx.cell 0
          have q1 := hbx.cell 1
          have q2 := hbx.cell 2
          have q3 := hbx.cell 3
          simp at q0 q1 q2 q3
          clear hbx
          go_wp2_with fail
          refine (H3.out _ B5.out).mono ?_
          rintro e w6 ⟨v4, rfl, hown, hb⟩
          have B6 := hide (B5.out.trans (hb.mono (Nat.le_trans (by simp) B5.out.size)))
          have Z6 := hide (Z5.out.trans (hb.mono (Nat.le_trans (by simp) Z5.out.size)))
          have K16 := hide (K15.out.trans (hb.mono (Nat.le_trans (by simp) K15.out.size)))
          have K26 := hide (K25.out.trans (hb.mono (Nat.le_trans (by simp) K25.out.size)))
          clear hb B5 Z5 K15 K25
          obtain ⟨A4, c4, hv, hsl4⟩ := Fo_sl hown (by first | omega | simp)
          subst hv
          have S4 := hide hsl4
          clear hown hsl4 H3
          have K46 := hide (Below.refl w6.heap.size w6)
          clear q0 q1 q2 q3
          have hbx := HZ.out _ Z6.out
          have q0 := hbx.cell 0
          have q1 := hbx.cell 1
          have q2 := hbx.cell 2
          have q3 := hbx.cell 3
          simp at q0 q1 q2 q3
          clear hbx
          have g0 := Grn.cell q0
          have g1 := Grn.cell q1
          have g2 := Grn.cell q2
          have g3 := Grn.cell q3
          have y1 := Y1.out
          have y2 := Y2.out
          go_wp2_with fail
          refine wp_region_grn (by kernel_rfl) (by kernel_rfl) ?_
          repeat (go_big_quiet_step (first | (go_at_call 30; with_reducible exact Calls_grn (T7.out _ _ _ _ ((S4.out.below (Grn.h _)).more (Grn.h _).size))) | (go_at_call 15; with_reducible exact Calls_grn (T8.out _ _ _ _ ((S4.out.below (Grn.h _)).more (Grn.h _).size))) | (go_at_call 15; with_reducible exact Calls_grn (HF0.out _ (B6.out.trans ((Grn.h _).mono B6.out.size))))))
          refine wpQuiet_nil ?_
          rintro _ ⟨p, rfl⟩
          obtain ⟨w7, hw7⟩ : ∃ w7, w7 = p.W := ⟨_, rfl⟩
          have hb : Below w6.heap.size w6 w7 := by rw [hw7]; exact p.h
          rw [← hw7]
          have B7 := hide (B6.out.trans (hb.mono (Nat.le_trans (by simp) B6.out.size)))
          have Z7 := hide (Z6.out.trans (hb.mono (Nat.le_trans (by simp) Z6.out.size)))
          have K17 := hide (K16.out.trans (hb.mono (Nat.le_trans (by simp) K16.out.size)))
          have K27 := hide (K26.out.trans (hb.mono (Nat.le_trans (by simp) K26.out.size)))
          have K47 := hide (K46.out.trans (hb.mono (Nat.le_trans (by simp) K46.out.size)))
          clear hb hw7 B6 Z6 K16 K26 K46
          go_wp2
          go_ret
          exact ⟨rfl, B7.out⟩
      · rcases c3 with ⟨m1, m2⟩ | ⟨rfl, m2, m3, m4, m5⟩
        · skip
          have VR := hide e2
          have LR := e2.len
          have t1 := fun W A1 n1 c1 hs => budg_any A1 n1 c1 r2 W W.heap.size hs
          have t2 := fun W A1 n1 c1 hs => pright_any A1 n1 c1 r2 W hs
          rw [e2.right] at t2
          have t3 := fun W A1 n1 c1 hs => pfree_any A1 n1 c1 r2 o0 W hs e2.M
          have t4 := fun W A1 n1 c1 hs => pfree_any A1 n1 c1 r2 o1 W hs e2.M
          rw [e5] at t3
          rw [e6] at t4
          have t1 : ∀ W A1 n1 c1, Fs W W.heap.size A1 n1 c1 r2 → n1 ≤ 1000 → Calls Try.prog 34 #[.slice A1 n1 c1] W fun e w' => e = .returned (.int .i64 S) ∧ W = w' := fun W A1 n1 c1 hs hn => by have := t1 W A1 n1 c1 hs hn e2.M; rwa [e3] at this
          obtain ⟨a1, a2⟩ := e4
          have x1 : IntKind.i64.wrap (f0 - o3) = f0 - o3 := by rw [IntKind.wrap_i64]; omega
          have x2 : IntKind.i64.wrap (f1 + o3) = f1 + o3 := by rw [IntKind.wrap_i64]; omega
          have X1 := hide x1
          have X2 := hide x2
          have T1 := hide t1
          have T2 := hide t2
          have T3 := hide t3
          have T4 := hide t4
          clear t1 t2 t3 t4 e2 e3 e5 e6 x1 x2
          have VS := hide k2
          have LS := k2.len
          have t5 := fun W A1 n1 c1 hs => pright_any A1 n1 c1 s2 W hs
          rw [k2.right] at t5
          have t6 := fun W A1 n1 c1 hs hn => prel_any A1 n1 c1 s2 o0 o3 W hs hn k2.M
          rw [k3] at t6
          simp only at t6
          have T5 := hide t5
          have T6 := hide t6
          clear t5 t6 k2 k3
          have m1b : (u1 != 0) = true := by simpa using m1
          have M1 := hide m1
          clear m1
          go_enter Try.func9, Try.ntmps9
          go_wp2_with fail
          refine (alive_any _).mono ?_
          rintro e w1 ⟨rfl, hb⟩
          have B1 := hide (B0.out.trans (hb.mono (Nat.le_trans (by simp) B0.out.size)))
          have Z1 := hide (Z0.out.trans (hb.mono (Nat.le_trans (by simp) Z0.out.size)))
          clear hb 
          go_wp2_with fail
          refine (HV.out _ B1.out).mono ?_
          rintro e w2 ⟨rfl, hb⟩
          have B2 := hide (B1.out.trans (hb.mono (Nat.le_trans (by simp) B1.out.size)))
          have Z2 := hide (Z1.out.trans (hb.mono (Nat.le_trans (by simp) Z1.out.size)))
          clear hb B1 Z1
          clear HV
          have hbx := HZ.out _ Z2.out
          have q0 := hbx.cell 0
          have q1 := hbx.cell 1
          have q2 := hbx.cell 2
          have q3 := hbx.cell 3
          simp at q0 q1 q2 q3
          clear hbx
          go_wp2_with fail
          refine (H1.out _ B2.out).mono ?_
          rintro e w3 ⟨v1, rfl, hown, hb⟩
          have B3 := hide (B2.out.trans (hb.mono (Nat.le_trans (by simp) B2.out.size)))
          have Z3 := hide (Z2.out.trans (hb.mono (Nat.le_trans (by simp) Z2.out.size)))
          clear hb B2 Z2
          obtain ⟨A1, c1, hv, hsl1⟩ := Fo_sl hown (by first | omega | simp)
          subst hv
          have S1 := hide hsl1
          clear hown hsl1 H1
          have K13 := hide (Below.refl w3.heap.size w3)
          clear q0 q1 q2 q3
          have hbx := HZ.out _ Z3.out
          have q0 := hbx.cell 0
          have q1 := hbx.cell 1
          have q2 := hbx.cell 2
          have q3 := hbx.cell 3
          simp at q0 q1 q2 q3
          clear hbx
          have g0 := Grn.cell q0
          have g1 := Grn.cell q1
          have g2 := Grn.cell q2
          have g3 := Grn.cell q3
          have x1 := X1.out
          have x2 := X2.out
          go_wp2_with fail
          refine wp_region_grn (by kernel_rfl) (by kernel_rfl) ?_
          repeat (go_big_quiet_step (first | (go_at_call 34; with_reducible exact Calls_grn_same (T1.out _ _ _ _ ((S1.out.below (Grn.h _)).more (Grn.h _).size) (by omega))) | (go_at_call 34; with_reducible exact Calls_grn_same (HB0.out _ (B3.out.trans ((Grn.h _).mono B3.out.size)))) | (go_at_call 30; with_reducible exact Calls_grn (T2.out _ _ _ _ ((S1.out.below (Grn.h _)).more (Grn.h _).size))) | (go_at_call 15; with_reducible exact Calls_grn (T3.out _ _ _ _ ((S1.out.below (Grn.h _)).more (Grn.h _).size))) | (go_at_call 15; with_reducible exact Calls_grn (HF0.out _ (B3.out.trans ((Grn.h _).mono B3.out.size)))) | (go_at_call 15; with_reducible exact Calls_grn (T4.out _ _ _ _ ((S1.out.below (Grn.h _)).more (Grn.h _).size))) | (go_at_call 15; with_reducible exact Calls_grn (HF1.out _ (B3.out.trans ((Grn.h _).mono B3.out.size))))))
          refine wpQuiet_nil ?_
          rintro _ ⟨p, rfl⟩
          obtain ⟨w4, hw4⟩ : ∃ w4, w4 = p.W := ⟨_, rfl⟩
          have hb : Below w3.heap.size w3 w4 := by rw [hw4]; exact p.h
          rw [← hw4]
          have B4 := hide (B3.out.trans (hb.mono (Nat.le_trans (by simp) B3.out.size)))
          have Z4 := hide (Z3.out.trans (hb.mono (Nat.le_trans (by simp) Z3.out.size)))
          have K14 := hide (K13.out.trans (hb.mono (Nat.le_trans (by simp) K13.out.size)))
          clear hb hw4 B3 Z3 K13
          clear q0 q1 q2 q3 g0 g1 g2 g3
          clear x1 x2
          have hbx := HZ.out _ Z4.out
          have q0 := hbx.cell 0
          have q1 := hbx.cell 1
          have q2 := hbx.cell 2
          have q3 := hbx.cell 3
          simp at q0 q1 q2 q3
          clear hbx
          go_wp2_with fail
          refine (H2.out _ B4.out).mono ?_
          rintro e w5 ⟨v2, rfl, hown, hb⟩
          have B5 := hide (B4.out.trans (hb.mono (Nat.le_trans (by simp) B4.out.size)))
          have Z5 := hide (Z4.out.trans (hb.mono (Nat.le_trans (by simp) Z4.out.size)))
          have K15 := hide (K14.out.trans (hb.mono (Nat.le_trans (by simp) K14.out.size)))
          clear hb B4 Z4 K14
          obtain ⟨A2, c2, hv, hsl2⟩ := Fo_sl hown (by first | omega | simp)
          subst hv
          have S2 := hide hsl2
          clear hown hsl2 H2
          have K25 := hide (Below.refl w5.heap.size w5)
          clear q0 q1 q2 q3
          have hbx := HZ.out _ Z5.out
          have q0 := hbx.cell 0
          have q1 := hbx.cell 1
          have q2 := hbx.cell 2
          have q3 := hbx.cell 3
          simp at q0 q1 q2 q3
          clear hbx
          go_wp2_with fail
          refine (T6.out _ _ _ _ ((S2.out.below K25.out).more K25.out.size) (by omega)).mono ?_
          rintro e w6 ⟨v3, rfl, hown, hb⟩
          have B6 := hide (B5.out.trans (hb.mono (Nat.le_trans (by simp) B5.out.size)))
          have Z6 := hide (Z5.out.trans (hb.mono (Nat.le_trans (by simp) Z5.out.size)))
          have K16 := hide (K15.out.trans (hb.mono (Nat.le_trans (by simp) K15.out.size)))
          have K26 := hide (K25.out.trans (hb.mono (Nat.le_trans (by simp) K25.out.size)))
          clear hb B5 Z5 K15 K25
          obtain ⟨A3, c3, hv, hsl3⟩ := Fo_sl hown (by first | omega | simp)
          subst hv
          have S3 := hide hsl3
          clear hown hsl3 T6
          have K36 := hide (Below.refl w6.heap.size w6)
          clear q0 q1 q2 q3
          go_wp2_with fail
          refine (T5.out _ _ _ _ ((S2.out.below K26.out).more K26.out.size)).mono ?_
          rintro e w7 ⟨rfl, hb⟩
          have B7 := hide (B6.out.trans (hb.mono (Nat.le_trans (by simp) B6.out.size)))
          have Z7 := hide (Z6.out.trans (hb.mono (Nat.le_trans (by simp) Z6.out.size)))
          have K17 := hide (K16.out.trans (hb.mono (Nat.le_trans (by simp) K16.out.size)))
          have K27 := hide (K26.out.trans (hb.mono (Nat.le_trans (by simp) K26.out.size)))
          have K37 := hide (K36.out.trans (hb.mono (Nat.le_trans (by simp) K36.out.size)))
          clear hb B6 Z6 K16 K26 K36
          clear T5
          have hq := same_any _ _ _ _ _ _ _ _ _ ((S3.out.below K37.out).more K37.out.size) (HSL.out _ B7.out)
          rw [decide_eq_true rfl] at hq
          have HQ := hide hq
          clear hq
          go_wp2_with fail
          refine (HQ.out).mono ?_
          rintro e w8 ⟨rfl, hb⟩
          have B8 := hide (B7.out.trans (hb.mono (Nat.le_trans (by simp) B7.out.size)))
          have Z8 := hide (Z7.out.trans (hb.mono (Nat.le_trans (by simp) Z7.out.size)))
          have K18 := hide (K17.out.trans (hb.mono (Nat.le_trans (by simp) K17.out.size)))
          have K28 := hide (K27.out.trans (hb.mono (Nat.le_trans (by simp) K27.out.size)))
          have K38 := hide (K37.out.trans (hb.mono (Nat.le_trans (by simp) K37.out.size)))
          clear hb B7 Z7 K17 K27 K37
          subst m2
          have hbx := HZ.out _ Z8.out
          have q0 := hbx.cell 0
          have q1 := hbx.cell 1
          have q2 := hbx.cell 2
          have q3 := hbx.cell 3
          simp at q0 q1 q2 q3
          clear hbx
          go_wp2_with fail
          refine (H3.out _ B8.out).mono ?_
          rintro e w9 ⟨v4, rfl, hown, hb⟩
          have B9 := hide (B8.out.trans (hb.mono (Nat.le_trans (by simp) B8.out.size)))
          have Z9 := hide (Z8.out.trans (hb.mono (Nat.le_trans (by simp) Z8.out.size)))
          have K19 := hide (K18.out.trans (hb.mono (Nat.le_trans (by simp) K18.out.size)))
          have K29 := hide (K28.out.trans (hb.mono (Nat.le_trans (by simp) K28.out.size)))
          have K39 := hide (K38.out.trans (hb.mono (Nat.le_trans (by simp) K38.out.size)))
          clear hb B8 Z8 K18 K28 K38
          obtain ⟨A4, c4, hv, hsl4⟩ := Fo_sl hown (by first | omega | simp)
          subst hv
          have S4 := hide hsl4
          clear hown hsl4 H3
          have K49 := hide (Below.refl w9.heap.size w9)
          clear q0 q1 q2 q3
          go_wp2
          go_ret
          exact ⟨rfl, B9.out⟩
        · skip
          have VR := hide e2
          have LR := e2.len
          have t1 := fun W A1 n1 c1 hs => budg_any A1 n1 c1 r2 W W.heap.size hs
          have t2 := fun W A1 n1 c1 hs => pright_any A1 n1 c1 r2 W hs
          rw [e2.right] at t2
          have t3 := fun W A1 n1 c1 hs => pfree_any A1 n1 c1 r2 o0 W hs e2.M
          have t4 := fun W A1 n1 c1 hs => pfree_any A1 n1 c1 r2 o1 W hs e2.M
          rw [e5] at t3
          rw [e6] at t4
          have t1 : ∀ W A1 n1 c1, Fs W W.heap.size A1 n1 c1 r2 → n1 ≤ 1000 → Calls Try.prog 34 #[.slice A1 n1 c1] W fun e w' => e = .returned (.int .i64 S) ∧ W = w' := fun W A1 n1 c1 hs hn => by have := t1 W A1 n1 c1 hs hn e2.M; rwa [e3] at this
          obtain ⟨a1, a2⟩ := e4
          have x1 : IntKind.i64.wrap (f0 - o3) = f0 - o3 := by rw [IntKind.wrap_i64]; omega
          have x2 : IntKind.i64.wrap (f1 + o3) = f1 + o3 := by rw [IntKind.wrap_i64]; omega
          have X1 := hide x1
          have X2 := hide x2
          have T1 := hide t1
          have T2 := hide t2
          have T3 := hide t3
          have T4 := hide t4
          clear t1 t2 t3 t4 e2 e3 e5 e6 x1 x2
          have VS := hide k2
          have LS := k2.len
          have t5 := fun W A1 n1 c1 hs => pright_any A1 n1 c1 s2 W hs
          rw [k2.right] at t5
          have t6 := fun W A1 n1 c1 hs hn => prel_any A1 n1 c1 s2 o0 o3 W hs hn k2.M
          rw [k3] at t6
          simp only at t6
          have T5 := hide t5
          have T6 := hide t6
          clear t5 t6 k2 k3
          have VU := hide m2
          have LU := m2.len
          have t7 := fun W A1 n1 c1 hs => pright_any A1 n1 c1 u2 W hs
          rw [m2.right] at t7
          have t8 := fun W A1 n1 c1 hs => pfree_any A1 n1 c1 u2 o0 W hs m2.M
          rw [m5] at t8
          obtain ⟨b1, b2⟩ := m3
          obtain ⟨b3, b4⟩ := m4
          have y1 : IntKind.i64.wrap (f0 + o2) = f0 + o2 := by rw [IntKind.wrap_i64]; omega
          have y2 : IntKind.i64.wrap (f0 + o2 - o3) = f0 + o2 - o3 := by rw [IntKind.wrap_i64]; omega
          have Y1 := hide y1
          have Y2 := hide y2
          have T7 := hide t7
          have T8 := hide t8
          clear t7 t8 m2 m5 y1 y2
          go_enter Try.func9, Try.ntmps9
          go_wp2_with fail
          refine (alive_any _).mono ?_
          rintro e w1 ⟨rfl, hb⟩
          have B1 := hide (B0.out.trans (hb.mono (Nat.le_trans (by simp) B0.out.size)))
          have Z1 := hide (Z0.out.trans (hb.mono (Nat.le_trans (by simp) Z0.out.size)))
          clear hb 
          go_wp2_with fail
          refine (HV.out _ B1.out).mono ?_
          rintro e w2 ⟨rfl, hb⟩
          have B2 := hide (B1.out.trans (hb.mono (Nat.le_trans (by simp) B1.out.size)))
          have Z2 := hide (Z1.out.trans (hb.mono (Nat.le_trans (by simp) Z1.out.size)))
          clear hb B1 Z1
          clear HV
          have hbx := HZ.out _ Z2.out
          have q0 := hbx.cell 0
          have q1 := hbx.cell 1
          have q2 := hbx.cell 2
          have q3 := hbx.cell 3
          simp at q0 q1 q2 q3
          clear hbx
          go_wp2_with fail
          refine (H1.out _ B2.out).mono ?_
          rintro e w3 ⟨v1, rfl, hown, hb⟩
          have B3 := hide (B2.out.trans (hb.mono (Nat.le_trans (by simp) B2.out.size)))
          have Z3 := hide (Z2.out.trans (hb.mono (Nat.le_trans (by simp) Z2.out.size)))
          clear hb B2 Z2
          obtain ⟨A1, c1, hv, hsl1⟩ := Fo_sl hown (by first | omega | simp)
          subst hv
          have S1 := hide hsl1
          clear hown hsl1 H1
          have K13 := hide (Below.refl w3.heap.size w3)
          clear q0 q1 q2 q3
          have hbx := HZ.out _ Z3.out
          have q0 := hbx.cell 0
          have q1 := hbx.cell 1
          have q2 := hbx.cell 2
          have q3 := hbx.cell 3
          simp at q0 q1 q2 q3
          clear hbx
          have g0 := Grn.cell q0
          have g1 := Grn.cell q1
          have g2 := Grn.cell q2
          have g3 := Grn.cell q3
          have x1 := X1.out
          have x2 := X2.out
          go_wp2_with fail
          refine wp_region_grn (by kernel_rfl) (by kernel_rfl) ?_
          repeat (go_big_quiet_step (first | (go_at_call 34; with_reducible exact Calls_grn_same (T1.out _ _ _ _ ((S1.out.below (Grn.h _)).more (Grn.h _).size) (by omega))) | (go_at_call 34; with_reducible exact Calls_grn_same (HB0.out _ (B3.out.trans ((Grn.h _).mono B3.out.size)))) | (go_at_call 30; with_reducible exact Calls_grn (T2.out _ _ _ _ ((S1.out.below (Grn.h _)).more (Grn.h _).size))) | (go_at_call 15; with_reducible exact Calls_grn (T3.out _ _ _ _ ((S1.out.below (Grn.h _)).more (Grn.h _).size))) | (go_at_call 15; with_reducible exact Calls_grn (HF0.out _ (B3.out.trans ((Grn.h _).mono B3.out.size)))) | (go_at_call 15; with_reducible exact Calls_grn (T4.out _ _ _ _ ((S1.out.below (Grn.h _)).more (Grn.h _).size))) | (go_at_call 15; with_reducible exact Calls_grn (HF1.out _ (B3.out.trans ((Grn.h _).mono B3.out.size))))))
          refine wpQuiet_nil ?_
          rintro _ ⟨p, rfl⟩
          obtain ⟨w4, hw4⟩ : ∃ w4, w4 = p.W := ⟨_, rfl⟩
          have hb : Below w3.heap.size w3 w4 := by rw [hw4]; exact p.h
          rw [← hw4]
          have B4 := hide (B3.out.trans (hb.mono (Nat.le_trans (by simp) B3.out.size)))
          have Z4 := hide (Z3.out.trans (hb.mono (Nat.le_trans (by simp) Z3.out.size)))
          have K14 := hide (K13.out.trans (hb.mono (Nat.le_trans (by simp) K13.out.size)))
          clear hb hw4 B3 Z3 K13
          clear q0 q1 q2 q3 g0 g1 g2 g3
          clear x1 x2
          have hbx := HZ.out _ Z4.out
          have q0 := hbx.cell 0
          have q1 := hbx.cell 1
          have q2 := hbx.cell 2
          have q3 := hbx.cell 3
          simp at q0 q1 q2 q3
          clear hbx
          go_wp2_with fail
          refine (H2.out _ B4.out).mono ?_
          rintro e w5 ⟨v2, rfl, hown, hb⟩
          have B5 := hide (B4.out.trans (hb.mono (Nat.le_trans (by simp) B4.out.size)))
          have Z5 := hide (Z4.out.trans (hb.mono (Nat.le_trans (by simp) Z4.out.size)))
          have K15 := hide (K14.out.trans (hb.mono (Nat.le_trans (by simp) K14.out.size)))
          clear hb B4 Z4 K14
          obtain ⟨A2, c2, hv, hsl2⟩ := Fo_sl hown (by first | omega | simp)
          subst hv
          have S2 := hide hsl2
          clear hown hsl2 H2
          have K25 := hide (Below.refl w5.heap.size w5)
          clear q0 q1 q2 q3
          have hbx := HZ.out _ Z5.out
          have q0 := hbx.cell 0
          have q1 := hbx.cell 1
          have q2 := hbx.cell 2
          have q3 := hbx.cell 3
          simp at q0 q1 q2 q3
          clear hbx
          go_wp2_with fail
          refine (T6.out _ _ _ _ ((S2.out.below K25.out).more K25.out.size) (by omega)).mono ?_
          rintro e w6 ⟨v3, rfl, hown, hb⟩
          have B6 := hide (B5.out.trans (hb.mono (Nat.le_trans (by simp) B5.out.size)))
          have Z6 := hide (Z5.out.trans (hb.mono (Nat.le_trans (by simp) Z5.out.size)))
          have K16 := hide (K15.out.trans (hb.mono (Nat.le_trans (by simp) K15.out.size)))
          have K26 := hide (K25.out.trans (hb.mono (Nat.le_trans (by simp) K25.out.size)))
          clear hb B5 Z5 K15 K25
          obtain ⟨A3, c3, hv, hsl3⟩ := Fo_sl hown (by first | omega | simp)
          subst hv
          have S3 := hide hsl3
          clear hown hsl3 T6
          have K36 := hide (Below.refl w6.heap.size w6)
          clear q0 q1 q2 q3
          go_wp2_with fail
          refine (T5.out _ _ _ _ ((S2.out.below K26.out).more K26.out.size)).mono ?_
          rintro e w7 ⟨rfl, hb⟩
          have B7 := hide (B6.out.trans (hb.mono (Nat.le_trans (by simp) B6.out.size)))
          have Z7 := hide (Z6.out.trans (hb.mono (Nat.le_trans (by simp) Z6.out.size)))
          have K17 := hide (K16.out.trans (hb.mono (Nat.le_trans (by simp) K16.out.size)))
          have K27 := hide (K26.out.trans (hb.mono (Nat.le_trans (by simp) K26.out.size)))
          have K37 := hide (K36.out.trans (hb.mono (Nat.le_trans (by simp) K36.out.size)))
          clear hb B6 Z6 K16 K26 K36
          clear T5
          have hq := same_any _ _ _ _ _ _ _ _ _ ((S3.out.below K37.out).more K37.out.size) (HSL.out _ B7.out)
          rw [decide_eq_true rfl] at hq
          have HQ := hide hq
          clear hq
          go_wp2_with fail
          refine (HQ.out).mono ?_
          rintro e w8 ⟨rfl, hb⟩
          have B8 := hide (B7.out.trans (hb.mono (Nat.le_trans (by simp) B7.out.size)))
          have Z8 := hide (Z7.out.trans (hb.mono (Nat.le_trans (by simp) Z7.out.size)))
          have K18 := hide (K17.out.trans (hb.mono (Nat.le_trans (by simp) K17.out.size)))
          have K28 := hide (K27.out.trans (hb.mono (Nat.le_trans (by simp) K27.out.size)))
          have K38 := hide (K37.out.trans (hb.mono (Nat.le_trans (by simp) K37.out.size)))
          clear hb B7 Z7 K17 K27 K37
          have hbx := HZ.out _ Z8.out
          have q0 := hbx.cell 0
          have q1 := hbx.cell 1
          have q2 := hbx.cell 2
          have q3 := hbx.cell 3
          simp at q0 q1 q2 q3
          clear hbx
          go_wp2_with fail
          refine (H3.out _ B8.out).mono ?_
          rintro e w9 ⟨v4, rfl, hown, hb⟩
          have B9 := hide (B8.out.trans (hb.mono (Nat.le_trans (by simp) B8.out.size)))
          have Z9 := hide (Z8.out.trans (hb.mono (Nat.le_trans (by simp) Z8.out.size)))
          have K19 := hide (K18.out.trans (hb.mono (Nat.le_trans (by simp) K18.out.size)))
          have K29 := hide (K28.out.trans (hb.mono (Nat.le_trans (by simp) K28.out.size)))
          have K39 := hide (K38.out.trans (hb.mono (Nat.le_trans (by simp) K38.out.size)))
          clear hb B8 Z8 K18 K28 K38
          obtain ⟨A4, c4, hv, hsl4⟩ := Fo_sl hown (by first | omega | simp)
          subst hv
          have S4 := hide hsl4
          clear hown hsl4 H3
          have K49 := hide (Below.refl w9.heap.size w9)
          clear q0 q1 q2 q3
          have hbx := HZ.out _ Z9.out
          have q0 := hbx.cell 0
          have q1 := hbx.cell 1
          have q2 := hbx.cell 2
          have q3 := hbx.cell 3
          simp at q0 q1 q2 q3
          clear hbx
          have g0 := Grn.cell q0
          have g1 := Grn.cell q1
          have g2 := Grn.cell q2
          have g3 := Grn.cell q3
          have y1 := Y1.out
          have y2 := Y2.out
          go_wp2_with fail
          refine wp_region_grn (by kernel_rfl) (by kernel_rfl) ?_
          repeat (go_big_quiet_step (first | (go_at_call 30; with_reducible exact Calls_grn (T7.out _ _ _ _ ((S4.out.below (Grn.h _)).more (Grn.h _).size))) | (go_at_call 15; with_reducible exact Calls_grn (T8.out _ _ _ _ ((S4.out.below (Grn.h _)).more (Grn.h _).size))) | (go_at_call 15; with_reducible exact Calls_grn (HF0.out _ (B9.out.trans ((Grn.h _).mono B9.out.size))))))
          refine wpQuiet_nil ?_
          rintro _ ⟨p, rfl⟩
          obtain ⟨w10, hw10⟩ : ∃ w10, w10 = p.W := ⟨_, rfl⟩
          have hb : Below w9.heap.size w9 w10 := by rw [hw10]; exact p.h
          rw [← hw10]
          have B10 := hide (B9.out.trans (hb.mono (Nat.le_trans (by simp) B9.out.size)))
          have Z10 := hide (Z9.out.trans (hb.mono (Nat.le_trans (by simp) Z9.out.size)))
          have K110 := hide (K19.out.trans (hb.mono (Nat.le_trans (by simp) K19.out.size)))
          have K210 := hide (K29.out.trans (hb.mono (Nat.le_trans (by simp) K29.out.size)))
          have K310 := hide (K39.out.trans (hb.mono (Nat.le_trans (by simp) K39.out.size)))
          have K410 := hide (K49.out.trans (hb.mono (Nat.le_trans (by simp) K49.out.size)))
          clear hb hw10 B9 Z9 K19 K29 K39 K49
          go_wp2
          go_ret
          exact ⟨rfl, B10.out⟩
  · have hvb : (rightR xs == 0) = false := by simpa using hv
    rw [hvb] at HV
    clear hsl hs hvb hv
    go_enter Try.func9, Try.ntmps9
    go_wp2_with fail
    refine (alive_any _).mono ?_
    rintro e w1 ⟨rfl, hb⟩
    have B1 := hide (B0.out.trans (hb.mono (Nat.le_trans (by simp) B0.out.size)))
    have Z1 := hide (Z0.out.trans (hb.mono (Nat.le_trans (by simp) Z0.out.size)))
    clear hb 
    go_wp2_with fail
    refine (HV.out _ B1.out).mono ?_
    rintro e w2 ⟨rfl, hb⟩
    have B2 := hide (B1.out.trans (hb.mono (Nat.le_trans (by simp) B1.out.size)))
    have Z2 := hide (Z1.out.trans (hb.mono (Nat.le_trans (by simp) Z1.out.size)))
    clear hb B1 Z1
    go_wp2
    go_ret
    exact ⟨rfl, B2.out⟩
end Go.Proofs.Ytbcapljiangjcaa
