/- Walks: valid; the laws FundTransfers and FundSpends. -/
import Derived.Test.YtbcapljiangjcaaFuR
import Derived.Test.YtbcapljiangjcaaFuM
namespace Go.Proofs.Ytbcapljiangjcaa
open Go.RowKit Go.Maps

theorem valid_any (A : Option Addr) (n c : Nat) (xs : List Fu) (w : World) (hs : Fs w w.heap.size A n c xs) :
    Calls Try.prog 12 #[.slice A n c] w fun e w' => e = .returned (.bool (rightR xs == 0)) ∧ Below w.heap.size w w' := by
  have hr := rright_any A n c xs w hs
  have HR := hide hr
  clear hs hr
  go_enter Try.func12, Try.ntmps12
  go_wp2_with fail
  refine HR.out.mono ?_
  rintro e w1 ⟨rfl, hb⟩
  go_wp2
  go_ret
  exact ⟨rfl, hb⟩

/-- What valid funds are like. -/
structure Vld (xs : List Fu) : Prop where
  len : xs.length ≤ 32
  ok : ∀ x ∈ xs, badF x = false
  chk : chkA none xs = 0
  par : noneF xs = false
  cyc : cycR xs = false
  ovr : overF xs = false
theorem vld_of {xs : List Fu} (h : rightR xs = 0) : Vld xs := by
  unfold rightR at h
  split at h
  · simp at h
  · rename_i h32
    split at h
    · rename_i hc; exact absurd h hc
    · rename_i hc
      have hc0 : chkA none xs = 0 := by simpa using hc
      split at h
      · simp at h
      · rename_i hp
        split at h
        · simp at h
        · rename_i hcy
          split at h
          · simp at h
          · rename_i ho
            exact ⟨by omega, chkA_ok xs none hc0, hc0, by simpa using hp, by simpa using hcy, by simpa using ho⟩
theorem Vld.M {xs : List Fu} (h : Vld xs) : ∀ x ∈ xs, FuM x := fun x hx => (badF_ok (h.ok x hx)).2.2.1
theorem Vld.W {xs : List Fu} (h : Vld xs) : ∀ x ∈ xs, FuW x := fun x hx => (badF_ok (h.ok x hx)).2.2.2

theorem Fo_sl {w : World} {B : Nat} {v : Value} {xs : List Fu} (h : Fo w B v xs) (hn : xs.length ≤ 140737488355328) : ∃ A c, v = .slice A xs.length c ∧ Fs w w.heap.size A xs.length c xs := by
  have h' := h
  rcases h.2 with ⟨rfl, h0⟩ | ⟨g, cap, _, rfl, _⟩
  · refine ⟨none, 0, by rw [h0], ?_⟩
    unfold Fo at h'
    rw [h0] at h' ⊢
    exact Sl.of_own fuE_len h' h0 (by omega)
  · exact ⟨_, cap, rfl, Sl.of_own fuE_len h' rfl hn⟩

theorem chR_len {F : Fu → Int × Fu} {xs : List Fu} {id : Int} : (chR F xs id).2.length ≤ xs.length := by
  unfold chR
  split
  · simp
  · split <;> simp
theorem trR_len {xs : List Fu} {fr to am : Int} : (trR xs fr to am).2.length ≤ xs.length := by
  unfold trR
  repeat' split
  all_goals simp

abbrev Law (f : Nat) (args : Array Value) (w : World) : Prop := Calls Try.prog f args w fun e w' => e = .returned (.bool true) ∧ Below w.heap.size w w'

set_option maxRecDepth 100000 in
set_option maxHeartbeats 2000000 in
theorem fundSpends_any (A : Option Addr) (n c : Nat) (xs : List Fu) (o0 o1 o2 o3 : Int) (w : World) (hs : Fs w w.heap.size A n c xs) (_i0 : I64 o0) (_i1 : I64 o1) (_i2 : I64 o2) (_i3 : I64 o3) :
    Law 6 #[.slice A n c, .agg #[.int .i64 o0, .int .i64 o1, .int .i64 o2, .int .i64 o3]] w := by
  unfold Law
  obtain rfl := hs.len
  have hbw : Below w.heap.size w (w.alloc (.cells #[.int .i64 o0, .int .i64 o1, .int .i64 o2, .int .i64 o3] 33)) := (Below.refl _ _).alloc (Nat.le_refl _) _
  have hbx := Box.new w 33 #[.int .i64 o0, .int .i64 o1, .int .i64 o2, .int .i64 o3]
  have hsl : ∀ W, Below (w.heap.size + 1) (w.alloc (.cells #[.int .i64 o0, .int .i64 o1, .int .i64 o2, .int .i64 o3] 33)) W → Fs W W.heap.size A xs.length c xs ∧ (W.cell? ⟨w.heap.size, 0, none⟩ = some (.int .i64 o0) ∧ W.cell? ⟨w.heap.size, 1, none⟩ = some (.int .i64 o1) ∧ W.cell? ⟨w.heap.size, 2, none⟩ = some (.int .i64 o2) ∧ W.cell? ⟨w.heap.size, 3, none⟩ = some (.int .i64 o3)) := fun W hW =>
    have hB := hbx.below hW (by omega)
    ⟨(hs.below (hbw.trans (hW.mono (by omega)))).more (hbw.trans (hW.mono (by omega))).size, hB.cell 0, hB.cell 1, hB.cell 2, hB.cell 3⟩
  have HSL := hide hsl
  have B0 := hide (Below.refl (w.heap.size + 1) (w.alloc (.cells #[.int .i64 o0, .int .i64 o1, .int .i64 o2, .int .i64 o3] 33)))
  have HBW := hide hbw
  clear hs hbw hbx hsl
  go_enter Try.func6, Try.ntmps6
  go_wp2_with fail
  refine (alive_any _).mono ?_
  rintro e w1 ⟨rfl, hb⟩
  have B1 := hide (B0.out.trans (hb.mono (by simp)))
  clear hb
  have hv := valid_any A xs.length c xs w1 (HSL.out _ B1.out).1
  generalize hq : (rightR xs == 0) = q at hv
  have HV := hide hv
  have HQ := hide hq
  clear hv hq
  cases q with
  | false =>
    go_wp2_with fail
    refine HV.out.mono ?_
    rintro e w2 ⟨rfl, hb⟩
    have B2 := hide (B1.out.trans (hb.mono (by have := B1.out.size; simpa using this)))
    clear hb
    go_wp2
    go_ret
    exact ⟨rfl, HBW.out.trans (B2.out.mono (by omega))⟩
  | true =>
    have hvl : Vld xs := vld_of (by simpa using HQ.out)
    have HVL := hide hvl
    have hl32 : xs.length ≤ 32 := hvl.len
    clear hvl HQ
    go_wp2_with fail
    refine HV.out.mono ?_
    rintro e w2 ⟨rfl, hb⟩
    have B2 := hide (B1.out.trans (hb.mono (by have := B1.out.size; simpa using this)))
    clear hb HV
    have hres : ∃ r, r = chR (encF o3) xs o0 := ⟨_, rfl⟩
    obtain ⟨r0, hr0⟩ := hres
    have hrl : r0.2.length ≤ 32 := by rw [hr0]; exact Nat.le_trans chR_len hl32
    obtain ⟨g0, g1, g2, g3⟩ := (HSL.out _ B2.out).2
    have hc := penc_any A xs.length c xs o0 o3 w2 (HSL.out _ B2.out).1 (by omega) HVL.out.M
    rw [← hr0] at hc
    have HC := hide hc
    skip
    clear hc
    have HRX := hide hr0
    go_wp2_with fail
    refine HC.out.mono ?_
    rintro e w3 ⟨v, rfl, hown, hb⟩
    have B3 := hide (B2.out.trans (hb.mono (by have := B2.out.size; simpa using this)))
    obtain ⟨A0a, c0a, hv, hsl⟩ := Fo_sl hown (by omega)
    subst hv
    have S0a := hide hsl
    have Z0a_3 := hide (Below.refl w3.heap.size w3)
    clear hsl hown hb HC g0 g1 g2 g3
    obtain ⟨g0, g1, g2, g3⟩ := (HSL.out _ B3.out).2
    have hc := renc_any A xs.length c xs o0 o3 w3 (HSL.out _ B3.out).1 (by omega) HVL.out.M
    rw [← hr0] at hc
    have HC := hide hc
    have HRR := hide hr0
    clear hc hr0
    skip
    go_wp2_with fail
    refine HC.out.mono ?_
    rintro e w4 ⟨v, rfl, hown, hb⟩
    have B4 := hide (B3.out.trans (hb.mono (by have := B3.out.size; simpa using this)))
    have Z0a_4 := hide (Z0a_3.out.trans (hb.mono Z0a_3.out.size))
    clear Z0a_3
    obtain ⟨A0b, c0b, hv, hsl⟩ := Fo_sl hown (by omega)
    subst hv
    have S0b := hide hsl
    have Z0b_4 := hide (Below.refl w4.heap.size w4)
    clear hsl hown hb HC g0 g1 g2 g3
    have hres : ∃ r, r = chR (relF o3) xs o0 := ⟨_, rfl⟩
    obtain ⟨r1, hr1⟩ := hres
    have hrl : r1.2.length ≤ 32 := by rw [hr1]; exact Nat.le_trans chR_len hl32
    obtain ⟨g0, g1, g2, g3⟩ := (HSL.out _ B4.out).2
    have hc := prel_any A xs.length c xs o0 o3 w4 (HSL.out _ B4.out).1 (by omega) HVL.out.M
    rw [← hr1] at hc
    have HC := hide hc
    skip
    clear hc
    have HRX := hide hr1
    go_wp2_with fail
    refine HC.out.mono ?_
    rintro e w5 ⟨v, rfl, hown, hb⟩
    have B5 := hide (B4.out.trans (hb.mono (by have := B4.out.size; simpa using this)))
    have Z0a_5 := hide (Z0a_4.out.trans (hb.mono Z0a_4.out.size))
    clear Z0a_4
    have Z0b_5 := hide (Z0b_4.out.trans (hb.mono Z0b_4.out.size))
    clear Z0b_4
    obtain ⟨A1a, c1a, hv, hsl⟩ := Fo_sl hown (by omega)
    subst hv
    have S1a := hide hsl
    have Z1a_5 := hide (Below.refl w5.heap.size w5)
    clear hsl hown hb HC g0 g1 g2 g3
    obtain ⟨g0, g1, g2, g3⟩ := (HSL.out _ B5.out).2
    have hc := rrel_any A xs.length c xs o0 o3 w5 (HSL.out _ B5.out).1 (by omega) HVL.out.M
    rw [← hr1] at hc
    have HC := hide hc
    have HRR := hide hr1
    clear hc hr1
    skip
    go_wp2_with fail
    refine HC.out.mono ?_
    rintro e w6 ⟨v, rfl, hown, hb⟩
    have B6 := hide (B5.out.trans (hb.mono (by have := B5.out.size; simpa using this)))
    have Z0a_6 := hide (Z0a_5.out.trans (hb.mono Z0a_5.out.size))
    clear Z0a_5
    have Z0b_6 := hide (Z0b_5.out.trans (hb.mono Z0b_5.out.size))
    clear Z0b_5
    have Z1a_6 := hide (Z1a_5.out.trans (hb.mono Z1a_5.out.size))
    clear Z1a_5
    obtain ⟨A1b, c1b, hv, hsl⟩ := Fo_sl hown (by omega)
    subst hv
    have S1b := hide hsl
    have Z1b_6 := hide (Below.refl w6.heap.size w6)
    clear hsl hown hb HC g0 g1 g2 g3
    have hres : ∃ r, r = chR (spdF o2 o3) xs o0 := ⟨_, rfl⟩
    obtain ⟨r2, hr2⟩ := hres
    have hrl : r2.2.length ≤ 32 := by rw [hr2]; exact Nat.le_trans chR_len hl32
    obtain ⟨g0, g1, g2, g3⟩ := (HSL.out _ B6.out).2
    have hc := pspd_any A xs.length c xs o0 o2 o3 w6 (HSL.out _ B6.out).1 (by omega) HVL.out.M
    rw [← hr2] at hc
    have HC := hide hc
    skip
    clear hc
    have HRX := hide hr2
    go_wp2_with fail
    refine HC.out.mono ?_
    rintro e w7 ⟨v, rfl, hown, hb⟩
    have B7 := hide (B6.out.trans (hb.mono (by have := B6.out.size; simpa using this)))
    have Z0a_7 := hide (Z0a_6.out.trans (hb.mono Z0a_6.out.size))
    clear Z0a_6
    have Z0b_7 := hide (Z0b_6.out.trans (hb.mono Z0b_6.out.size))
    clear Z0b_6
    have Z1a_7 := hide (Z1a_6.out.trans (hb.mono Z1a_6.out.size))
    clear Z1a_6
    have Z1b_7 := hide (Z1b_6.out.trans (hb.mono Z1b_6.out.size))
    clear Z1b_6
    obtain ⟨A2a, c2a, hv, hsl⟩ := Fo_sl hown (by omega)
    subst hv
    have S2a := hide hsl
    have Z2a_7 := hide (Below.refl w7.heap.size w7)
    clear hsl hown hb HC g0 g1 g2 g3
    obtain ⟨g0, g1, g2, g3⟩ := (HSL.out _ B7.out).2
    have hc := rspd_any A xs.length c xs o0 o2 o3 w7 (HSL.out _ B7.out).1 (by omega) HVL.out.M
    rw [← hr2] at hc
    have HC := hide hc
    have HRR := hide hr2
    clear hc hr2
    skip
    go_wp2_with fail
    refine HC.out.mono ?_
    rintro e w8 ⟨v, rfl, hown, hb⟩
    have B8 := hide (B7.out.trans (hb.mono (by have := B7.out.size; simpa using this)))
    have Z0a_8 := hide (Z0a_7.out.trans (hb.mono Z0a_7.out.size))
    clear Z0a_7
    have Z0b_8 := hide (Z0b_7.out.trans (hb.mono Z0b_7.out.size))
    clear Z0b_7
    have Z1a_8 := hide (Z1a_7.out.trans (hb.mono Z1a_7.out.size))
    clear Z1a_7
    have Z1b_8 := hide (Z1b_7.out.trans (hb.mono Z1b_7.out.size))
    clear Z1b_7
    have Z2a_8 := hide (Z2a_7.out.trans (hb.mono Z2a_7.out.size))
    clear Z2a_7
    obtain ⟨A2b, c2b, hv, hsl⟩ := Fo_sl hown (by omega)
    subst hv
    have S2b := hide hsl
    have Z2b_8 := hide (Below.refl w8.heap.size w8)
    clear hsl hown hb HC g0 g1 g2 g3
    have hc := same_any A0a A0b r0.2.length c0a r0.2.length c0b r0.2 r0.2 w8 ((S0a.out.below Z0a_8.out).more Z0a_8.out.size) ((S0b.out.below Z0b_8.out).more Z0b_8.out.size)
    rw [decide_eq_true rfl] at hc
    have HC := hide hc
    clear hc
    go_wp2_with fail
    refine HC.out.mono ?_
    rintro e w9 ⟨rfl, hb⟩
    have B9 := hide (B8.out.trans (hb.mono (by have := B8.out.size; simpa using this)))
    have Z0a_9 := hide (Z0a_8.out.trans (hb.mono Z0a_8.out.size))
    clear Z0a_8
    have Z0b_9 := hide (Z0b_8.out.trans (hb.mono Z0b_8.out.size))
    clear Z0b_8
    have Z1a_9 := hide (Z1a_8.out.trans (hb.mono Z1a_8.out.size))
    clear Z1a_8
    have Z1b_9 := hide (Z1b_8.out.trans (hb.mono Z1b_8.out.size))
    clear Z1b_8
    have Z2a_9 := hide (Z2a_8.out.trans (hb.mono Z2a_8.out.size))
    clear Z2a_8
    have Z2b_9 := hide (Z2b_8.out.trans (hb.mono Z2b_8.out.size))
    clear Z2b_8
    clear hb HC
    have hc := same_any A1a A1b r1.2.length c1a r1.2.length c1b r1.2 r1.2 w9 ((S1a.out.below Z1a_9.out).more Z1a_9.out.size) ((S1b.out.below Z1b_9.out).more Z1b_9.out.size)
    rw [decide_eq_true rfl] at hc
    have HC := hide hc
    clear hc
    go_wp2_with fail
    refine HC.out.mono ?_
    rintro e w10 ⟨rfl, hb⟩
    have B10 := hide (B9.out.trans (hb.mono (by have := B9.out.size; simpa using this)))
    have Z0a_10 := hide (Z0a_9.out.trans (hb.mono Z0a_9.out.size))
    clear Z0a_9
    have Z0b_10 := hide (Z0b_9.out.trans (hb.mono Z0b_9.out.size))
    clear Z0b_9
    have Z1a_10 := hide (Z1a_9.out.trans (hb.mono Z1a_9.out.size))
    clear Z1a_9
    have Z1b_10 := hide (Z1b_9.out.trans (hb.mono Z1b_9.out.size))
    clear Z1b_9
    have Z2a_10 := hide (Z2a_9.out.trans (hb.mono Z2a_9.out.size))
    clear Z2a_9
    have Z2b_10 := hide (Z2b_9.out.trans (hb.mono Z2b_9.out.size))
    clear Z2b_9
    clear hb HC
    have hc := same_any A2a A2b r2.2.length c2a r2.2.length c2b r2.2 r2.2 w10 ((S2a.out.below Z2a_10.out).more Z2a_10.out.size) ((S2b.out.below Z2b_10.out).more Z2b_10.out.size)
    rw [decide_eq_true rfl] at hc
    have HC := hide hc
    clear hc
    go_wp2_with fail
    refine HC.out.mono ?_
    rintro e w11 ⟨rfl, hb⟩
    have B11 := hide (B10.out.trans (hb.mono (by have := B10.out.size; simpa using this)))
    have Z0a_11 := hide (Z0a_10.out.trans (hb.mono Z0a_10.out.size))
    clear Z0a_10
    have Z0b_11 := hide (Z0b_10.out.trans (hb.mono Z0b_10.out.size))
    clear Z0b_10
    have Z1a_11 := hide (Z1a_10.out.trans (hb.mono Z1a_10.out.size))
    clear Z1a_10
    have Z1b_11 := hide (Z1b_10.out.trans (hb.mono Z1b_10.out.size))
    clear Z1b_10
    have Z2a_11 := hide (Z2a_10.out.trans (hb.mono Z2a_10.out.size))
    clear Z2a_10
    have Z2b_11 := hide (Z2b_10.out.trans (hb.mono Z2b_10.out.size))
    clear Z2b_10
    clear hb HC
    go_wp2
    go_ret
    exact ⟨rfl, HBW.out.trans (B11.out.mono (by omega))⟩

set_option maxRecDepth 100000 in
set_option maxHeartbeats 2000000 in
theorem fundTransfers_any (A : Option Addr) (n c : Nat) (xs : List Fu) (o0 o1 o2 o3 : Int) (w : World) (hs : Fs w w.heap.size A n c xs) (_i0 : I64 o0) (_i1 : I64 o1) (_i2 : I64 o2) (_i3 : I64 o3) :
    Law 4 #[.slice A n c, .agg #[.int .i64 o0, .int .i64 o1, .int .i64 o2, .int .i64 o3]] w := by
  unfold Law
  obtain rfl := hs.len
  have hbw : Below w.heap.size w (w.alloc (.cells #[.int .i64 o0, .int .i64 o1, .int .i64 o2, .int .i64 o3] 33)) := (Below.refl _ _).alloc (Nat.le_refl _) _
  have hbx := Box.new w 33 #[.int .i64 o0, .int .i64 o1, .int .i64 o2, .int .i64 o3]
  have hsl : ∀ W, Below (w.heap.size + 1) (w.alloc (.cells #[.int .i64 o0, .int .i64 o1, .int .i64 o2, .int .i64 o3] 33)) W → Fs W W.heap.size A xs.length c xs ∧ (W.cell? ⟨w.heap.size, 0, none⟩ = some (.int .i64 o0) ∧ W.cell? ⟨w.heap.size, 1, none⟩ = some (.int .i64 o1) ∧ W.cell? ⟨w.heap.size, 2, none⟩ = some (.int .i64 o2) ∧ W.cell? ⟨w.heap.size, 3, none⟩ = some (.int .i64 o3)) := fun W hW =>
    have hB := hbx.below hW (by omega)
    ⟨(hs.below (hbw.trans (hW.mono (by omega)))).more (hbw.trans (hW.mono (by omega))).size, hB.cell 0, hB.cell 1, hB.cell 2, hB.cell 3⟩
  have HSL := hide hsl
  have B0 := hide (Below.refl (w.heap.size + 1) (w.alloc (.cells #[.int .i64 o0, .int .i64 o1, .int .i64 o2, .int .i64 o3] 33)))
  have HBW := hide hbw
  clear hs hbw hbx hsl
  go_enter Try.func4, Try.ntmps4
  go_wp2_with fail
  refine (alive_any _).mono ?_
  rintro e w1 ⟨rfl, hb⟩
  have B1 := hide (B0.out.trans (hb.mono (by simp)))
  clear hb
  have hv := valid_any A xs.length c xs w1 (HSL.out _ B1.out).1
  generalize hq : (rightR xs == 0) = q at hv
  have HV := hide hv
  have HQ := hide hq
  clear hv hq
  cases q with
  | false =>
    go_wp2_with fail
    refine HV.out.mono ?_
    rintro e w2 ⟨rfl, hb⟩
    have B2 := hide (B1.out.trans (hb.mono (by have := B1.out.size; simpa using this)))
    clear hb
    go_wp2
    go_ret
    exact ⟨rfl, HBW.out.trans (B2.out.mono (by omega))⟩
  | true =>
    have hvl : Vld xs := vld_of (by simpa using HQ.out)
    have HVL := hide hvl
    have hl32 : xs.length ≤ 32 := hvl.len
    clear hvl HQ
    go_wp2_with fail
    refine HV.out.mono ?_
    rintro e w2 ⟨rfl, hb⟩
    have B2 := hide (B1.out.trans (hb.mono (by have := B1.out.size; simpa using this)))
    clear hb HV
    have hres : ∃ r, r = chR (budF o3) xs o0 := ⟨_, rfl⟩
    obtain ⟨r0, hr0⟩ := hres
    have hrl : r0.2.length ≤ 32 := by rw [hr0]; exact Nat.le_trans chR_len hl32
    obtain ⟨g0, g1, g2, g3⟩ := (HSL.out _ B2.out).2
    have hc := pbud_any A xs.length c xs o0 o3 w2 (HSL.out _ B2.out).1 (by omega) HVL.out.M _i3
    rw [← hr0] at hc
    have HC := hide hc
    skip
    clear hc
    have HRX := hide hr0
    go_wp2_with fail
    refine HC.out.mono ?_
    rintro e w3 ⟨v, rfl, hown, hb⟩
    have B3 := hide (B2.out.trans (hb.mono (by have := B2.out.size; simpa using this)))
    obtain ⟨A0a, c0a, hv, hsl⟩ := Fo_sl hown (by omega)
    subst hv
    have S0a := hide hsl
    have Z0a_3 := hide (Below.refl w3.heap.size w3)
    clear hsl hown hb HC g0 g1 g2 g3
    obtain ⟨g0, g1, g2, g3⟩ := (HSL.out _ B3.out).2
    have hc := rbud_any A xs.length c xs o0 o3 w3 (HSL.out _ B3.out).1 (by omega) HVL.out.M
    rw [← hr0] at hc
    have HC := hide hc
    have HRR := hide hr0
    clear hc hr0
    skip
    go_wp2_with fail
    refine HC.out.mono ?_
    rintro e w4 ⟨v, rfl, hown, hb⟩
    have B4 := hide (B3.out.trans (hb.mono (by have := B3.out.size; simpa using this)))
    have Z0a_4 := hide (Z0a_3.out.trans (hb.mono Z0a_3.out.size))
    clear Z0a_3
    obtain ⟨A0b, c0b, hv, hsl⟩ := Fo_sl hown (by omega)
    subst hv
    have S0b := hide hsl
    have Z0b_4 := hide (Below.refl w4.heap.size w4)
    clear hsl hown hb HC g0 g1 g2 g3
    have hres : ∃ r, r = trR xs o0 o1 o3 := ⟨_, rfl⟩
    obtain ⟨r1, hr1⟩ := hres
    have hrl : r1.2.length ≤ 32 := by rw [hr1]; exact Nat.le_trans trR_len hl32
    obtain ⟨g0, g1, g2, g3⟩ := (HSL.out _ B4.out).2
    have hc := ptr_any A xs.length c xs o0 o1 o3 w4 (HSL.out _ B4.out).1 (by omega) HVL.out.M _i3
    rw [← hr1] at hc
    have HC := hide hc
    skip
    clear hc
    have HRX := hide hr1
    go_wp2_with fail
    refine HC.out.mono ?_
    rintro e w5 ⟨v, rfl, hown, hb⟩
    have B5 := hide (B4.out.trans (hb.mono (by have := B4.out.size; simpa using this)))
    have Z0a_5 := hide (Z0a_4.out.trans (hb.mono Z0a_4.out.size))
    clear Z0a_4
    have Z0b_5 := hide (Z0b_4.out.trans (hb.mono Z0b_4.out.size))
    clear Z0b_4
    obtain ⟨A1a, c1a, hv, hsl⟩ := Fo_sl hown (by omega)
    subst hv
    have S1a := hide hsl
    have Z1a_5 := hide (Below.refl w5.heap.size w5)
    clear hsl hown hb HC g0 g1 g2 g3
    obtain ⟨g0, g1, g2, g3⟩ := (HSL.out _ B5.out).2
    have hc := rtr_any A xs.length c xs o0 o1 o3 w5 (HSL.out _ B5.out).1 (by omega) HVL.out.M _i3
    rw [← hr1] at hc
    have HC := hide hc
    have HRR := hide hr1
    clear hc hr1
    skip
    go_wp2_with fail
    refine HC.out.mono ?_
    rintro e w6 ⟨v, rfl, hown, hb⟩
    have B6 := hide (B5.out.trans (hb.mono (by have := B5.out.size; simpa using this)))
    have Z0a_6 := hide (Z0a_5.out.trans (hb.mono Z0a_5.out.size))
    clear Z0a_5
    have Z0b_6 := hide (Z0b_5.out.trans (hb.mono Z0b_5.out.size))
    clear Z0b_5
    have Z1a_6 := hide (Z1a_5.out.trans (hb.mono Z1a_5.out.size))
    clear Z1a_5
    obtain ⟨A1b, c1b, hv, hsl⟩ := Fo_sl hown (by omega)
    subst hv
    have S1b := hide hsl
    have Z1b_6 := hide (Below.refl w6.heap.size w6)
    clear hsl hown hb HC g0 g1 g2 g3
    have hc := same_any A0a A0b r0.2.length c0a r0.2.length c0b r0.2 r0.2 w6 ((S0a.out.below Z0a_6.out).more Z0a_6.out.size) ((S0b.out.below Z0b_6.out).more Z0b_6.out.size)
    rw [decide_eq_true rfl] at hc
    have HC := hide hc
    clear hc
    go_wp2_with fail
    refine HC.out.mono ?_
    rintro e w7 ⟨rfl, hb⟩
    have B7 := hide (B6.out.trans (hb.mono (by have := B6.out.size; simpa using this)))
    have Z0a_7 := hide (Z0a_6.out.trans (hb.mono Z0a_6.out.size))
    clear Z0a_6
    have Z0b_7 := hide (Z0b_6.out.trans (hb.mono Z0b_6.out.size))
    clear Z0b_6
    have Z1a_7 := hide (Z1a_6.out.trans (hb.mono Z1a_6.out.size))
    clear Z1a_6
    have Z1b_7 := hide (Z1b_6.out.trans (hb.mono Z1b_6.out.size))
    clear Z1b_6
    clear hb HC
    have hc := same_any A1a A1b r1.2.length c1a r1.2.length c1b r1.2 r1.2 w7 ((S1a.out.below Z1a_7.out).more Z1a_7.out.size) ((S1b.out.below Z1b_7.out).more Z1b_7.out.size)
    rw [decide_eq_true rfl] at hc
    have HC := hide hc
    clear hc
    go_wp2_with fail
    refine HC.out.mono ?_
    rintro e w8 ⟨rfl, hb⟩
    have B8 := hide (B7.out.trans (hb.mono (by have := B7.out.size; simpa using this)))
    have Z0a_8 := hide (Z0a_7.out.trans (hb.mono Z0a_7.out.size))
    clear Z0a_7
    have Z0b_8 := hide (Z0b_7.out.trans (hb.mono Z0b_7.out.size))
    clear Z0b_7
    have Z1a_8 := hide (Z1a_7.out.trans (hb.mono Z1a_7.out.size))
    clear Z1a_7
    have Z1b_8 := hide (Z1b_7.out.trans (hb.mono Z1b_7.out.size))
    clear Z1b_7
    clear hb HC
    go_wp2
    go_ret
    exact ⟨rfl, HBW.out.trans (B8.out.mono (by omega))⟩
end Go.Proofs.Ytbcapljiangjcaa
