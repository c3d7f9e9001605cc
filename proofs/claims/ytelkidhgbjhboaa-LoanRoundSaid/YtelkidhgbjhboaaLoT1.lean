/- Walks: the laws LoanRight, LoanOut, LoanRenews, LoanRecalls. Printed by gen_lo_laws.py. -/
import Derived.Test.YtelkidhgbjhboaaLoAl
import Derived.Test.YtelkidhgbjhboaaLoLaw
namespace Go.Proofs.Ytelkidhgbjhboaa
open Go.RowKit

abbrev Law (f : Nat) (args : Array Value) (w : World) : Prop := Calls Try.prog f args w fun e w' => e = .returned (.bool true) ∧ Below w.heap.size w w'

set_option maxRecDepth 100000 in
set_option maxHeartbeats 2000000 in
theorem loanRight_any (A : Option Addr) (n c : Nat) (xs : List Lo) (w : World) (hs : Los w w.heap.size A n c xs) :
    Law 3 #[.slice A n c] w := by
  unfold Law
  obtain rfl := hs.len
  have hbig := hs.big
  have hle := hs.le
  have hsl : ∀ W, Below w.heap.size w W → Los W W.heap.size A xs.length c xs := fun W hW => (hs.below hW).more hW.size
  have B0 := hide (Below.refl w.heap.size w)
  have h1 := fun W hW => lright_any A xs.length c xs W (hsl W hW)
  have h2 := fun W hW => rright_any A xs.length c xs W (hsl W hW)
  generalize rightL xs = r at h1 h2
  have H1 := hide h1
  have H2 := hide h2
  clear h1 h2 hsl hs
  go_enter Try.func3, Try.ntmps3
  go_wp2_with fail
  refine (lalive_any _).mono ?_
  rintro e w1 ⟨rfl, hb⟩
  have B1 := hide (B0.out.trans (hb.mono (Nat.le_trans (by simp) B0.out.size)))
  clear hb 
  go_wp2_with fail
  refine (H1.out _ B1.out).mono ?_
  rintro e w2 ⟨rfl, hb⟩
  have B2 := hide (B1.out.trans (hb.mono (Nat.le_trans (by simp) B1.out.size)))
  clear hb B1
  go_wp2_with fail
  refine (H2.out _ B2.out).mono ?_
  rintro e w3 ⟨rfl, hb⟩
  have B3 := hide (B2.out.trans (hb.mono (Nat.le_trans (by simp) B2.out.size)))
  clear hb B2
  go_wp2
  go_ret
  exact ⟨rfl, B3.out⟩

set_option maxRecDepth 100000 in
set_option maxHeartbeats 2000000 in
theorem loanOut_any (A : Option Addr) (n c : Nat) (xs : List Lo) (y : Lo) (w : World) (hs : Los w w.heap.size A n c xs) :
    Law 4 #[.slice A n c, loV y] w := by
  unfold Law
  obtain rfl := hs.len
  have hbig := hs.big
  have hle := hs.le
  have hsl : ∀ W, Below w.heap.size w W → Los W W.heap.size A xs.length c xs := fun W hW => (hs.below hW).more hW.size
  obtain ⟨y0, y1, y2, y3, y4, y5⟩ := y
  have B0 := hide ((Below.refl w.heap.size w).alloc (Nat.le_refl _) (.cells #[.int .i64 y0, .int .i64 y1, .int .i64 y2, .int .i64 y3, .int .i64 y4, .bool y5] 28))
  have Z0 := hide (Below.refl (w.heap.size + 1) (w.alloc (.cells #[.int .i64 y0, .int .i64 y1, .int .i64 y2, .int .i64 y3, .int .i64 y4, .bool y5] 28)))
  have HZ : Hid (∀ W, Below (w.heap.size + 1) (w.alloc (.cells #[.int .i64 y0, .int .i64 y1, .int .i64 y2, .int .i64 y3, .int .i64 y4, .bool y5] 28)) W → Box W w.heap.size 28 (loC ⟨y0, y1, y2, y3, y4, y5⟩)) := hide (fun W hW => (Box.new w 28 (loC ⟨y0, y1, y2, y3, y4, y5⟩)).below hW (by omega))
  by_cases hv : rightL xs = 0
  · have hV := VldL.of hv
    have hl64 := hV.len
    have HV := hide (fun W hW => lvalid_any A xs.length c xs W (hsl W hW))
    have hvb : (rightL xs == 0) = true := by simpa using hv
    rw [hvb] at HV
    have h1 := fun W hW => lout_any A xs.length c xs ⟨y0, y1, y2, y3, y4, y5⟩ W (hsl W hW) (by omega)
    have h2 := fun W hW => rout_any A xs.length c xs ⟨y0, y1, y2, y3, y4, y5⟩ W (hsl W hW) (by omega)
    generalize outL xs ⟨y0, y1, y2, y3, y4, y5⟩ = r at h1 h2
    obtain ⟨r1, r2⟩ := r
    unfold loV at h1 h2
    simp only at h1 h2
    have H1 := hide h1
    have H2 := hide h2
    clear h1 h2
    clear hsl hs hvb hv hV
    unfold loV
    go_enter Try.func4, Try.ntmps4
    go_wp2_with fail
    refine (lalive_any _).mono ?_
    rintro e w1 ⟨rfl, hb⟩
    have B1 := hide (B0.out.trans (hb.mono (Nat.le_trans (by simp) B0.out.size)))
    have Z1 := hide (Z0.out.trans (hb.mono (Nat.le_trans (by simp) Z0.out.size)))
    clear hb 
    go_wp2_with fail
    refine (HV.out _ B1.out).mono ?_
    rintro e w2 ⟨rfl, hb⟩
    have B2 := hide (B1.out.trans (hb.mono (Nat.le_trans (by simp) B1.out.size)))
    have Z2 := hide (Z1.out.trans (hb.mono (Nat.le_trans (by simp) Z1.out.size)))
    clear hb B1 Z1
    clear HV
    have hbx := HZ.out _ Z2.out
    have q0 := hbx.cell 0
    have q1 := hbx.cell 1
    have q2 := hbx.cell 2
    have q3 := hbx.cell 3
    have q4 := hbx.cell 4
    have q5 := hbx.cell 5
    (try simp only at q0 q1 q2 q3 q4 q5)
    go_wp2_with fail
    refine (H1.out _ B2.out).mono ?_
    rintro e w3 ⟨A1, n1, c1, rfl, hsl1, hb⟩
    have B3 := hide (B2.out.trans (hb.mono (Nat.le_trans (by simp) B2.out.size)))
    have Z3 := hide (Z2.out.trans (hb.mono (Nat.le_trans (by simp) Z2.out.size)))
    clear hb B2 Z2
    have S1 := hide hsl1
    clear hsl1 H1
    have K13 := hide (Below.refl w3.heap.size w3)
    clear hbx q0 q1 q2 q3 q4 q5
    have hbx := HZ.out _ Z3.out
    have q0 := hbx.cell 0
    have q1 := hbx.cell 1
    have q2 := hbx.cell 2
    have q3 := hbx.cell 3
    have q4 := hbx.cell 4
    have q5 := hbx.cell 5
    (try simp only at q0 q1 q2 q3 q4 q5)
    go_wp2_with fail
    refine (H2.out _ B3.out).mono ?_
    rintro e w4 ⟨A2, n2, c2, rfl, hsl2, hb⟩
    have B4 := hide (B3.out.trans (hb.mono (Nat.le_trans (by simp) B3.out.size)))
    have Z4 := hide (Z3.out.trans (hb.mono (Nat.le_trans (by simp) Z3.out.size)))
    have K14 := hide (K13.out.trans (hb.mono (Nat.le_trans (by simp) K13.out.size)))
    clear hb B3 Z3 K13
    have S2 := hide hsl2
    clear hsl2 H2
    have K24 := hide (Below.refl w4.heap.size w4)
    clear hbx q0 q1 q2 q3 q4 q5
    have hq := lo_same _ _ _ _ _ _ _ _ _ ((S1.out.below K14.out).more K14.out.size) ((S2.out.below K24.out).more K24.out.size)
    rw [decide_eq_true rfl] at hq
    have HQ := hide hq
    clear hq
    go_wp2_with fail
    refine (HQ.out).mono ?_
    rintro e w5 ⟨rfl, hb⟩
    have B5 := hide (B4.out.trans (hb.mono (Nat.le_trans (by simp) B4.out.size)))
    have Z5 := hide (Z4.out.trans (hb.mono (Nat.le_trans (by simp) Z4.out.size)))
    have K15 := hide (K14.out.trans (hb.mono (Nat.le_trans (by simp) K14.out.size)))
    have K25 := hide (K24.out.trans (hb.mono (Nat.le_trans (by simp) K24.out.size)))
    clear hb B4 Z4 K14 K24
    go_wp2
    go_ret
    exact ⟨rfl, B5.out⟩
  · have HV := hide (fun W hW => lvalid_any A xs.length c xs W (hsl W hW))
    have hvb : (rightL xs == 0) = false := by simpa using hv
    rw [hvb] at HV
    clear hsl hs hvb hv
    unfold loV
    go_enter Try.func4, Try.ntmps4
    go_wp2_with fail
    refine (lalive_any _).mono ?_
    rintro e w1 ⟨rfl, hb⟩
    have B1 := hide (B0.out.trans (hb.mono (Nat.le_trans (by simp) B0.out.size)))
    have Z1 := hide (Z0.out.trans (hb.mono (Nat.le_trans (by simp) Z0.out.size)))
    clear hb 
    go_wp2_with fail
    refine (HV.out _ B1.out).mono ?_
    rintro e w2 ⟨rfl, hb⟩
    have B2 := hide (B1.out.trans (hb.mono (Nat.le_trans (by simp) B1.out.size)))
    have Z2 := hide (Z1.out.trans (hb.mono (Nat.le_trans (by simp) Z1.out.size)))
    clear hb B1 Z1
    go_wp2
    go_ret
    exact ⟨rfl, B2.out⟩

set_option maxRecDepth 100000 in
set_option maxHeartbeats 2000000 in
theorem loanRenews_any (A : Option Addr) (n c : Nat) (xs : List Lo) (item due : Int) (w : World) (hs : Los w w.heap.size A n c xs) :
    Law 5 #[.slice A n c, .int .i64 item, .int .i64 due] w := by
  unfold Law
  obtain rfl := hs.len
  have hbig := hs.big
  have hle := hs.le
  have hsl : ∀ W, Below w.heap.size w W → Los W W.heap.size A xs.length c xs := fun W hW => (hs.below hW).more hW.size
  have B0 := hide (Below.refl w.heap.size w)
  by_cases hv : rightL xs = 0
  · have hV := VldL.of hv
    have hl64 := hV.len
    have HV := hide (fun W hW => lvalid_any A xs.length c xs W (hsl W hW))
    have hvb : (rightL xs == 0) = true := by simpa using hv
    rw [hvb] at HV
    have h1 := fun W hW => lrenew_any A xs.length c xs item due W (hsl W hW) (by omega) hV.M
    have h2 := fun W hW => rrenew_any A xs.length c xs item due W (hsl W hW) (by omega) hV.M
    generalize renewL xs item due = r at h1 h2
    obtain ⟨r1, r2⟩ := r
    have H1 := hide h1
    have H2 := hide h2
    clear h1 h2
    clear hsl hs hvb hv hV
    go_enter Try.func5, Try.ntmps5
    go_wp2_with fail
    refine (lalive_any _).mono ?_
    rintro e w1 ⟨rfl, hb⟩
    have B1 := hide (B0.out.trans (hb.mono (Nat.le_trans (by simp) B0.out.size)))
    clear hb 
    go_wp2_with fail
    refine (HV.out _ B1.out).mono ?_
    rintro e w2 ⟨rfl, hb⟩
    have B2 := hide (B1.out.trans (hb.mono (Nat.le_trans (by simp) B1.out.size)))
    clear hb B1
    clear HV
    go_wp2_with fail
    refine (H1.out _ B2.out).mono ?_
    rintro e w3 ⟨A1, n1, c1, rfl, hsl1, hb⟩
    have B3 := hide (B2.out.trans (hb.mono (Nat.le_trans (by simp) B2.out.size)))
    clear hb B2
    have S1 := hide hsl1
    clear hsl1 H1
    have K13 := hide (Below.refl w3.heap.size w3)
    go_wp2_with fail
    refine (H2.out _ B3.out).mono ?_
    rintro e w4 ⟨A2, n2, c2, rfl, hsl2, hb⟩
    have B4 := hide (B3.out.trans (hb.mono (Nat.le_trans (by simp) B3.out.size)))
    have K14 := hide (K13.out.trans (hb.mono (Nat.le_trans (by simp) K13.out.size)))
    clear hb B3 K13
    have S2 := hide hsl2
    clear hsl2 H2
    have K24 := hide (Below.refl w4.heap.size w4)
    have hq := lo_same _ _ _ _ _ _ _ _ _ ((S1.out.below K14.out).more K14.out.size) ((S2.out.below K24.out).more K24.out.size)
    rw [decide_eq_true rfl] at hq
    have HQ := hide hq
    clear hq
    go_wp2_with fail
    refine (HQ.out).mono ?_
    rintro e w5 ⟨rfl, hb⟩
    have B5 := hide (B4.out.trans (hb.mono (Nat.le_trans (by simp) B4.out.size)))
    have K15 := hide (K14.out.trans (hb.mono (Nat.le_trans (by simp) K14.out.size)))
    have K25 := hide (K24.out.trans (hb.mono (Nat.le_trans (by simp) K24.out.size)))
    clear hb B4 K14 K24
    go_wp2
    go_ret
    exact ⟨rfl, B5.out⟩
  · have HV := hide (fun W hW => lvalid_any A xs.length c xs W (hsl W hW))
    have hvb : (rightL xs == 0) = false := by simpa using hv
    rw [hvb] at HV
    clear hsl hs hvb hv
    go_enter Try.func5, Try.ntmps5
    go_wp2_with fail
    refine (lalive_any _).mono ?_
    rintro e w1 ⟨rfl, hb⟩
    have B1 := hide (B0.out.trans (hb.mono (Nat.le_trans (by simp) B0.out.size)))
    clear hb 
    go_wp2_with fail
    refine (HV.out _ B1.out).mono ?_
    rintro e w2 ⟨rfl, hb⟩
    have B2 := hide (B1.out.trans (hb.mono (Nat.le_trans (by simp) B1.out.size)))
    clear hb B1
    go_wp2
    go_ret
    exact ⟨rfl, B2.out⟩

set_option maxRecDepth 100000 in
set_option maxHeartbeats 2000000 in
theorem loanRecalls_any (A : Option Addr) (n c : Nat) (xs : List Lo) (item due : Int) (w : World) (hs : Los w w.heap.size A n c xs) :
    Law 6 #[.slice A n c, .int .i64 item, .int .i64 due] w := by
  unfold Law
  obtain rfl := hs.len
  have hbig := hs.big
  have hle := hs.le
  have hsl : ∀ W, Below w.heap.size w W → Los W W.heap.size A xs.length c xs := fun W hW => (hs.below hW).more hW.size
  have B0 := hide (Below.refl w.heap.size w)
  by_cases hv : rightL xs = 0
  · have hV := VldL.of hv
    have hl64 := hV.len
    have HV := hide (fun W hW => lvalid_any A xs.length c xs W (hsl W hW))
    have hvb : (rightL xs == 0) = true := by simpa using hv
    rw [hvb] at HV
    have h1 := fun W hW => lrecall_any A xs.length c xs item due W (hsl W hW) (by omega)
    have h2 := fun W hW => rrecall_any A xs.length c xs item due W (hsl W hW) (by omega)
    generalize recallL xs item due = r at h1 h2
    obtain ⟨r1, r2⟩ := r
    have H1 := hide h1
    have H2 := hide h2
    clear h1 h2
    clear hsl hs hvb hv hV
    go_enter Try.func6, Try.ntmps6
    go_wp2_with fail
    refine (lalive_any _).mono ?_
    rintro e w1 ⟨rfl, hb⟩
    have B1 := hide (B0.out.trans (hb.mono (Nat.le_trans (by simp) B0.out.size)))
    clear hb 
    go_wp2_with fail
    refine (HV.out _ B1.out).mono ?_
    rintro e w2 ⟨rfl, hb⟩
    have B2 := hide (B1.out.trans (hb.mono (Nat.le_trans (by simp) B1.out.size)))
    clear hb B1
    clear HV
    go_wp2_with fail
    refine (H1.out _ B2.out).mono ?_
    rintro e w3 ⟨A1, n1, c1, rfl, hsl1, hb⟩
    have B3 := hide (B2.out.trans (hb.mono (Nat.le_trans (by simp) B2.out.size)))
    clear hb B2
    have S1 := hide hsl1
    clear hsl1 H1
    have K13 := hide (Below.refl w3.heap.size w3)
    go_wp2_with fail
    refine (H2.out _ B3.out).mono ?_
    rintro e w4 ⟨A2, n2, c2, rfl, hsl2, hb⟩
    have B4 := hide (B3.out.trans (hb.mono (Nat.le_trans (by simp) B3.out.size)))
    have K14 := hide (K13.out.trans (hb.mono (Nat.le_trans (by simp) K13.out.size)))
    clear hb B3 K13
    have S2 := hide hsl2
    clear hsl2 H2
    have K24 := hide (Below.refl w4.heap.size w4)
    have hq := lo_same _ _ _ _ _ _ _ _ _ ((S1.out.below K14.out).more K14.out.size) ((S2.out.below K24.out).more K24.out.size)
    rw [decide_eq_true rfl] at hq
    have HQ := hide hq
    clear hq
    go_wp2_with fail
    refine (HQ.out).mono ?_
    rintro e w5 ⟨rfl, hb⟩
    have B5 := hide (B4.out.trans (hb.mono (Nat.le_trans (by simp) B4.out.size)))
    have K15 := hide (K14.out.trans (hb.mono (Nat.le_trans (by simp) K14.out.size)))
    have K25 := hide (K24.out.trans (hb.mono (Nat.le_trans (by simp) K24.out.size)))
    clear hb B4 K14 K24
    go_wp2
    go_ret
    exact ⟨rfl, B5.out⟩
  · have HV := hide (fun W hW => lvalid_any A xs.length c xs W (hsl W hW))
    have hvb : (rightL xs == 0) = false := by simpa using hv
    rw [hvb] at HV
    clear hsl hs hvb hv
    go_enter Try.func6, Try.ntmps6
    go_wp2_with fail
    refine (lalive_any _).mono ?_
    rintro e w1 ⟨rfl, hb⟩
    have B1 := hide (B0.out.trans (hb.mono (Nat.le_trans (by simp) B0.out.size)))
    clear hb 
    go_wp2_with fail
    refine (HV.out _ B1.out).mono ?_
    rintro e w2 ⟨rfl, hb⟩
    have B2 := hide (B1.out.trans (hb.mono (Nat.le_trans (by simp) B1.out.size)))
    clear hb B1
    go_wp2
    go_ret
    exact ⟨rfl, B2.out⟩
end Go.Proofs.Ytelkidhgbjhboaa
