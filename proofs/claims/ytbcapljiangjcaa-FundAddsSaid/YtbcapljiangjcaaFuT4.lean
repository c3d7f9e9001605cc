/- Walks: the law FundAdds. Printed by gen_fu_add.py. -/
import Derived.Test.YtbcapljiangjcaaFuAr
namespace Go.Proofs.Ytbcapljiangjcaa
open Go.RowKit

set_option maxRecDepth 100000 in
set_option maxHeartbeats 2000000 in
theorem fundAdds_any (A : Option Addr) (n c : Nat) (xs : List Fu) (y : Fu) (w : World) (hs : Fs w w.heap.size A n c xs) :
    Law 10 #[.slice A n c, fuV y] w := by
  unfold Law
  obtain rfl := hs.len
  have hsl : ∀ W, Below w.heap.size w W → Fs W W.heap.size A xs.length c xs := fun W hW => (hs.below hW).more hW.size
  obtain ⟨y0, y1, y2, y3, y4⟩ := y
  have B0 := hide ((Below.refl w.heap.size w).alloc (Nat.le_refl _) (.cells #[.int .i64 y0, .int .i64 y1, .int .i64 y2, .int .i64 y3, .int .i64 y4] 26))
  have Z0 := hide (Below.refl (w.heap.size + 1) (w.alloc (.cells #[.int .i64 y0, .int .i64 y1, .int .i64 y2, .int .i64 y3, .int .i64 y4] 26)))
  have HZ : Hid (∀ W, Below (w.heap.size + 1) (w.alloc (.cells #[.int .i64 y0, .int .i64 y1, .int .i64 y2, .int .i64 y3, .int .i64 y4] 26)) W → Box W w.heap.size 26 (fuC ⟨y0, y1, y2, y3, y4⟩)) := hide (fun W hW => (Box.new w 26 (fuC ⟨y0, y1, y2, y3, y4⟩)).below hW (by omega))
  have HV := hide (fun W hW => valid_any A xs.length c xs W (hsl W hW))
  by_cases hv : rightR xs = 0
  · have hV := vld_of hv
    have hl32 := hV.len
    have hvb : (rightR xs == 0) = true := by simpa using hv
    rw [hvb] at HV
    have h1 := fun W hW => padd_any A xs.length c xs ⟨y0, y1, y2, y3, y4⟩ W (hsl W hW) (by omega)
    have h2 := fun W hW => radd_any A xs.length c xs ⟨y0, y1, y2, y3, y4⟩ W (hsl W hW) (by omega)
    generalize adnF xs ⟨y0, y1, y2, y3, y4⟩ = r at h1 h2
    obtain ⟨r1, r2⟩ := r
    unfold fuV at h1 h2 ⊢
    simp only at h1 h2
    have H1 := hide h1
    have H2 := hide h2
    clear h1 h2 hsl hs hvb hv hV
    go_enter Try.func10, Try.ntmps10
    go_wp2_with fail
    refine (alive_any _).mono ?_
    rintro e w1 ⟨rfl, hb⟩
    have B1 := hide (B0.out.trans (hb.mono (Nat.le_trans (by simp) B0.out.size)))
    have Z1 := hide (Z0.out.trans (hb.mono (Nat.le_trans (by simp) Z0.out.size)))
    clear hb 
    go_wp2_with fail
    refine (HV.out _ B1.out).mono ?_
    rintro e w2 ⟨rfl, hb⟩
    have B2 := hide (B1.out.trans (hb.mono (Nat.le_trans (by simp) B1.out.size)))
    have Z2 := hide (Z1.out.trans (hb.mono (Nat.le_trans (by simp) Z1.out.size)))
    clear hb B1 Z1
    clear HV
    have hbx := HZ.out _ Z2.out
    have q0 := hbx.cell 0
    have q1 := hbx.cell 1
    have q2 := hbx.cell 2
    have q3 := hbx.cell 3
    have q4 := hbx.cell 4
    (try simp only at q0 q1 q2 q3 q4)
    go_wp2_with fail
    refine (H1.out _ B2.out).mono ?_
    rintro e w3 ⟨A1, n1, c1, rfl, hsl1, hb⟩
    have B3 := hide (B2.out.trans (hb.mono (Nat.le_trans (by simp) B2.out.size)))
    have Z3 := hide (Z2.out.trans (hb.mono (Nat.le_trans (by simp) Z2.out.size)))
    clear hb B2 Z2
    have S1 := hide hsl1
    clear hsl1 H1 hbx q0 q1 q2 q3 q4
    have K13 := hide (Below.refl w3.heap.size w3)
    have hbx := HZ.out _ Z3.out
    have q0 := hbx.cell 0
    have q1 := hbx.cell 1
    have q2 := hbx.cell 2
    have q3 := hbx.cell 3
    have q4 := hbx.cell 4
    (try simp only at q0 q1 q2 q3 q4)
    go_wp2_with fail
    refine (H2.out _ B3.out).mono ?_
    rintro e w4 ⟨A2, n2, c2, rfl, hsl2, hb⟩
    have B4 := hide (B3.out.trans (hb.mono (Nat.le_trans (by simp) B3.out.size)))
    have Z4 := hide (Z3.out.trans (hb.mono (Nat.le_trans (by simp) Z3.out.size)))
    have K14 := hide (K13.out.trans (hb.mono (Nat.le_trans (by simp) K13.out.size)))
    clear hb B3 Z3 K13
    have S2 := hide hsl2
    clear hsl2 H2 hbx q0 q1 q2 q3 q4
    have K24 := hide (Below.refl w4.heap.size w4)
    have hq := same_any _ _ _ _ _ _ _ _ _ ((S1.out.below K14.out).more K14.out.size) ((S2.out.below K24.out).more K24.out.size)
    rw [decide_eq_true rfl] at hq
    have HQ := hide hq
    clear hq
    go_wp2_with fail
    refine (HQ.out).mono ?_
    rintro e w5 ⟨rfl, hb⟩
    have B5 := hide (B4.out.trans (hb.mono (Nat.le_trans (by simp) B4.out.size)))
    have Z5 := hide (Z4.out.trans (hb.mono (Nat.le_trans (by simp) Z4.out.size)))
    have K15 := hide (K14.out.trans (hb.mono (Nat.le_trans (by simp) K14.out.size)))
    have K25 := hide (K24.out.trans (hb.mono (Nat.le_trans (by simp) K24.out.size)))
    clear hb B4 Z4 K14 K24
    go_wp2
    go_ret
    exact ⟨rfl, B5.out⟩
  · have hvb : (rightR xs == 0) = false := by simpa using hv
    rw [hvb] at HV
    clear hsl hs hvb hv
    unfold fuV
    go_enter Try.func10, Try.ntmps10
    go_wp2_with fail
    refine (alive_any _).mono ?_
    rintro e w1 ⟨rfl, hb⟩
    have B1 := hide (B0.out.trans (hb.mono (Nat.le_trans (by simp) B0.out.size)))
    have Z1 := hide (Z0.out.trans (hb.mono (Nat.le_trans (by simp) Z0.out.size)))
    clear hb 
    go_wp2_with fail
    refine (HV.out _ B1.out).mono ?_
    rintro e w2 ⟨rfl, hb⟩
    have B2 := hide (B1.out.trans (hb.mono (Nat.le_trans (by simp) B1.out.size)))
    have Z2 := hide (Z1.out.trans (hb.mono (Nat.le_trans (by simp) Z1.out.size)))
    clear hb B1 Z1
    go_wp2
    go_ret
    exact ⟨rfl, B2.out⟩
end Go.Proofs.Ytbcapljiangjcaa
