/- Walks: the laws OrderChecks, OrderPlaces, OrderReceives, OrderBills. Printed by gen_od_laws.py. -/
import Derived.Test.YtdbanekjjibpbaaOdQ
import Derived.Test.YtdbanekjjibpbaaOdR
import Derived.Test.YtdbanekjjibpbaaOdL
import Derived.Test.YtdbanekjjibpbaaOdJ
namespace Go.Proofs.Ytdbanekjjibpbaa
open Go.RowKit

/-- The law returns true, and leaves the old memory as it was. -/
def LawO (f : FuncId) (args : Array Value) (w : World) : Prop := Calls Try.prog f args w fun e w' => e = .returned (.bool true) ∧ Below w.heap.size w w'
theorem validO_of {xs : List Od} (h : validO xs = true) : VldO xs ∧ xs.length ≤ 60 ∧ ∀ x ∈ xs, x.shn ≤ 8 := by
  unfold validO at h
  rw [Bool.and_eq_true, Bool.and_eq_true] at h
  exact ⟨VldO.of (by simpa using h.2), by simpa using h.1.2, fewO_8 h.1.1⟩

set_option maxRecDepth 100000 in
set_option maxHeartbeats 2000000 in
theorem orderChecks_any (A : Option Addr) (n c : Nat) (xs : List Od) (w : World) (hs : Ods w w.heap.size A n c xs) (hss : ∀ x ∈ xs, x.shn ≤ 8 → OdS w w.heap.size x) :
    LawO 6 #[.slice A n c] w := by
  unfold LawO
  obtain rfl := hs.len
  have hbig := hs.big
  have hsl : ∀ W, Below w.heap.size w W → Ods W W.heap.size A xs.length c xs := fun W hW => (hs.below hW).more hW.size
  have HF := hide (fun W (hW : Below w.heap.size w W) => few_any A _ c xs W _ (hsl W hW))
  cases hf : fewO xs with
  | false =>
    rw [hf] at HF
    clear hf hs hss hsl
    go_enter Try.func6, Try.ntmps6
    go_wp2_with fail
    refine (oalive_any _).mono ?_
    rintro e w1 ⟨rfl, hb⟩
    have B1 := hide hb
    clear hb
    go_wp2_with fail
    refine (HF.out _ B1.out).mono ?_
    rintro e w_ ⟨rfl, rfl⟩
    go_wp2
    go_ret
    exact ⟨rfl, B1.out⟩
  | true =>
    rw [hf] at HF
    have h8 := fewO_8 hf
    have h1 := fun W (hW : Below w.heap.size w W) => oright_any A _ c xs W (hsl W hW) (fun x hx => ((hss x hx (h8 x hx)).below hW).more hW.size)
    have h2 := fun W (hW : Below w.heap.size w W) => r39right_any A _ c xs W (hsl W hW) (fun x hx => ((hss x hx (h8 x hx)).below hW).more hW.size)
    generalize rightO xs = r at h1 h2
    have H1 := hide h1
    have H2 := hide h2
    clear h1 h2 h8 hf hs hss hsl
    go_enter Try.func6, Try.ntmps6
    go_wp2_with fail
    refine (oalive_any _).mono ?_
    rintro e w1 ⟨rfl, hb⟩
    have B1 := hide hb
    clear hb
    go_wp2_with fail
    refine (HF.out _ B1.out).mono ?_
    rintro e w_ ⟨rfl, rfl⟩
    go_wp2_with fail
    refine (H1.out _ B1.out).mono ?_
    rintro e w2 ⟨rfl, hb⟩
    have B2 := hide (B1.out.trans (hb.mono B1.out.size))
    clear hb
    go_wp2_with fail
    refine (H2.out _ B2.out).mono ?_
    rintro e w3 ⟨rfl, hb⟩
    have B3 := hide (B2.out.trans (hb.mono B2.out.size))
    clear hb
    go_wp2
    go_ret
    exact ⟨rfl, B3.out⟩

set_option maxRecDepth 100000 in
set_option maxHeartbeats 2000000 in
theorem orderReceives_any (A : Option Addr) (n c : Nat) (xs : List Od) (id m : Int) (w : World) (hs : Ods w w.heap.size A n c xs) (hss : ∀ x ∈ xs, x.shn ≤ 8 → OdS w w.heap.size x) :
    LawO 3 #[.slice A n c, .int .i64 id, .int .i64 m] w := by
  unfold LawO
  obtain rfl := hs.len
  have hbig := hs.big
  have hle := hs.le
  have hsl : ∀ W, Below w.heap.size w W → Ods W W.heap.size A xs.length c xs := fun W hW => (hs.below hW).more hW.size
  have HV := hide (fun W (hW : Below w.heap.size w W) => valid_any A _ c xs W (hsl W hW) (fun x hx h8 => ((hss x hx h8).below hW).more hW.size))
  have B0 := hide (Below.refl w.heap.size w)
  cases hv : validO xs with
  | false =>
    rw [hv] at HV
    clear hv hs hss hsl
    go_enter Try.func3, Try.ntmps3
    go_wp2_with fail
    refine (oalive_any _).mono ?_
    rintro e w1 ⟨rfl, hb⟩
    have B1 := hide (B0.out.trans (hb.mono (Nat.le_trans (by simp) B0.out.size)))
    clear hb 
    go_wp2_with fail
    refine (HV.out _ B1.out).mono ?_
    rintro e w2 ⟨rfl, hb⟩
    have B2 := hide (B1.out.trans (hb.mono (Nat.le_trans (by simp) B1.out.size)))
    clear hb B1
    clear HV
    go_wp2
    go_ret
    exact ⟨rfl, B2.out⟩
  | true =>
    rw [hv] at HV
    obtain ⟨hV, h60, h8⟩ := validO_of hv
    have hSS := fun W (hW : Below w.heap.size w W) y hy => ((hss y hy (h8 y hy)).below hW).more hW.size
    have h10 := fun W (hW : Below w.heap.size w W) => oreceive_any A _ c xs id m W (hsl W hW) (by omega) hV.M
    have h20 := fun W (hW : Below w.heap.size w W) => rreceive_any A _ c xs id m W (hsl W hW) (by omega) hV.M hV.wi
    have hm0 : ∀ W, Below w.heap.size w W → ∀ z ∈ (receiveO xs id m).2, OdS W W.heap.size z := fun W hW z hz => by
      obtain ⟨y, hy, hsm⟩ := receiveO_mem z hz
      exact hsm.od (hSS W hW y hy)
    generalize receiveO xs id m = r0 at h10 h20 hm0
    have G0 := hide h10
    have R0 := hide h20
    have M0 := hide hm0
    have h11 := fun W (hW : Below w.heap.size w W) => ostop_any A _ c xs id W (hsl W hW) (by omega) hV.M
    have h21 := fun W (hW : Below w.heap.size w W) => rstop_any A _ c xs id W (hsl W hW) (by omega) hV.M hV.wi
    have hm1 : ∀ W, Below w.heap.size w W → ∀ z ∈ (stopO xs id).2, OdS W W.heap.size z := fun W hW z hz => by
      obtain ⟨y, hy, hsm⟩ := stopO_mem z hz
      exact hsm.od (hSS W hW y hy)
    generalize stopO xs id = r1 at h11 h21 hm1
    have G1 := hide h11
    have R1 := hide h21
    have M1 := hide hm1
    clear hv hs hss hsl hV h8 hSS h10 h20 hm0 h11 h21 hm1
    go_enter Try.func3, Try.ntmps3
    go_wp2_with fail
    refine (oalive_any _).mono ?_
    rintro e w1 ⟨rfl, hb⟩
    have B1 := hide (B0.out.trans (hb.mono (Nat.le_trans (by simp) B0.out.size)))
    clear hb 
    go_wp2_with fail
    refine (HV.out _ B1.out).mono ?_
    rintro e w2 ⟨rfl, hb⟩
    have B2 := hide (B1.out.trans (hb.mono (Nat.le_trans (by simp) B1.out.size)))
    clear hb B1
    clear HV
    go_wp2_with fail
    refine (G0.out _ B2.out).mono ?_
    rintro e w3 ⟨A1, n1, c1, rfl, hsl, hb⟩
    have B3 := hide (B2.out.trans (hb.mono (Nat.le_trans (by simp) B2.out.size)))
    clear hb B2
    have S1 := hide hsl
    clear hsl
    have K1_3 := hide (Below.refl w3.heap.size w3)
    go_wp2_with fail
    refine (R0.out _ B3.out).mono ?_
    rintro e w4 ⟨A2, n2, c2, rfl, hsl, hb⟩
    have B4 := hide (B3.out.trans (hb.mono (Nat.le_trans (by simp) B3.out.size)))
    have K1_4 := hide (K1_3.out.trans (hb.mono (Nat.le_trans (by simp) K1_3.out.size)))
    clear hb B3 K1_3
    have S2 := hide hsl
    clear hsl
    have K2_4 := hide (Below.refl w4.heap.size w4)
    go_wp2_with fail
    refine (same_any A1 A2 n1 c1 n2 c2 _ w4 ((S1.out.below K1_4.out).more K1_4.out.size) ((S2.out.below K2_4.out).more K2_4.out.size) (M0.out _ B4.out)).mono ?_
    rintro e w5 ⟨rfl, hb⟩
    have B5 := hide (B4.out.trans (hb.mono (Nat.le_trans (by simp) B4.out.size)))
    have K1_5 := hide (K1_4.out.trans (hb.mono (Nat.le_trans (by simp) K1_4.out.size)))
    have K2_5 := hide (K2_4.out.trans (hb.mono (Nat.le_trans (by simp) K2_4.out.size)))
    clear hb B4 K1_4 K2_4
    go_wp2_with fail
    refine (G1.out _ B5.out).mono ?_
    rintro e w6 ⟨A11, n11, c11, rfl, hsl, hb⟩
    have B6 := hide (B5.out.trans (hb.mono (Nat.le_trans (by simp) B5.out.size)))
    clear hb B5
    have S11 := hide hsl
    clear hsl
    have K11_6 := hide (Below.refl w6.heap.size w6)
    go_wp2_with fail
    refine (R1.out _ B6.out).mono ?_
    rintro e w7 ⟨A12, n12, c12, rfl, hsl, hb⟩
    have B7 := hide (B6.out.trans (hb.mono (Nat.le_trans (by simp) B6.out.size)))
    have K11_7 := hide (K11_6.out.trans (hb.mono (Nat.le_trans (by simp) K11_6.out.size)))
    clear hb B6 K11_6
    have S12 := hide hsl
    clear hsl
    have K12_7 := hide (Below.refl w7.heap.size w7)
    go_wp2_with fail
    refine (same_any A11 A12 n11 c11 n12 c12 _ w7 ((S11.out.below K11_7.out).more K11_7.out.size) ((S12.out.below K12_7.out).more K12_7.out.size) (M1.out _ B7.out)).mono ?_
    rintro e w8 ⟨rfl, hb⟩
    have B8 := hide (B7.out.trans (hb.mono (Nat.le_trans (by simp) B7.out.size)))
    have K11_8 := hide (K11_7.out.trans (hb.mono (Nat.le_trans (by simp) K11_7.out.size)))
    have K12_8 := hide (K12_7.out.trans (hb.mono (Nat.le_trans (by simp) K12_7.out.size)))
    clear hb B7 K11_7 K12_7
    go_wp2
    go_ret
    exact ⟨rfl, B8.out⟩

set_option maxRecDepth 100000 in
set_option maxHeartbeats 2000000 in
theorem orderBills_any (A : Option Addr) (n c : Nat) (xs : List Od) (q : Bl) (w : World) (hs : Ods w w.heap.size A n c xs) (hss : ∀ x ∈ xs, x.shn ≤ 8 → OdS w w.heap.size x) :
    LawO 4 #[.slice A n c, blV q] w := by
  unfold LawO
  obtain rfl := hs.len
  have hbig := hs.big
  have hle := hs.le
  have hsl : ∀ W, Below w.heap.size w W → Ods W W.heap.size A xs.length c xs := fun W hW => (hs.below hW).more hW.size
  have HV := hide (fun W (hW : Below w.heap.size w W) => valid_any A _ c xs W (hsl W hW) (fun x hx h8 => ((hss x hx h8).below hW).more hW.size))
  have B0 := hide ((Below.refl w.heap.size w).alloc (Nat.le_refl _) (.cells (blC q) 32))
  have Z0 := hide (Below.refl (w.heap.size + 1) (w.alloc (.cells (blC q) 32)))
  have HZ := hide (fun W (hW : Below (w.heap.size + 1) (w.alloc (.cells (blC q) 32)) W) => (Box.new w 32 (blC q)).below hW (by omega))
  cases hv : validO xs with
  | false =>
    rw [hv] at HV
    clear hv hs hss hsl
    unfold blV
    go_enter Try.func4, Try.ntmps4
    go_wp2_with fail
    refine (oalive_any _).mono ?_
    rintro e w1 ⟨rfl, hb⟩
    have B1 := hide (B0.out.trans (hb.mono (Nat.le_trans (by simp) B0.out.size)))
    have Z1 := hide (Z0.out.trans (hb.mono (Nat.le_trans (by simp) Z0.out.size)))
    clear hb 
    go_wp2_with fail
    refine (HV.out _ B1.out).mono ?_
    rintro e w2 ⟨rfl, hb⟩
    have B2 := hide (B1.out.trans (hb.mono (Nat.le_trans (by simp) B1.out.size)))
    have Z2 := hide (Z1.out.trans (hb.mono (Nat.le_trans (by simp) Z1.out.size)))
    clear hb B1 Z1
    clear HV
    go_wp2
    go_ret
    exact ⟨rfl, B2.out⟩
  | true =>
    rw [hv] at HV
    obtain ⟨hV, h60, h8⟩ := validO_of hv
    have hSS := fun W (hW : Below w.heap.size w W) y hy => ((hss y hy (h8 y hy)).below hW).more hW.size
    have h10 := fun W (hW : Below w.heap.size w W) => obill_any A _ c xs q W (hsl W hW) (by omega) hV.M
    have h20 := fun W (hW : Below w.heap.size w W) => rbill_any A _ c xs q W (hsl W hW) (by omega) hV.M hV.wi
    have hm0 : ∀ W, Below w.heap.size w W → ∀ z ∈ (billO xs q).2, OdS W W.heap.size z := fun W hW z hz => by
      obtain ⟨y, hy, hsm⟩ := billO_mem z hz
      exact hsm.od (hSS W hW y hy)
    generalize billO xs q = r0 at h10 h20 hm0
    have G0 := hide h10
    have R0 := hide h20
    have M0 := hide hm0
    unfold blV at G0 R0
    clear hv hs hss hsl hV h8 hSS h10 h20 hm0
    unfold blV
    go_enter Try.func4, Try.ntmps4
    go_wp2_with fail
    refine (oalive_any _).mono ?_
    rintro e w1 ⟨rfl, hb⟩
    have B1 := hide (B0.out.trans (hb.mono (Nat.le_trans (by simp) B0.out.size)))
    have Z1 := hide (Z0.out.trans (hb.mono (Nat.le_trans (by simp) Z0.out.size)))
    clear hb 
    go_wp2_with fail
    refine (HV.out _ B1.out).mono ?_
    rintro e w2 ⟨rfl, hb⟩
    have B2 := hide (B1.out.trans (hb.mono (Nat.le_trans (by simp) B1.out.size)))
    have Z2 := hide (Z1.out.trans (hb.mono (Nat.le_trans (by simp) Z1.out.size)))
    clear hb B1 Z1
    clear HV
    have hbx := HZ.out _ Z2.out
    have q0 := hbx.cell 0
    have q1 := hbx.cell 1
    have q2 := hbx.cell 2
    have q3 := hbx.cell 3
    have q4 := hbx.cell 4
    simp at q0 q1 q2 q3 q4
    clear hbx
    go_wp2_with fail
    refine (G0.out _ B2.out).mono ?_
    rintro e w3 ⟨A1, n1, c1, rfl, hsl, hb⟩
    have B3 := hide (B2.out.trans (hb.mono (Nat.le_trans (by simp) B2.out.size)))
    have Z3 := hide (Z2.out.trans (hb.mono (Nat.le_trans (by simp) Z2.out.size)))
    clear hb B2 Z2
    have S1 := hide hsl
    clear hsl
    have K1_3 := hide (Below.refl w3.heap.size w3)
    clear q0 q1 q2 q3 q4
    have hbx := HZ.out _ Z3.out
    have q0 := hbx.cell 0
    have q1 := hbx.cell 1
    have q2 := hbx.cell 2
    have q3 := hbx.cell 3
    have q4 := hbx.cell 4
    simp at q0 q1 q2 q3 q4
    clear hbx
    go_wp2_with fail
    refine (R0.out _ B3.out).mono ?_
    rintro e w4 ⟨A2, n2, c2, rfl, hsl, hb⟩
    have B4 := hide (B3.out.trans (hb.mono (Nat.le_trans (by simp) B3.out.size)))
    have Z4 := hide (Z3.out.trans (hb.mono (Nat.le_trans (by simp) Z3.out.size)))
    have K1_4 := hide (K1_3.out.trans (hb.mono (Nat.le_trans (by simp) K1_3.out.size)))
    clear hb B3 Z3 K1_3
    have S2 := hide hsl
    clear hsl
    have K2_4 := hide (Below.refl w4.heap.size w4)
    clear q0 q1 q2 q3 q4
    go_wp2_with fail
    refine (same_any A1 A2 n1 c1 n2 c2 _ w4 ((S1.out.below K1_4.out).more K1_4.out.size) ((S2.out.below K2_4.out).more K2_4.out.size) (M0.out _ B4.out)).mono ?_
    rintro e w5 ⟨rfl, hb⟩
    have B5 := hide (B4.out.trans (hb.mono (Nat.le_trans (by simp) B4.out.size)))
    have Z5 := hide (Z4.out.trans (hb.mono (Nat.le_trans (by simp) Z4.out.size)))
    have K1_5 := hide (K1_4.out.trans (hb.mono (Nat.le_trans (by simp) K1_4.out.size)))
    have K2_5 := hide (K2_4.out.trans (hb.mono (Nat.le_trans (by simp) K2_4.out.size)))
    clear hb B4 Z4 K1_4 K2_4
    go_wp2
    go_ret
    exact ⟨rfl, B5.out⟩

set_option maxRecDepth 100000 in
set_option maxHeartbeats 2000000 in
theorem orderPlaces_any (A : Option Addr) (n c : Nat) (xs : List Od) (x : Od) (w : World) (hs : Ods w w.heap.size A n c xs) (hss : ∀ x ∈ xs, x.shn ≤ 8 → OdS w w.heap.size x) (hx : x.shn ≤ 8 → OdS w w.heap.size x) :
    LawO 8 #[.slice A n c, odV x] w := by
  unfold LawO
  obtain rfl := hs.len
  have hbig := hs.big
  have hle := hs.le
  have hsl : ∀ W, Below w.heap.size w W → Ods W W.heap.size A xs.length c xs := fun W hW => (hs.below hW).more hW.size
  have HV := hide (fun W (hW : Below w.heap.size w W) => valid_any A _ c xs W (hsl W hW) (fun x hx h8 => ((hss x hx h8).below hW).more hW.size))
  have B0 := hide ((Below.refl w.heap.size w).alloc (Nat.le_refl _) (.cells (odC x) 37))
  have Z0 := hide (Below.refl (w.heap.size + 1) (w.alloc (.cells (odC x) 37)))
  have HZ := hide (fun W (hW : Below (w.heap.size + 1) (w.alloc (.cells (odC x) 37)) W) => (Box.new w 37 (odC x)).below hW (by omega))
  cases hv : validO xs with
  | false =>
    rw [hv] at HV
    clear hv hs hss hsl hx
    unfold odV
    go_enter Try.func8, Try.ntmps8
    go_wp2_with fail
    refine (oalive_any _).mono ?_
    rintro e w1 ⟨rfl, hb⟩
    have B1 := hide (B0.out.trans (hb.mono (Nat.le_trans (by simp) B0.out.size)))
    have Z1 := hide (Z0.out.trans (hb.mono (Nat.le_trans (by simp) Z0.out.size)))
    clear hb 
    go_wp2_with fail
    refine (HV.out _ B1.out).mono ?_
    rintro e w2 ⟨rfl, hb⟩
    have B2 := hide (B1.out.trans (hb.mono (Nat.le_trans (by simp) B1.out.size)))
    have Z2 := hide (Z1.out.trans (hb.mono (Nat.le_trans (by simp) Z1.out.size)))
    clear hb B1 Z1
    clear HV
    go_wp2
    go_ret
    exact ⟨rfl, B2.out⟩
  | true =>
    rw [hv] at HV
    obtain ⟨hV, h60, h8⟩ := validO_of hv
    have hSS := fun W (hW : Below w.heap.size w W) y hy => ((hss y hy (h8 y hy)).below hW).more hW.size
    by_cases h9 : x.shn ≤ 8
    · have h9z : ¬ (8 : Int) < (x.shn : Int) := by omega
      have hX := fun W (hW : Below w.heap.size w W) => ((hx h9).below hW).more hW.size
      have h10 := fun W (hW : Below w.heap.size w W) => oplace_any A _ c xs x W (hsl W hW) (hSS W hW) (hX W hW) h60
      have h20 := fun W (hW : Below w.heap.size w W) => rplace_any A _ c xs x W (hsl W hW) (hSS W hW) (hX W hW) h60
      have hm0 : ∀ W, Below w.heap.size w W → ∀ z ∈ (placeO xs x).2, OdS W W.heap.size z := fun W hW z hz => by
        rcases placeO_mem z hz with hz | rfl
        · exact hSS W hW z hz
        · exact hX W hW
      generalize placeO xs x = r0 at h10 h20 hm0
      have G0 := hide h10
      have R0 := hide h20
      have M0 := hide hm0
      unfold odV at G0 R0
      clear hv hs hss hsl hV h8 hSS h10 h20 hm0 hx hX h9
      unfold odV
      go_enter Try.func8, Try.ntmps8
      go_wp2_with fail
      refine (oalive_any _).mono ?_
      rintro e w1 ⟨rfl, hb⟩
      have B1 := hide (B0.out.trans (hb.mono (Nat.le_trans (by simp) B0.out.size)))
      have Z1 := hide (Z0.out.trans (hb.mono (Nat.le_trans (by simp) Z0.out.size)))
      clear hb 
      go_wp2_with fail
      refine (HV.out _ B1.out).mono ?_
      rintro e w2 ⟨rfl, hb⟩
      have B2 := hide (B1.out.trans (hb.mono (Nat.le_trans (by simp) B1.out.size)))
      have Z2 := hide (Z1.out.trans (hb.mono (Nat.le_trans (by simp) Z1.out.size)))
      clear hb B1 Z1
      clear HV
      have hbx := HZ.out _ Z2.out
      have q0 := hbx.cell 0
      have q1 := hbx.cell 1
      have q2 := hbx.cell 2
      have q3 := hbx.cell 3
      have q4 := hbx.cell 4
      have q5 := hbx.cell 5
      have q6 := hbx.cell 6
      have q7 := hbx.cell 7
      have q8 := hbx.cell 8
      have q9 := hbx.cell 9
      simp at q0 q1 q2 q3 q4 q5 q6 q7 q8 q9
      clear hbx
      go_wp2_with fail
      refine (G0.out _ B2.out).mono ?_
      rintro e w3 ⟨A1, n1, c1, rfl, hsl, hb⟩
      have B3 := hide (B2.out.trans (hb.mono (Nat.le_trans (by simp) B2.out.size)))
      have Z3 := hide (Z2.out.trans (hb.mono (Nat.le_trans (by simp) Z2.out.size)))
      clear hb B2 Z2
      have S1 := hide hsl
      clear hsl
      have K1_3 := hide (Below.refl w3.heap.size w3)
      clear q0 q1 q2 q3 q4 q5 q6 q7 q8 q9
      have hbx := HZ.out _ Z3.out
      have q0 := hbx.cell 0
      have q1 := hbx.cell 1
      have q2 := hbx.cell 2
      have q3 := hbx.cell 3
      have q4 := hbx.cell 4
      have q5 := hbx.cell 5
      have q6 := hbx.cell 6
      have q7 := hbx.cell 7
      have q8 := hbx.cell 8
      have q9 := hbx.cell 9
      simp at q0 q1 q2 q3 q4 q5 q6 q7 q8 q9
      clear hbx
      go_wp2_with fail
      refine (R0.out _ B3.out).mono ?_
      rintro e w4 ⟨A2, n2, c2, rfl, hsl, hb⟩
      have B4 := hide (B3.out.trans (hb.mono (Nat.le_trans (by simp) B3.out.size)))
      have Z4 := hide (Z3.out.trans (hb.mono (Nat.le_trans (by simp) Z3.out.size)))
      have K1_4 := hide (K1_3.out.trans (hb.mono (Nat.le_trans (by simp) K1_3.out.size)))
      clear hb B3 Z3 K1_3
      have S2 := hide hsl
      clear hsl
      have K2_4 := hide (Below.refl w4.heap.size w4)
      clear q0 q1 q2 q3 q4 q5 q6 q7 q8 q9
      go_wp2_with fail
      refine (same_any A1 A2 n1 c1 n2 c2 _ w4 ((S1.out.below K1_4.out).more K1_4.out.size) ((S2.out.below K2_4.out).more K2_4.out.size) (M0.out _ B4.out)).mono ?_
      rintro e w5 ⟨rfl, hb⟩
      have B5 := hide (B4.out.trans (hb.mono (Nat.le_trans (by simp) B4.out.size)))
      have Z5 := hide (Z4.out.trans (hb.mono (Nat.le_trans (by simp) Z4.out.size)))
      have K1_5 := hide (K1_4.out.trans (hb.mono (Nat.le_trans (by simp) K1_4.out.size)))
      have K2_5 := hide (K2_4.out.trans (hb.mono (Nat.le_trans (by simp) K2_4.out.size)))
      clear hb B4 Z4 K1_4 K2_4
      go_wp2
      go_ret
      exact ⟨rfl, B5.out⟩
    · have h9z : (8 : Int) < (x.shn : Int) := by omega
      clear hv hs hss hsl hV h8 hSS hx h9
      unfold odV
      go_enter Try.func8, Try.ntmps8
      go_wp2_with fail
      refine (oalive_any _).mono ?_
      rintro e w1 ⟨rfl, hb⟩
      have B1 := hide (B0.out.trans (hb.mono (Nat.le_trans (by simp) B0.out.size)))
      have Z1 := hide (Z0.out.trans (hb.mono (Nat.le_trans (by simp) Z0.out.size)))
      clear hb 
      go_wp2_with fail
      refine (HV.out _ B1.out).mono ?_
      rintro e w2 ⟨rfl, hb⟩
      have B2 := hide (B1.out.trans (hb.mono (Nat.le_trans (by simp) B1.out.size)))
      have Z2 := hide (Z1.out.trans (hb.mono (Nat.le_trans (by simp) Z1.out.size)))
      clear hb B1 Z1
      clear HV
      have hbx := HZ.out _ Z2.out
      have q0 := hbx.cell 0
      have q1 := hbx.cell 1
      have q2 := hbx.cell 2
      have q3 := hbx.cell 3
      have q4 := hbx.cell 4
      have q5 := hbx.cell 5
      have q6 := hbx.cell 6
      have q7 := hbx.cell 7
      have q8 := hbx.cell 8
      have q9 := hbx.cell 9
      simp at q0 q1 q2 q3 q4 q5 q6 q7 q8 q9
      clear hbx
      go_wp2
      go_ret
      exact ⟨rfl, B2.out⟩

end Go.Proofs.Ytdbanekjjibpbaa
