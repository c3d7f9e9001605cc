/- Walks: the laws HoldSleeps, HoldCatches, HoldPlaces. Printed by gen_ho_laws.py. -/
import Derived.Test.YtgjhjabnnhhkbaaHoZ
import Derived.Test.YtgjhjabnnhhkbaaHoJ
import Derived.Test.YtgjhjabnnhhkbaaHoK
import Derived.Test.YtgjhjabnnhhkbaaHoL
import Derived.Test.YtgjhjabnnhhkbaaHoM
namespace Go.Proofs.Ytgjhjabnnhhkbaa
open Go.RowKit

theorem hsame_any (A A' : Option Addr) (n c n' c' : Nat) (xs : List Ho) (w : World) (hs : Hos w w.heap.size A n c xs) (ht : Hos w w.heap.size A' n' c' xs) :
    Calls Try.prog 26 #[.slice A n c, .slice A' n' c'] w fun e w' => e = .returned (.bool true) ∧ Below w.heap.size w w' := by
  have h := ho_same A A' n c n' c' xs xs w hs ht
  rwa [decide_eq_true rfl] at h
theorem hwith_set : ∀ {xs : List Ho} {p : Option Int}, chkHs p xs = 0 → ∀ {i : Nat} {x y : Ho}, xs[i]? = some x → y.id = x.id → withH xs y = xs.set i y
  | [], _, _, i, x, y, h, _ => by simp at h
  | z :: r, p, hc, 0, x, y, h, he => by
    simp at h; subst h
    have ht := chkHs_gt r _ (chkHs_tail hc)
    unfold withH
    rw [List.map_cons, List.set_cons_zero, if_pos (by simp [he])]
    congr 1
    conv => rhs; rw [← List.map_id r]
    refine List.map_congr_left (fun u hu => ?_)
    have := ht u hu
    rw [if_neg (by simp; omega)]; rfl
  | z :: r, p, hc, i + 1, x, y, h, he => by
    have ih := hwith_set (chkHs_tail hc) (i := i) (x := x) (y := y) (by simpa using h) he
    have ht := chkHs_gt r _ (chkHs_tail hc) x (List.mem_of_getElem? (i := i) (by simpa using h))
    unfold withH at ih ⊢
    rw [List.map_cons, List.set_cons_succ, ih, if_neg (by simp; omega)]
theorem VldH.wi {xs : List Ho} (h : VldH xs) : ∀ (i : Nat) (x y : Ho), xs[i]? = some x → y.id = x.id → withH xs y = xs.set i y := fun _ _ _ hx he => hwith_set h.chk hx he

set_option maxRecDepth 100000 in
set_option maxHeartbeats 2000000 in
theorem holdSleeps_any (A : Option Addr) (n c : Nat) (xs : List Ho) (id u : Int) (w : World) (hs : Hos w w.heap.size A n c xs) :
    LawH 7 #[.slice A n c, .int .i64 id, .int .i64 u] w := by
  unfold LawH
  obtain rfl := hs.len
  have hbig := hs.big
  have hle := hs.le
  have hsl : ∀ W, Below w.heap.size w W → Hos W W.heap.size A xs.length c xs := fun W hW => (hs.below hW).more hW.size
  have HV := hide (fun W (hW : Below w.heap.size w W) => hvalid_any A _ c xs W (hsl W hW))
  have B0 := hide (Below.refl w.heap.size w)
  cases hv : validH xs with
  | false =>
    rw [hv] at HV
    clear hv hs hsl
    go_enter Try.func7, Try.ntmps7
    go_wp2_with fail
    refine (halive_any _).mono ?_
    rintro e w1 ⟨rfl, hb⟩
    have B1 := hide (B0.out.trans (hb.mono (Nat.le_trans (by simp) B0.out.size)))
    clear hb 
    go_wp2_with fail
    refine (HV.out _ B1.out).mono ?_
    rintro e w2 ⟨rfl, hb⟩
    have B2 := hide (B1.out.trans (hb.mono (Nat.le_trans (by simp) B1.out.size)))
    clear hb B1
    clear HV
    go_wp2
    go_ret
    exact ⟨rfl, B2.out⟩
  | true =>
    rw [hv] at HV
    obtain ⟨hV, h60⟩ := validH_of hv
    have h10 := fun W (hW : Below w.heap.size w W) => hsleep_any A _ c xs id u W (hsl W hW) (by omega)
    have h20 := fun W (hW : Below w.heap.size w W) => rsleep_any A _ c xs id u W (hsl W hW) (by omega) hV.wi
    generalize sleepH xs id u = r0 at h10 h20
    have G0 := hide h10
    have R0 := hide h20
    clear hv hs hsl hV h10 h20
    go_enter Try.func7, Try.ntmps7
    go_wp2_with fail
    refine (halive_any _).mono ?_
    rintro e w1 ⟨rfl, hb⟩
    have B1 := hide (B0.out.trans (hb.mono (Nat.le_trans (by simp) B0.out.size)))
    clear hb 
    go_wp2_with fail
    refine (HV.out _ B1.out).mono ?_
    rintro e w2 ⟨rfl, hb⟩
    have B2 := hide (B1.out.trans (hb.mono (Nat.le_trans (by simp) B1.out.size)))
    clear hb B1
    clear HV
    go_wp2_with fail
    refine (G0.out _ B2.out).mono ?_
    rintro e w3 ⟨A1, n1, c1, rfl, hsl, hb⟩
    have B3 := hide (B2.out.trans (hb.mono (Nat.le_trans (by simp) B2.out.size)))
    clear hb B2
    have S1 := hide hsl
    clear hsl
    have K1_3 := hide (Below.refl w3.heap.size w3)
    go_wp2_with fail
    refine (R0.out _ B3.out).mono ?_
    rintro e w4 ⟨A2, n2, c2, rfl, hsl, hb⟩
    have B4 := hide (B3.out.trans (hb.mono (Nat.le_trans (by simp) B3.out.size)))
    have K1_4 := hide (K1_3.out.trans (hb.mono (Nat.le_trans (by simp) K1_3.out.size)))
    clear hb B3 K1_3
    have S2 := hide hsl
    clear hsl
    have K2_4 := hide (Below.refl w4.heap.size w4)
    go_wp2_with fail
    refine (hsame_any A1 A2 n1 c1 n2 c2 _ w4 ((S1.out.below K1_4.out).more K1_4.out.size) ((S2.out.below K2_4.out).more K2_4.out.size)).mono ?_
    rintro e w5 ⟨rfl, hb⟩
    have B5 := hide (B4.out.trans (hb.mono (Nat.le_trans (by simp) B4.out.size)))
    have K1_5 := hide (K1_4.out.trans (hb.mono (Nat.le_trans (by simp) K1_4.out.size)))
    have K2_5 := hide (K2_4.out.trans (hb.mono (Nat.le_trans (by simp) K2_4.out.size)))
    clear hb B4 K1_4 K2_4
    go_wp2
    go_ret
    exact ⟨rfl, B5.out⟩

set_option maxRecDepth 100000 in
set_option maxHeartbeats 2000000 in
theorem holdCatches_any (A : Option Addr) (n c : Nat) (xs : List Ho) (id item state unt : Int) (w : World) (hs : Hos w w.heap.size A n c xs) :
    LawH 6 #[.slice A n c, .int .i64 id, .int .i64 item, .int .i64 state, .int .i64 unt] w := by
  unfold LawH
  obtain rfl := hs.len
  have hbig := hs.big
  have hle := hs.le
  have hsl : ∀ W, Below w.heap.size w W → Hos W W.heap.size A xs.length c xs := fun W hW => (hs.below hW).more hW.size
  have HV := hide (fun W (hW : Below w.heap.size w W) => hvalid_any A _ c xs W (hsl W hW))
  have B0 := hide (Below.refl w.heap.size w)
  cases hv : validH xs with
  | false =>
    rw [hv] at HV
    clear hv hs hsl
    go_enter Try.func6, Try.ntmps6
    go_wp2_with fail
    refine (halive_any _).mono ?_
    rintro e w1 ⟨rfl, hb⟩
    have B1 := hide (B0.out.trans (hb.mono (Nat.le_trans (by simp) B0.out.size)))
    clear hb 
    go_wp2_with fail
    refine (HV.out _ B1.out).mono ?_
    rintro e w2 ⟨rfl, hb⟩
    have B2 := hide (B1.out.trans (hb.mono (Nat.le_trans (by simp) B1.out.size)))
    clear hb B1
    clear HV
    go_wp2
    go_ret
    exact ⟨rfl, B2.out⟩
  | true =>
    rw [hv] at HV
    obtain ⟨hV, h60⟩ := validH_of hv
    have h10 := fun W (hW : Below w.heap.size w W) => hcatch_any A _ c xs id item state unt W (hsl W hW) (by omega)
    have h20 := fun W (hW : Below w.heap.size w W) => rcatch_any A _ c xs id item state unt W (hsl W hW) (by omega) hV.wi
    generalize catchH xs id item state unt = r0 at h10 h20
    have G0 := hide h10
    have R0 := hide h20
    have h11 := fun W (hW : Below w.heap.size w W) => hdrop_any A _ c xs item W (hsl W hW) (by omega)
    have h21 := fun W (hW : Below w.heap.size w W) => rdrop_any A _ c xs item W (hsl W hW) (by omega) hV.wi
    generalize dropH xs item = r1 at h11 h21
    have G1 := hide h11
    have R1 := hide h21
    clear hv hs hsl hV h10 h20 h11 h21
    go_enter Try.func6, Try.ntmps6
    go_wp2_with fail
    refine (halive_any _).mono ?_
    rintro e w1 ⟨rfl, hb⟩
    have B1 := hide (B0.out.trans (hb.mono (Nat.le_trans (by simp) B0.out.size)))
    clear hb 
    go_wp2_with fail
    refine (HV.out _ B1.out).mono ?_
    rintro e w2 ⟨rfl, hb⟩
    have B2 := hide (B1.out.trans (hb.mono (Nat.le_trans (by simp) B1.out.size)))
    clear hb B1
    clear HV
    go_wp2_with fail
    refine (G0.out _ B2.out).mono ?_
    rintro e w3 ⟨A1, n1, c1, rfl, hsl, hb⟩
    have B3 := hide (B2.out.trans (hb.mono (Nat.le_trans (by simp) B2.out.size)))
    clear hb B2
    have S1 := hide hsl
    clear hsl
    have K1_3 := hide (Below.refl w3.heap.size w3)
    go_wp2_with fail
    refine (R0.out _ B3.out).mono ?_
    rintro e w4 ⟨A2, n2, c2, rfl, hsl, hb⟩
    have B4 := hide (B3.out.trans (hb.mono (Nat.le_trans (by simp) B3.out.size)))
    have K1_4 := hide (K1_3.out.trans (hb.mono (Nat.le_trans (by simp) K1_3.out.size)))
    clear hb B3 K1_3
    have S2 := hide hsl
    clear hsl
    have K2_4 := hide (Below.refl w4.heap.size w4)
    go_wp2_with fail
    refine (hsame_any A1 A2 n1 c1 n2 c2 _ w4 ((S1.out.below K1_4.out).more K1_4.out.size) ((S2.out.below K2_4.out).more K2_4.out.size)).mono ?_
    rintro e w5 ⟨rfl, hb⟩
    have B5 := hide (B4.out.trans (hb.mono (Nat.le_trans (by simp) B4.out.size)))
    have K1_5 := hide (K1_4.out.trans (hb.mono (Nat.le_trans (by simp) K1_4.out.size)))
    have K2_5 := hide (K2_4.out.trans (hb.mono (Nat.le_trans (by simp) K2_4.out.size)))
    clear hb B4 K1_4 K2_4
    go_wp2_with fail
    refine (G1.out _ B5.out).mono ?_
    rintro e w6 ⟨A11, n11, c11, rfl, hsl, hb⟩
    have B6 := hide (B5.out.trans (hb.mono (Nat.le_trans (by simp) B5.out.size)))
    clear hb B5
    have S11 := hide hsl
    clear hsl
    have K11_6 := hide (Below.refl w6.heap.size w6)
    go_wp2_with fail
    refine (R1.out _ B6.out).mono ?_
    rintro e w7 ⟨A12, n12, c12, rfl, hsl, hb⟩
    have B7 := hide (B6.out.trans (hb.mono (Nat.le_trans (by simp) B6.out.size)))
    have K11_7 := hide (K11_6.out.trans (hb.mono (Nat.le_trans (by simp) K11_6.out.size)))
    clear hb B6 K11_6
    have S12 := hide hsl
    clear hsl
    have K12_7 := hide (Below.refl w7.heap.size w7)
    go_wp2_with fail
    refine (hsame_any A11 A12 n11 c11 n12 c12 _ w7 ((S11.out.below K11_7.out).more K11_7.out.size) ((S12.out.below K12_7.out).more K12_7.out.size)).mono ?_
    rintro e w8 ⟨rfl, hb⟩
    have B8 := hide (B7.out.trans (hb.mono (Nat.le_trans (by simp) B7.out.size)))
    have K11_8 := hide (K11_7.out.trans (hb.mono (Nat.le_trans (by simp) K11_7.out.size)))
    have K12_8 := hide (K12_7.out.trans (hb.mono (Nat.le_trans (by simp) K12_7.out.size)))
    clear hb B7 K11_7 K12_7
    go_wp2
    go_ret
    exact ⟨rfl, B8.out⟩

end Go.Proofs.Ytgjhjabnnhhkbaa
