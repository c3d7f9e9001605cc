/- Walks: swapRangeCmpFunc and rotateCmpFunc. Printed by gen_ho_mgr.py. -/
import Derived.Test.YtgjhjabnnhhkbaaHoMgI
namespace Go.Proofs.Ytgjhjabnnhhkbaa
open Go.RowKit

theorem SWh.at1 {w0 W : World} {g : Nat} {tl : List Value} {ds : List Ho} (h : SWh w0 g tl ds W) {q o : Nat} {y : Ho} (ho : q * 11 = o) (hy : ds[q]? = some y) :
    W.cell? ⟨g, o, none⟩ = some (.int .i64 y.id) ∧ W.cell? ⟨g, o + 1, none⟩ = some (.int .i64 y.pat) ∧ W.cell? ⟨g, o + 2, none⟩ = some (.int .i64 y.rcd) ∧ W.cell? ⟨g, o + 3, none⟩ = some (.int .i64 y.itm) ∧ W.cell? ⟨g, o + 4, none⟩ = some (.int .i64 y.pk) ∧ W.cell? ⟨g, o + 5, none⟩ = some (.int .i64 y.plc) ∧ W.cell? ⟨g, o + 6, none⟩ = some (.int .i64 y.st) ∧ W.cell? ⟨g, o + 7, none⟩ = some (.int .i64 y.got) ∧ W.cell? ⟨g, o + 8, none⟩ = some (.int .i64 y.unt) ∧ W.cell? ⟨g, o + 9, none⟩ = some (.int .i64 y.slp) ∧ W.cell? ⟨g, o + 10, none⟩ = some (.int .i64 y.rnk) := by
  subst ho
  have h0 := h.cell hy
  exact ⟨h0 0 _ rfl, h0 1 _ rfl, h0 2 _ rfl, h0 3 _ rfl, h0 4 _ rfl, h0 5 _ rfl, h0 6 _ rfl, h0 7 _ rfl, h0 8 _ rfl, h0 9 _ rfl, h0 10 _ rfl⟩
/-- Where the element at k comes from when the n elements from a on and those from b on change places. -/
def swpF (a b n k : Nat) : Nat := if a ≤ k ∧ k < a + n then b + (k - a) else if b ≤ k ∧ k < b + n then a + (k - b) else k
def Swp (ds ds' : List Ho) (a b n : Nat) : Prop := ds'.length = ds.length ∧ ∀ k, ds'[k]? = ds[swpF a b n k]?
theorem Swp.refl (ds : List Ho) (a b : Nat) : Swp ds ds a b 0 := ⟨rfl, fun k => by unfold swpF; rw [if_neg (by omega), if_neg (by omega)]⟩
theorem Swp.left {ds cur : List Ho} {a b n i : Nat} (h : Swp ds cur a b i) (hi : i < n) (hab : a + n ≤ b) : cur[a + i]? = ds[a + i]? ∧ cur[b + i]? = ds[b + i]? := by
  constructor
  · rw [h.2]; unfold swpF; rw [if_neg (by omega), if_neg (by omega)]
  · rw [h.2]; unfold swpF; rw [if_neg (by omega), if_neg (by omega)]
theorem Swp.step {ds cur : List Ho} {a b n i : Nat} {x y : Ho} (h : Swp ds cur a b i) (hi : i < n) (hab : a + n ≤ b) (hx : ds[a + i]? = some x) (hy : ds[b + i]? = some y) :
    Swp ds ((cur.set (a + i) y).set (b + i) x) a b (i + 1) := by
  have hbl : b + i < cur.length := by rw [h.1]; exact (List.getElem?_eq_some_iff.1 hy).1
  refine ⟨by rw [List.length_set, List.length_set]; exact h.1, fun k => ?_⟩
  rw [List.getElem?_set]
  by_cases e1 : b + i = k
  · subst e1
    rw [if_pos rfl, if_pos (by rw [List.length_set]; exact hbl)]
    have : swpF a b (i + 1) (b + i) = a + i := by unfold swpF; rw [if_neg (by omega), if_pos (by omega)]; omega
    rw [this, hx]
  · rw [if_neg e1, List.getElem?_set]
    by_cases e2 : a + i = k
    · subst e2
      rw [if_pos rfl, if_pos (by omega)]
      have : swpF a b (i + 1) (a + i) = b + i := by unfold swpF; rw [if_pos (by omega)]; omega
      rw [this, hy]
    · rw [if_neg e2, h.2]
      congr 1
      unfold swpF
      repeat' split
      all_goals omega
theorem Swp.lists {P U M V Q ds' : List Ho} (hl : U.length = V.length) (h : Swp (P ++ (U ++ (M ++ (V ++ Q)))) ds' P.length (P.length + U.length + M.length) U.length) : ds' = P ++ (V ++ (M ++ (U ++ Q))) := by
  refine List.ext_getElem? (fun k => ?_)
  rw [h.2]
  unfold swpF
  simp only [List.getElem?_append]
  repeat' split
  all_goals first | (exfalso; omega) | (congr 1 <;> omega)

set_option maxRecDepth 100000 in
set_option maxHeartbeats 4000000 in
theorem swapRange_any (fv : Value) (tl : List Value) (g cap N a b n : Nat) (ds : List Ho) (w0 w : World) (hs : SWh w0 g tl ds w) (hN : ds.length = N) (hab : a + n ≤ b) (hbn : b + n ≤ N) (hcap : N ≤ cap) (hn : N ≤ 1000) :
    Calls Try.prog 65 #[.slice (some ⟨g, 0, none⟩) N cap, .int .i64 a, .int .i64 b, .int .i64 n, fv] w fun e w' => e = .returned (.tuple #[]) ∧ ∃ ds', Swp ds ds' a b n ∧ SWh w0 g tl ds' w' := by
  have HS := hide hs
  have HN := hide hN
  clear hs hN
  go_enter Try.func65, Try.ntmps65
  go_wp2
  go_loopw [10] (fun s wr => ∃ i : Nat, i ≤ n ∧ s = .int .i64 i ∧ ∃ cur, Swp ds cur a b i ∧ SWh w0 g tl cur wr) (fun s _ => n - (intOf s).toNat)
  case atStart => exact ⟨0, Nat.zero_le _, rfl, ds, Swp.refl ds a b, HS.out⟩
  case round =>
    obtain ⟨i, hi, rfl, cur, hsp, hsw⟩ := hrel
    have HP := hide hsp
    have HW := hide hsw
    clear hsp hsw HS
    by_cases hlt : i < n
    · have hltz : (i : Int) < (n : Int) := by omega
      obtain ⟨x, hx⟩ : ∃ x, ds[a + i]? = some x := ⟨_, List.getElem?_eq_getElem (by have := HN.out; omega)⟩
      obtain ⟨y, hy⟩ : ∃ y, ds[b + i]? = some y := ⟨_, List.getElem?_eq_getElem (by have := HN.out; omega)⟩
      obtain ⟨hx', hy'⟩ := HP.out.left hlt hab
      rw [hx] at hx'
      rw [hy] at hy'
      have HST := hide (HP.out.step hlt hab hx hy)
      have hcl : cur.length = N := by rw [HP.out.1, HN.out]
      obtain ⟨p, hp⟩ : ∃ p, a + i = p := ⟨_, rfl⟩
      obtain ⟨q, hq⟩ : ∃ q, b + i = q := ⟨_, rfl⟩
      have eA : (a : Int) + (i : Int) = (p : Int) := by omega
      have eB : (b : Int) + (i : Int) = (q : Int) := by omega
      have hpN : p < N := by omega
      have hqN : q < N := by omega
      have hpc : p < cap := by omega
      have hqc : q < cap := by omega
      rw [hp] at hx' HST
      rw [hq] at hy' HST
      obtain ⟨o, ho⟩ : ∃ o, p * 11 = o := ⟨_, rfl⟩
      obtain ⟨o', ho'⟩ : ∃ o', q * 11 = o' := ⟨_, rfl⟩
      have wA : IntKind.i64.wrap (p : Int) = (p : Int) := by rw [IntKind.wrap_i64]; omega
      have wB : IntKind.i64.wrap (q : Int) = (q : Int) := by rw [IntKind.wrap_i64]; omega
      obtain ⟨l0, l1, l2, l3, l4, l5, l6, l7, l8, l9, l10⟩ := HW.out.at1 ho hx'
      obtain ⟨m0, m1, m2, m3, m4, m5, m6, m7, m8, m9, m10⟩ := HW.out.at1 ho' hy'
      have mf := fun j => HW.out.box.frz j
      have HS3 := (HW.out.set (j := p) (by omega) y).set (j := q) (by rw [List.length_set]; omega) x
      rw [ho, ho'] at HS3
      have HS3 := hide HS3
      clear hx hy hx' hy' hp hq HW hcl
      go_wp2_with fail
      go_big_region
      go_wp2
      clear l0 l1 l2 l3 l4 l5 l6 l7 l8 l9 l10 m0 m1 m2 m3 m4 m5 m6 m7 m8 m9 m10 mf
      go_roundw
      case rel => exact ⟨i + 1, by omega, by go_num, _, HST.out, HS3.out.drew⟩
      case measure => simp [intOf]; omega
    · have hltz : ¬ (i : Int) < (n : Int) := by omega
      obtain rfl : i = n := by omega
      go_wp2
      go_end0
      exact ⟨rfl, cur, HP.out, HW.out⟩

set_option maxRecDepth 100000 in
set_option maxHeartbeats 4000000 in
theorem rotate_any (fv : Value) (tl : List Value) (g cap N a m b : Nat) (P U V Q : List Ho) (w0 w : World) (hs : SWh w0 g tl (P ++ (U ++ (V ++ Q))) w) (hN : (P ++ (U ++ (V ++ Q))).length = N)
    (ha : P.length = a) (hm : a + U.length = m) (hb : m + V.length = b) (hu : 0 < U.length) (hv : 0 < V.length) (hcap : N ≤ cap) (hn : N ≤ 1000) :
    Calls Try.prog 64 #[.slice (some ⟨g, 0, none⟩) N cap, .int .i64 a, .int .i64 m, .int .i64 b, fv] w fun e w' => e = .returned (.tuple #[]) ∧ SWh w0 g tl (P ++ (V ++ (U ++ Q))) w' := by
  have hN' : a + U.length + V.length + Q.length = N := by rw [← hN, ← ha]; simp; omega
  have HS := hide hs
  have HA := hide ha
  have eu : (m : Int) - (a : Int) = (U.length : Int) := by omega
  have ev : (b : Int) - (m : Int) = (V.length : Int) := by omega
  have hmN : (m : Int) ≤ 1000 := by omega
  have hbN : (b : Int) ≤ 1000 := by omega
  have HM := hide hm
  have HB := hide hb
  have HN := hide hN'
  have HV := hide (And.intro hu hv)
  have hul : (U.length : Int) ≤ 1000 := by omega
  have hvl : (V.length : Int) ≤ 1000 := by omega
  clear hs ha hN hm hb hN' hu hv
  go_enter Try.func64, Try.ntmps64
  go_wp2
  go_loopw [10, 11] (fun s t wr => ∃ P' U' V' Q' : List Ho, s = .int .i64 U'.length ∧ t = .int .i64 V'.length ∧ 0 < U'.length ∧ 0 < V'.length ∧ P'.length + U'.length = m ∧ P'.length + U'.length + V'.length + Q'.length = N ∧ P' ++ (V' ++ (U' ++ Q')) = P ++ (V ++ (U ++ Q)) ∧ SWh w0 g tl (P' ++ (U' ++ (V' ++ Q'))) wr) (fun s t _ => (intOf s).toNat + (intOf t).toNat)
  case atStart => exact ⟨P, U, V, Q, rfl, rfl, HV.out.1, HV.out.2, by have := HA.out; have := HM.out; omega, by have := HA.out; have := HN.out; omega, rfl, HS.out⟩
  case round =>
    obtain ⟨P', U', V', Q', rfl, rfl, hu, hv, hm, hN, htg, hsw⟩ := hrel
    have HW := hide hsw
    have HT := hide htg
    clear hsw htg HS
    obtain ⟨i, hi⟩ : ∃ i, U'.length = i := ⟨_, rfl⟩
    obtain ⟨j, hj⟩ : ∃ j, V'.length = j := ⟨_, rfl⟩
    obtain ⟨p, hp⟩ : ∃ p, P'.length = p := ⟨_, rfl⟩
    rw [hi] at hu hm hN
    rw [hj] at hv hN
    rw [hp] at hm hN
    rw [hi, hj]
    have hLN : (P' ++ (U' ++ (V' ++ Q'))).length = N := by simp; omega
    have eP : (m : Int) - (i : Int) = (p : Int) := by omega
    have wP : IntKind.i64.wrap (p : Int) = (p : Int) := by rw [IntKind.wrap_i64]; omega
    have hi1 : (i : Int) ≤ 1000 := by omega
    have hj1 : (j : Int) ≤ 1000 := by omega
    have HI := hide hi
    have HJ := hide hj
    have HP := hide hp
    have HMM := hide hm
    have HNN := hide hN
    rcases Nat.lt_trichotomy i j with hij | hij | hij
    · -- the first block is the shorter one
      have c1 : ((i : Int) == (j : Int)) = false := by simp; omega
      have c2 : ¬ (j : Int) < (i : Int) := by omega
      obtain ⟨q, hq⟩ : ∃ q, m + j - i = q := ⟨_, rfl⟩
      have eQ : (m : Int) + (j : Int) - (i : Int) = (q : Int) := by omega
      have hc := swapRange_any fv tl g cap N p q i (P' ++ (U' ++ (V' ++ Q'))) w0 wr HW.out hLN (by omega) (by omega) hcap hn
      have HC := hide hc
      have HQ := hide hq
      clear hc hi hj hp hm hN hq hLN
      go_wp2_with fail
      refine HC.out.mono ?_
      rintro e w1 ⟨rfl, ds', hsp, hs1⟩
      have hds : ds' = P' ++ (V'.drop (j - i) ++ (V'.take (j - i) ++ (U' ++ Q'))) := by
        refine Swp.lists (P := P') (U := U') (M := V'.take (j - i)) (V := V'.drop (j - i)) (Q := Q') (by rw [List.length_drop, HI.out, HJ.out]; omega) ?_
        have e1 : V'.take (j - i) ++ (V'.drop (j - i) ++ Q') = V' ++ Q' := by rw [← List.append_assoc, List.take_append_drop]
        rw [e1, List.length_take, HP.out, HI.out, HJ.out]
        have e2 : p + i + min (j - i) j = q := by have := HQ.out; have := HMM.out; omega
        rw [e2]; exact hsp
      rw [hds] at hs1
      have HS1 := hide hs1
      clear hs1 hsp hds HW
      go_wp2
      go_roundw
      case rel =>
        refine ⟨P', V'.drop (j - i), V'.take (j - i), U' ++ Q', ?_, ?_, ?_, ?_, ?_, ?_, ?_, HS1.out⟩
        · rw [List.length_drop, HJ.out]; congr 1; omega
        · rw [List.length_take, HJ.out, Nat.min_eq_left (by omega)]; go_num
        · rw [List.length_drop, HJ.out]; omega
        · rw [List.length_take, HJ.out]; omega
        · rw [List.length_drop, HJ.out, HP.out]; have := HMM.out; omega
        · rw [List.length_drop, List.length_take, List.length_append, HJ.out, HP.out, HI.out]; have := HNN.out; have := HI.out; omega
        · rw [← HT.out, ← List.append_assoc (V'.take (j - i)), List.take_append_drop]
      case measure => simp [intOf]; omega
    · -- equal blocks
      subst hij
      have c1 : ((i : Int) == (i : Int)) = true := by simp
      have hc := swapRange_any fv tl g cap N p m i (P' ++ (U' ++ (V' ++ Q'))) w0 wr HW.out hLN (by omega) (by omega) hcap hn
      have HC := hide hc
      clear hc hi hj hp hm hN hLN
      go_wp2_with fail
      refine HC.out.mono ?_
      rintro e w1 ⟨rfl, ds', hsp, hs1⟩
      have hds : ds' = P' ++ (V' ++ ([] ++ (U' ++ Q'))) := by
        refine Swp.lists (P := P') (U := U') (M := []) (V := V') (Q := Q') (by rw [HI.out, HJ.out]) ?_
        rw [HP.out, HI.out]
        have e2 : p + i + ([] : List Ho).length = m := by have := HMM.out; simp; omega
        rw [e2]; exact hsp
      rw [hds, List.nil_append, HT.out] at hs1
      have HS1 := hide hs1
      clear hs1 hsp hds HW
      go_wp2
      go_end0
      exact ⟨rfl, HS1.out⟩
    · -- the second block is the shorter one
      have c1 : ((i : Int) == (j : Int)) = false := by simp; omega
      have c2 : (j : Int) < (i : Int) := by omega
      have hc := swapRange_any fv tl g cap N p m j (P' ++ (U' ++ (V' ++ Q'))) w0 wr HW.out hLN (by omega) (by omega) hcap hn
      have HC := hide hc
      clear hc hi hj hp hm hN hLN
      go_wp2_with fail
      refine HC.out.mono ?_
      rintro e w1 ⟨rfl, ds', hsp, hs1⟩
      have hds : ds' = P' ++ (V' ++ (U'.drop j ++ (U'.take j ++ Q'))) := by
        refine Swp.lists (P := P') (U := U'.take j) (M := U'.drop j) (V := V') (Q := Q') (by rw [List.length_take, HI.out, HJ.out]; omega) ?_
        have e1 : U'.take j ++ (U'.drop j ++ (V' ++ Q')) = U' ++ (V' ++ Q') := by rw [← List.append_assoc, List.take_append_drop]
        rw [e1, List.length_take, List.length_drop, HP.out, HI.out]
        have e2 : p + min j i + (i - j) = m := by have := HMM.out; omega
        have e3 : min j i = j := by omega
        rw [e2, e3]; exact hsp
      rw [hds] at hs1
      have HS1 := hide hs1
      clear hs1 hsp hds HW
      go_wp2
      go_roundw
      case rel =>
        refine ⟨P' ++ V', U'.drop j, U'.take j, Q', ?_, ?_, ?_, ?_, ?_, ?_, ?_, by rw [List.append_assoc]; exact HS1.out⟩
        · rw [List.length_drop, HI.out]; go_num
        · rw [List.length_take, HI.out]; congr 1; omega
        · rw [List.length_drop, HI.out]; omega
        · rw [List.length_take, HI.out]; omega
        · rw [List.length_drop, List.length_append, HI.out, HP.out, HJ.out]; have := HMM.out; omega
        · rw [List.length_drop, List.length_append, List.length_take, HJ.out, HP.out, HI.out]; have := HNN.out; omega
        · rw [← HT.out, List.append_assoc, ← List.append_assoc (U'.take j), List.take_append_drop]
      case measure => simp [intOf]; omega
end Go.Proofs.Ytgjhjabnnhhkbaa
