/- Walks: stableCmpFunc, slices.SortStableFunc of up to 1000 holds. -/
import Derived.Test.YtgjhjabnnhhkbaaHoMgC1
import Derived.Test.YtgjhjabnnhhkbaaHoMgC2
namespace Go.Proofs.Ytgjhjabnnhhkbaa
open Go.RowKit

theorem SymSays.mono {f : Nat} {cb : Array Value} {tl : List Value} {g cap N : Nat} {w0 : World} {k j : Nat} (h : SymSays f cb tl g cap N w0 k) (hj : j ≤ k) : SymSays f cb tl g cap N w0 j :=
  fun P L R Q a m b w hk => h P L R Q a m b w (by omega)
theorem symMerge_says (f : Nat) (cb : Array Value) (tl : List Value) (g cap N : Nat) (w0 : World) (eg : ∀ args w, (callFunc f args).run Try.prog w = .ok (.enter f args) w) (hcmp : Cmph f cb cfQ PdR g w0) (hcap : N ≤ cap) (hn : N ≤ 1000) (k : Nat) : SymSays f cb tl g cap N w0 k := by
  induction k with
  | zero => intro P L R Q a m b w hk; omega
  | succ k ih =>
    intro P L R Q a m b w hk hs hd hN ha hm hb hl hr hL hR
    by_cases h1 : L.length = 1
    · obtain ⟨x0, rfl⟩ := List.length_eq_one_iff.1 h1
      exact symA_any f cb tl g cap N a m b P R Q x0 w0 w eg hcmp hs hd hN ha hm hb hR hcap hn
    · by_cases h2 : R.length = 1
      · obtain ⟨x0, rfl⟩ := List.length_eq_one_iff.1 h2
        exact symB_any f cb tl g cap N a m b P L Q x0 w0 w eg hcmp hs hd hN ha hm hb (by omega) hL hcap hn
      · by_cases h3 : (L.length + R.length) / 2 < L.length
        · exact symC1_any f cb tl g cap N a m b P L R Q w0 w eg hcmp hs hd hN ha hm hb (by omega) (by omega) hL hR hcap hn (ih.mono (by omega)) h3
        · exact symC2_any f cb tl g cap N a m b P L R Q w0 w eg hcmp hs hd hN ha hm hb (by omega) (by omega) hL hR hcap hn (ih.mono (by omega)) h3

/-! ### segments -/
def Seg (ds : List Ho) (x k : Nat) : List Ho := (ds.drop x).take k
theorem Seg.split (ds : List Ho) (x k : Nat) (h : x + k ≤ ds.length) : ∃ P Q, ds = P ++ (Seg ds x k ++ Q) ∧ P.length = x ∧ (Seg ds x k).length = k := by
  refine ⟨ds.take x, (ds.drop x).drop k, ?_, by rw [List.length_take]; omega, by unfold Seg; rw [List.length_take, List.length_drop]; omega⟩
  unfold Seg
  rw [List.take_append_drop, List.take_append_drop]
theorem Seg.before {P d d' Q : List Ho} {x k : Nat} (h : x + k ≤ P.length) : Seg (P ++ (d' ++ Q)) x k = Seg (P ++ (d ++ Q)) x k := by
  unfold Seg
  rw [List.drop_append_of_le_length (by omega), List.drop_append_of_le_length (by omega), List.take_append_of_le_length (by rw [List.length_drop]; omega), List.take_append_of_le_length (by rw [List.length_drop]; omega)]
theorem drop_far {A Q : List Ho} {x : Nat} (h : A.length ≤ x) : (A ++ Q).drop x = Q.drop (x - A.length) := by rw [List.drop_append, List.drop_of_length_le h, List.nil_append]
theorem Seg.behind {P d d' Q : List Ho} {x k : Nat} (hl : d'.length = d.length) (h : P.length + d.length ≤ x) : Seg (P ++ (d' ++ Q)) x k = Seg (P ++ (d ++ Q)) x k := by
  unfold Seg
  rw [← List.append_assoc, ← List.append_assoc, drop_far (A := P ++ d') (by rw [List.length_append]; omega), drop_far (A := P ++ d) (by rw [List.length_append]; omega), List.length_append, List.length_append, hl]
theorem Seg.at {P d Q : List Ho} {x k : Nat} (hx : P.length = x) (hk : d.length = k) : Seg (P ++ (d ++ Q)) x k = d := by
  subst hx hk
  unfold Seg
  rw [List.drop_left, List.take_left]
theorem Seg.all {P d : List Ho} {x k : Nat} (hx : P.length = x) (hk : d.length ≤ k) : Seg (P ++ (d ++ [])) x k = d := by
  subst hx
  unfold Seg
  rw [List.drop_left, List.append_nil, List.take_of_length_le hk]
theorem Seg.over {ds : List Ho} {x k : Nat} (h : ds.length ≤ x) : Seg ds x k = [] := by
  unfold Seg; rw [List.drop_of_length_le h, List.take_nil]
theorem Seg.rest {ds : List Ho} {x k j : Nat} (h : ds.length ≤ x + k) (hj : k ≤ j) : Seg ds x j = Seg ds x k := by
  unfold Seg; rw [List.take_of_length_le (by rw [List.length_drop]; omega), List.take_of_length_le (by rw [List.length_drop]; omega)]
theorem std_nil : Std [] := List.Pairwise.nil

/-- The blocks of k elements fall, those up to c. -/
def Blk (ds : List Ho) (k c : Nat) : Prop := ∀ i, i < c → Std (Seg ds (i * k) k)
theorem mul_lt_le {i c k : Nat} (h : i < c) : i * k + k ≤ c * k := by
  have := Nat.mul_le_mul_right k (show i + 1 ≤ c from h)
  rwa [Nat.add_mul, Nat.one_mul] at this
theorem Blk.put {P d d' Q : List Ho} {k c : Nat} (h : Blk (P ++ (d ++ Q)) k c) (hP : P.length = c * k) (hd : d.length = k) (hl : d'.length = d.length) (hs : Std d') : Blk (P ++ (d' ++ Q)) k (c + 1) := by
  intro i hi
  by_cases e : i = c
  · subst e; rw [Seg.at hP (by omega)]; exact hs
  · have h1 := mul_lt_le (k := k) (show i < c by omega)
    rw [Seg.before (d := d) (by omega)]
    exact h i (by omega)
theorem Blk.last {P d d' : List Ho} {k c : Nat} (h : Blk (P ++ (d ++ [])) k c) (hP : P.length = c * k) (hd : d.length ≤ k) (hl : d'.length = d.length) (hs : Std d') : ∀ i, Std (Seg (P ++ (d' ++ [])) (i * k) k) := by
  intro i
  rcases Nat.lt_trichotomy i c with e | e | e
  · have h1 := mul_lt_le (k := k) e
    rw [Seg.before (d := d) (by omega)]
    exact h i e
  · subst e; rw [Seg.all hP (by omega)]; exact hs
  · have h1 := mul_lt_le (k := k) e
    rw [Seg.over (by simp; omega)]; exact std_nil

set_option maxRecDepth 100000 in
set_option maxHeartbeats 8000000 in
theorem stableAll_any (f : Nat) (cb : Array Value) (tl : List Value) (g cap n : Nat) (d : List Ho) (w0 w : World) (eg : ∀ args w, (callFunc f args).run Try.prog w = .ok (.enter f args) w)
    (hcmp : Cmph f cb cfQ PdR g w0) (hs : SWh w0 g tl d w) (hd : ∀ x ∈ d, PdR x) (hN : d.length = n) (hcap : n ≤ cap) (hn : n ≤ 1000) :
    Calls Try.prog 61 #[.slice (some ⟨g, 0, none⟩) n cap, .int .i64 n, .func (.func f) #[] cb] w fun e w' => e = .returned (.tuple #[]) ∧ SWh w0 g tl (isorth cfQ d) w' := by
  have HINS := hide (fun (P' d' Q' : List Ho) (a b : Nat) (W : World) (h : SWh w0 g tl (P' ++ (d' ++ Q')) W) => insertionAt_any f cb cfQ PdR tl g cap n a b P' d' Q' w0 W eg hcmp h)
  have HSYM := hide (symMerge_says f cb tl g cap n w0 eg hcmp hcap hn (n + 1))
  have HS := hide hs
  have HD := hide hd
  have HN := hide hN
  clear hs hd hN hcmp
  go_enter Try.func61, Try.ntmps61
  go_wp2
  go_loopw [7, 8] (fun u v wr => ∃ (c a b : Nat) (D : List Ho), (a = c * 20 ∧ b = a + 20 ∧ a ≤ n ∧ D.length = n) ∧ u = .int .i64 a ∧ v = .int .i64 b ∧ Eqv D d ∧ Blk D 20 c ∧ SWh w0 g tl D wr) (fun u _ _ => n - (intOf u).toNat)
  case atStart => exact ⟨0, 0, 20, d, ⟨by omega, by omega, by omega, HN.out⟩, rfl, rfl, Eqv.refl _, (fun i h => by omega), HS.out⟩
  case round =>
    obtain ⟨c, a, b, D, hab, rfl, rfl, heq, hbl, hsw⟩ := hrel
    have HAB := hide hab
    have HE := hide heq
    have HBL := hide hbl
    have HW := hide hsw
    clear hab heq hbl hsw HS
    by_cases hlt : b ≤ n
    · have hltz : (b : Int) ≤ (n : Int) := by omega
      have hbz : (b : Int) + 20 ≤ 2000 := by omega
      obtain ⟨P, Q, hPQ, hP, hS⟩ := Seg.split D a 20 (by have := HAB.out; omega)
      obtain ⟨q, hq⟩ : ∃ q, Seg D a 20 = q := ⟨_, rfl⟩
      rw [hq] at hPQ hS
      have hmem : ∀ x ∈ q, PdR x := fun x hx => HD.out x (HE.out.mem (by rw [hPQ]; simp [hx]))
      have hc := HINS.out P q Q a b wr (by rw [← hPQ]; exact HW.out) hmem (by rw [← hPQ]; exact HAB.out.2.2.2) hP.symm (by have := HAB.out; omega) hcap hn
      have HC := hide hc
      have hst := isorth_std q
      have HST := hide hst
      have HPQ := hide hPQ
      have HPS := hide (And.intro hP hS)
      clear hc hst hPQ hP hS hq hmem
      go_wp2_with fail
      refine HC.out.mono ?_
      rintro e w1 ⟨rfl, hs1⟩
      have HS1 := hide hs1
      clear hs1 HC HW
      go_wp2
      go_roundw
      case rel =>
        have hql : (isorth cfQ q).length = q.length := HST.out.2.len
        refine ⟨c + 1, b, b + 20, P ++ (isorth cfQ q ++ Q), ⟨by have := HAB.out; omega, rfl, hlt, ?_⟩, rfl, by go_num, ?_, ?_, HS1.out⟩
        · have h1 := HAB.out.2.2.2
          rw [HPQ.out] at h1
          simp only [List.length_append] at h1 ⊢
          omega
        · refine Eqv.trans ?_ HE.out
          rw [HPQ.out]
          exact (Eqv.refl P).app (HST.out.2.app (Eqv.refl Q))
        · have h1 := HBL.out
          rw [HPQ.out] at h1
          exact h1.put (by rw [HPS.out.1]; exact HAB.out.1) HPS.out.2 hql HST.out.1
      case measure => have := HAB.out; simp [intOf]; omega
    · have hltz : ¬ (b : Int) ≤ (n : Int) := by omega
      obtain ⟨P, Q, hPQ, hP, hS⟩ := Seg.split D a (n - a) (by have := HAB.out; omega)
      obtain ⟨q, hq⟩ : ∃ q, Seg D a (n - a) = q := ⟨_, rfl⟩
      rw [hq] at hPQ hS
      obtain rfl : Q = [] := by
        have h1 := HAB.out
        have h2 := congrArg List.length hPQ
        simp only [List.length_append] at h2
        exact List.length_eq_zero_iff.1 (by omega)
      have hmem : ∀ x ∈ q, PdR x := fun x hx => HD.out x (HE.out.mem (by rw [hPQ]; simp [hx]))
      have hc := HINS.out P q [] a n wr (by rw [← hPQ]; exact HW.out) hmem (by rw [← hPQ]; exact HAB.out.2.2.2) hP.symm (by have := HAB.out; omega) hcap hn
      have HC := hide hc
      obtain ⟨D1, hD1⟩ : ∃ D1, D1 = P ++ (isorth cfQ q ++ []) := ⟨_, rfl⟩
      rw [← hD1] at hc
      have HC := hide hc
      have hst := isorth_std q
      have hql : (isorth cfQ q).length = q.length := hst.2.len
      have hfin : D1.length = n ∧ Eqv D1 d ∧ ∀ i, Std (Seg D1 (i * 20) 20) := by
        have h1 := HAB.out
        have hl := h1.2.2.2
        have hb2 := HBL.out
        have he2 := HE.out
        rw [hPQ] at hl hb2 he2
        rw [hD1]
        refine ⟨?_, ?_, ?_⟩
        · simp only [List.length_append] at hl ⊢; omega
        · exact Eqv.trans ((Eqv.refl P).app (hst.2.app (Eqv.refl []))) he2
        · exact hb2.last (by omega) (by omega) hql hst.1
      have HFIN := hide hfin
      clear hc hst hPQ hP hS hq hmem hfin hql hD1 HE HBL HAB
      go_wp2_with fail
      refine HC.out.mono ?_
      rintro e w1 ⟨rfl, hs1⟩
      have HS1 := hide hs1
      clear hs1 HC HW
      go_wp2
      go_loopw [6] (fun u wr => ∃ (B : Nat) (D : List Ho), u = .int .i64 B ∧ (20 ≤ B ∧ B ≤ 2000 ∧ D.length = n) ∧ Eqv D d ∧ (∀ i, Std (Seg D (i * B) B)) ∧ SWh w0 g tl D wr) (fun u _ => n - (intOf u).toNat)
      case atStart => exact ⟨20, D1, rfl, ⟨by omega, by omega, HFIN.out.1⟩, HFIN.out.2.1, HFIN.out.2.2, HS1.out⟩
      case round =>
        obtain ⟨B, D, rfl, hB, heq, hbl, hsw⟩ := hrel
        have HB := hide hB
        have HE := hide heq
        have HBL := hide hbl
        have HW := hide hsw
        clear hB heq hbl hsw HS1 HFIN
        by_cases hlt2 : B < n
        · have hltz2 : (B : Int) < (n : Int) := by omega
          have hB2 : (2 : Int) * (B : Int) ≤ 2000 := by omega
          obtain ⟨B2, hB2e⟩ : ∃ B2, 2 * B = B2 := ⟨_, rfl⟩
          have eB2 : (2 : Int) * (B : Int) = (B2 : Int) := by omega
          have eB3 : (B : Int) * 2 = (B2 : Int) := by omega
          have wB2 : IntKind.i64.wrap (B2 : Int) = (B2 : Int) := by rw [IntKind.wrap_i64]; omega
          have hB2n : B2 ≤ 2000 := by omega
          have HB2 := hide hB2e
          clear hB2e hB2
          go_wp2
          go_loopw [7, 8] (fun u v wr => ∃ (c a b : Nat) (D : List Ho), (a = c * B2 ∧ b = a + B2 ∧ a ≤ n ∧ D.length = n) ∧ u = .int .i64 a ∧ v = .int .i64 b ∧ Eqv D d ∧ Blk D B2 c ∧ (∀ i, 2 * c ≤ i → Std (Seg D (i * B) B)) ∧ SWh w0 g tl D wr) (fun u _ _ => n - (intOf u).toNat)
          case atStart => exact ⟨0, 0, B2, D, ⟨by omega, by omega, by omega, HB.out.2.2⟩, rfl, rfl, HE.out, (fun i h => by omega), (fun i _ => HBL.out i), HW.out⟩
          case round =>
            obtain ⟨c, a, b, D2, hab, rfl, rfl, heq, hblk, hrst, hsw⟩ := hrel
            have HAB := hide hab
            have HE2 := hide heq
            have HBK := hide hblk
            have HRST := hide hrst
            have HW2 := hide hsw
            clear hab heq hblk hrst hsw HW HE HBL
            obtain ⟨m, hm⟩ : ∃ m, a + B = m := ⟨_, rfl⟩
            have eM : (a : Int) + (B : Int) = (m : Int) := by omega
            have wM : IntKind.i64.wrap (m : Int) = (m : Int) := by rw [IntKind.wrap_i64]; have := HAB.out; omega
            have hca : 2 * c * B = a := by have h1 := HAB.out.1; have h2 := HB2.out; rw [h1, ← h2, Nat.mul_comm 2 c, Nat.mul_assoc]
            have hL0 : Std (Seg D2 a B) := by have := HRST.out (2 * c) (Nat.le_refl _); rwa [hca] at this
            have hR0 : Std (Seg D2 m B) := by have := HRST.out (2 * c + 1) (by omega); rwa [Nat.add_mul, hca, Nat.one_mul, hm] at this
            by_cases hlt : b ≤ n
            · have hltz : (b : Int) ≤ (n : Int) := by omega
              have hbz : (b : Int) + (B2 : Int) ≤ 5000 := by omega
              obtain ⟨P, Q0, hPQ, hP, hS⟩ := Seg.split D2 a B (by have := HAB.out; have := HB2.out; omega)
              obtain ⟨P1, Q, hPQ1, hP1, hS1⟩ := Seg.split D2 m B (by have := HAB.out; have := HB2.out; omega)
              obtain ⟨L, hL⟩ : ∃ L, Seg D2 a B = L := ⟨_, rfl⟩
              obtain ⟨R, hR⟩ : ∃ R, Seg D2 m B = R := ⟨_, rfl⟩
              rw [hL] at hPQ hS hL0
              rw [hR] at hPQ1 hS1 hR0
              have hQ0 : Q0 = R ++ Q := by
                have h1 : D2.drop m = Q0 := by rw [hPQ, ← List.append_assoc, List.drop_append_of_le_length (by simp; omega), List.drop_of_length_le (by simp; omega)]; rfl
                have h2 : D2.drop m = R ++ Q := by rw [hPQ1, List.drop_append_of_le_length (by omega), List.drop_of_length_le (by omega)]; rfl
                rw [← h1, h2]
              subst hQ0
              have hmem : ∀ x ∈ L ++ R, PdR x := fun x hx => HD.out x (HE2.out.mem (by rw [hPQ]; rcases List.mem_append.1 hx with h | h <;> simp [h]))
              have hc := HSYM.out P L R Q a m b wr (by have := HAB.out; have := HB2.out; omega) (by rw [← hPQ]; exact HW2.out) hmem (by rw [← hPQ]; exact HAB.out.2.2.2) hP (by omega) (by have := HAB.out; have := HB2.out; omega) (by have := HB.out; omega) (by have := HB.out; omega) hL0 hR0
              have HC := hide hc
              have HPQ := hide hPQ
              have HPS := hide (show P.length = a ∧ L.length = B ∧ R.length = B ∧ a + B = m from ⟨hP, hS, hS1, hm⟩)
              clear hc hPQ hPQ1 hP hS hP1 hS1 hL hR hmem hL0 hR0 hca hm
              go_wp2_with fail
              refine HC.out.mono ?_
              rintro e w2 ⟨rfl, M, hM, hME, hs2⟩
              have HS2 := hide hs2
              have HM := hide hM
              have HME := hide hME
              clear hs2 hM hME HC HW2
              go_wp2
              go_roundw
              case rel =>
                have hml := HME.out.len
                rw [List.length_append] at hml
                have hN2 := HAB.out.2.2.2
                have hbk := HBK.out
                have he2 := HE2.out
                have hrs := HRST.out
                rw [HPQ.out] at hN2 hbk he2 hrs
                refine ⟨c + 1, b, b + B2, P ++ (M ++ Q), ⟨by have := HAB.out; rw [Nat.add_mul]; omega, rfl, hlt, ?_⟩, rfl, by go_num, ?_, ?_, ?_, HS2.out⟩
                · simp only [List.length_append] at hN2 ⊢; omega
                · refine Eqv.trans ((Eqv.refl P).app (HME.out.app (Eqv.refl Q))) ?_
                  simpa only [List.append_assoc] using he2
                · rw [← List.append_assoc L] at hbk
                  exact hbk.put (by rw [HPS.out.1]; exact HAB.out.1) (by rw [List.length_append]; have := HPS.out; have := HB2.out; omega) (by rw [List.length_append]; omega) HM.out
                · intro i hi
                  have h1 := Nat.mul_le_mul_right B hi
                  rw [show 2 * (c + 1) * B = 2 * c * B + 2 * B by rw [Nat.mul_add, Nat.add_mul]] at h1
                  have h2 : 2 * c * B = c * B2 := by rw [← HB2.out, Nat.mul_comm 2 c, Nat.mul_assoc]
                  rw [← List.append_assoc L] at hrs
                  rw [Seg.behind (d := L ++ R) (by rw [List.length_append]; omega) (by rw [List.length_append]; have := HPS.out; have := HAB.out; omega)]
                  exact hrs i (by omega)
              case measure => have := HAB.out; have := HB2.out; have := HB.out; simp [intOf]; omega
            · have hltz : ¬ (b : Int) ≤ (n : Int) := by omega
              by_cases hmn : m < n
              · have hmz : (m : Int) < (n : Int) := by omega
                obtain ⟨P, Q0, hPQ, hP, hS⟩ := Seg.split D2 a B (by have := HAB.out; omega)
                have hR1 : Seg D2 m B = D2.drop m := by unfold Seg; exact List.take_of_length_le (by rw [List.length_drop]; have := HAB.out; have := HB2.out; omega)
                obtain ⟨L, hL⟩ : ∃ L, Seg D2 a B = L := ⟨_, rfl⟩
                obtain ⟨R, hR⟩ : ∃ R, D2.drop m = R := ⟨_, rfl⟩
                rw [hL] at hPQ hS hL0
                rw [hR1, hR] at hR0
                have hQ0 : Q0 = R ++ [] := by
                  rw [List.append_nil, ← hR, hPQ, ← List.append_assoc, List.drop_append_of_le_length (by simp; omega), List.drop_of_length_le (by simp; omega)]; rfl
                subst hQ0
                have hRl : R.length = n - m := by rw [← hR, List.length_drop, HAB.out.2.2.2]
                have hmem : ∀ x ∈ L ++ R, PdR x := fun x hx => HD.out x (HE2.out.mem (by rw [hPQ]; rcases List.mem_append.1 hx with h | h <;> simp [h]))
                have hc := HSYM.out P L R [] a m n wr (by have := HAB.out; omega) (by rw [← hPQ]; exact HW2.out) hmem (by rw [← hPQ]; exact HAB.out.2.2.2) hP (by omega) (by omega) (by have := HB.out; omega) (by omega) hL0 hR0
                have HC := hide hc
                have HPQ := hide hPQ
                have HPS := hide (show P.length = a ∧ L.length = B ∧ R.length = n - m ∧ a + B = m from ⟨hP, hS, hRl, hm⟩)
                clear hc hPQ hP hS hL hR hR1 hRl hmem hL0 hR0 hca hm
                go_wp2_with fail
                refine HC.out.mono ?_
                rintro e w2 ⟨rfl, M, hM, hME, hs2⟩
                have HS2 := hide hs2
                have HM := hide hM
                have HME := hide hME
                clear hs2 hM hME HC HW2
                go_wp2
                go_roundw
                case rel =>
                  have hml := HME.out.len
                  rw [List.length_append] at hml
                  have hN2 := HAB.out.2.2.2
                  have hbk := HBK.out
                  have he2 := HE2.out
                  rw [HPQ.out] at hN2 hbk he2
                  refine ⟨B2, P ++ (M ++ []), rfl, ⟨by have := HB.out; have := HB2.out; omega, hB2n, ?_⟩, ?_, ?_, HS2.out⟩
                  · simp only [List.length_append] at hN2 ⊢; omega
                  · refine Eqv.trans ((Eqv.refl P).app (HME.out.app (Eqv.refl []))) ?_
                    simpa only [List.append_assoc] using he2
                  · rw [← List.append_assoc L] at hbk
                    exact hbk.last (by rw [HPS.out.1]; exact HAB.out.1) (by rw [List.length_append]; have := HPS.out; have := HB2.out; have := HAB.out; omega) (by rw [List.length_append]; omega) HM.out
                case measure => have := HB2.out; have := HB.out; simp [intOf]; omega
              · have hmz : ¬ (m : Int) < (n : Int) := by omega
                have HL0 := hide hL0
                have HMM := hide hm
                clear hL0 hR0 hca hm
                go_wp2
                go_roundw
                case rel =>
                  refine ⟨B2, D2, rfl, ⟨by have := HB.out; have := HB2.out; omega, hB2n, HAB.out.2.2.2⟩, HE2.out, fun i => ?_, HW2.out⟩
                  rcases Nat.lt_trichotomy i c with e | e | e
                  · exact HBK.out i e
                  · subst e
                    rw [← HAB.out.1, Seg.rest (k := B) (by have := HAB.out; have := HMM.out; omega) (by have := HB2.out; omega)]
                    exact HL0.out
                  · have h1 := mul_lt_le (k := B2) e
                    rw [Seg.over (by have := HAB.out; omega)]; exact std_nil
                case measure => have := HB2.out; have := HB.out; simp [intOf]; omega
        · have hltz2 : ¬ (B : Int) < (n : Int) := by omega
          have hstd : Std D := by
            have h1 := HBL.out 0
            unfold Seg at h1
            rwa [Nat.zero_mul, List.drop_zero, List.take_of_length_le (by have := HB.out; omega)] at h1
          have hres := isorth_uniq hstd HE.out
          rw [hres] at HW
          have HW3 := hide HW.out
          clear hstd hres HW
          go_wp2
          go_end0
          exact ⟨rfl, HW3.out⟩

set_option maxHeartbeats 1000000 in
theorem sortStable_any (f : Nat) (cb : Array Value) (tl : List Value) (g cap n : Nat) (d : List Ho) (w0 w : World) (eg : ∀ args w, (callFunc f args).run Try.prog w = .ok (.enter f args) w)
    (hcmp : Cmph f cb cfQ PdR g w0) (hs : SWh w0 g tl d w) (hd : ∀ x ∈ d, PdR x) (hN : d.length = n) (hcap : n ≤ cap) (hn : n ≤ 1000) :
    Calls Try.prog 58 #[.slice (some ⟨g, 0, none⟩) n cap, .func (.func f) #[] cb] w fun e w' => e = .returned (.tuple #[]) ∧ SWh w0 g tl (isorth cfQ d) w' := by
  have HK := hide (stableAll_any f cb tl g cap n d w0 w eg hcmp hs hd hN hcap hn)
  clear hcmp hs hd hN
  go_enter Try.func58, Try.ntmps58
  go_wp2_with fail
  refine HK.out.mono ?_
  rintro e w1 ⟨rfl, hs⟩
  go_wp2
  go_end0
  exact ⟨rfl, hs⟩
theorem sorts_all {ds : List Ho} (hr : ∀ x ∈ ds, 0 ≤ x.rnk ∧ x.rnk ≤ 9) (hn : ds.length ≤ 1000) : SortsTo ds (isorth cfQ ds) := fun tl g cap w0 w hs hcap =>
  sortStable_any 59 #[] tl g cap ds.length ds w0 w e_queue1 (fun W x y hx hy _ _ => queue1_any x y W hx hy) hs hr rfl hcap hn
end Go.Proofs.Ytgjhjabnnhhkbaa
