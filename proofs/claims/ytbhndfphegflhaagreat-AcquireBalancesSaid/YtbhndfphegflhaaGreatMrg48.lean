/- Texts laid together by merge.py: AqBal. -/
import Derived.Test.YtbhndfphegflhaaGreatMrg42
import Derived.Test.YtbhndfphegflhaaGreatMrg47
set_option linter.unusedSimpArgs false
set_option linter.unusedVariables false
/- The law AcquireBalances. Printed by gen_aq_bal.py. -/
namespace Go.Proofs.YtbhndfphegflhaaGreat
open Go.RowKit
theorem sm_step {g : Fu → Int} {fs : List Fu} {k : Nat} {f : Fu} (h : fs[k]? = some f) : sm g (fs.take (k + 1)) = sm g (fs.take k) + g f := by
  unfold sm; rw [take_step h, List.map_append, List.sum_append]; simp
theorem sm_bd {g : Fu → Int} {m : Int} : ∀ {fs : List Fu}, (∀ f ∈ fs, 0 ≤ g f ∧ g f ≤ m) → 0 ≤ sm g fs ∧ sm g fs ≤ m * fs.length
  | [], _ => by simp [sm]
  | f :: r, h => by
    have h1 := h f (by simp)
    have h2 := sm_bd (fs := r) (fun x hx => h x (by simp [hx]))
    rw [sm_cons, List.length_cons]
    push_cast
    rw [Int.mul_add]
    omega

set_option maxRecDepth 100000 in
set_option maxHeartbeats 2000000 in
theorem totals_any (A : Option Addr) (n c : Nat) (fs : List Fu) (w : World) (hs : Fs w w.heap.size A n c fs) (hn : n ≤ 1000) (hm : ∀ f ∈ fs, FuM f) :
    Calls Tryz.prog 27 #[.slice A n c] w fun e w' => e = .returned (.tuple #[.int .i64 (sm (·.enc) fs), .int .i64 (sm (·.spent) fs)]) ∧ Below w.heap.size w w' := by
  obtain rfl := hs.len
  have hbig := hs.big
  have HS := hide hs
  have HM := hide hm
  clear hs hm
  go_enter Tryz.func27, Tryz.ntmps27
  go_wp2
  go_loop [4, 5, 6] (fun s4 s5 s6 => ∃ k : Nat, k ≤ fs.length ∧ s6 = .int .i64 k ∧ s4 = .int .i64 (sm (·.enc) (fs.take k)) ∧ s5 = .int .i64 (sm (·.spent) (fs.take k))) (fun _ _ s6 => fs.length - (intOf s6).toNat)
  case atStart => exact ⟨0, Nat.zero_le _, rfl, rfl, rfl⟩
  case round =>
    obtain ⟨k, hk, rfl, rfl, rfl⟩ := hrel
    have b1 := sm_bd (g := (·.enc)) (m := 100000000) (fs := fs.take k) (fun f hf => (HM.out f (List.mem_of_mem_take hf)).e)
    have b2 := sm_bd (g := (·.spent)) (m := 100000000) (fs := fs.take k) (fun f hf => (HM.out f (List.mem_of_mem_take hf)).s)
    have hlk : (fs.take k).length = k := by rw [List.length_take]; omega
    rw [hlk] at b1 b2
    obtain ⟨r, hr⟩ : ∃ r, sm (·.enc) (fs.take k) = r := ⟨_, rfl⟩
    obtain ⟨t, ht⟩ : ∃ t, sm (·.spent) (fs.take k) = t := ⟨_, rfl⟩
    rw [hr] at b1
    rw [ht] at b2
    have HR := hide hr
    have HT := hide ht
    rw [hr, ht]
    clear hr ht hlk
    by_cases hlt : k < fs.length
    · have hkz : (k : Int) < (fs.length : Int) := by omega
      obtain ⟨b, off, f, hA, hbB, hf, c0, c1, c2, c3, c4⟩ := Fs_at HS.out hlt
      have hM := HM.out f (List.mem_of_getElem? hf)
      have e1 : IntKind.i64.wrap (r + f.enc) = r + f.enc := by rw [IntKind.wrap_i64]; have := hM.e; omega
      have e2 : IntKind.i64.wrap (t + f.spent) = t + f.spent := by rw [IntKind.wrap_i64]; have := hM.s; omega
      have H1 := hide (show sm (·.enc) (fs.take (k + 1)) = r + f.enc by rw [sm_step hf, HR.out])
      have H2 := hide (show sm (·.spent) (fs.take (k + 1)) = t + f.spent by rw [sm_step hf, HT.out])
      rw [hA]
      clear hf hM hA
      go_wp2
      go_round
      case rel => exact ⟨k + 1, by omega, by go_num, by rw [H1.out], by rw [H2.out]⟩
      case measure => simp [intOf]; omega
    · have hkz : ¬ (k : Int) < (fs.length : Int) := by omega
      have htk : fs.take k = fs := List.take_of_length_le (by omega)
      have H1 := hide (show sm (·.enc) fs = r by rw [← HR.out, htk])
      have H2 := hide (show sm (·.spent) fs = t by rw [← HT.out, htk])
      clear htk
      go_wp2
      go_ret2
      rw [H1.out, H2.out]
      exact ⟨rfl, Below.refl _ _⟩

theorem fn_len {w : World} {B : Nat} {z : Aq} {P : Pa} (h : AqS w B z) (hp : aqP z = P) : z.fn = P.f.length ∧ z.f = P.f ∧ z.o = P.o := by
  refine ⟨?_, ?_, ?_⟩ <;> (try rw [← h.f.len]) <;> rw [← hp] <;> rfl

set_option maxRecDepth 100000 in
set_option maxHeartbeats 8000000 in
theorem acquireBalances_any (a : Aq) (x : Od) (b : Bl) (w : World) (ho : AqO w a) (hx : x.shn ≤ 8 → OdS w w.heap.size x) :
    Calls Tryz.prog 6 #[aqV a, odV x, blV b] w fun e w' => e = .returned (.bool true) ∧ Below w.heap.size w w' := by
  have B0 := hide ((((Below.refl w.heap.size w).alloc (Nat.le_refl _) (.cells (aqC a) 27)).alloc (by simp) (.cells (odC x) 35)).alloc (by simp; omega) (.cells (blC b) 43))
  have X0 := hide (((Box.new w 27 (aqC a)).alloc (.cells (odC x) 35)).alloc (.cells (blC b) 43))
  have Q0 := hide ((Box.new (w.alloc (.cells (aqC a) 27)) 35 (odC x)).alloc (.cells (blC b) 43))
  have K0 := hide (Box.new ((w.alloc (.cells (aqC a) 27)).alloc (.cells (odC x) 35)) 43 (blC b))
  simp only [World.size_alloc] at Q0 K0
  have HFIT := hide (fit_any a _ (ho.below B0.out))
  have HO := hide ho
  have HX := hide hx
  clear ho hx
  unfold aqV odV blV
  unfold aqV at HFIT
  go_enter Tryz.func6, Tryz.ntmps6
  go_wp2_with fail
  refine HFIT.out.mono ?_
  rintro e w1 ⟨q, rfl, hq, hb⟩
  have HQ := hide hq
  have B1 := hide (B0.out.trans (hb.mono B0.out.size))
  have X1 := hide (X0.out.below hb X0.out.lt)
  have Q1 := hide (Q0.out.below hb Q0.out.lt)
  have K1 := hide (K0.out.below hb K0.out.lt)
  clear hq hb HFIT
  cases q with
  | false =>
    have HAL := hide (aalive_any w1)
    go_wp2_with fail
    refine HAL.out.mono ?_
    rintro e w2 ⟨rfl, hb⟩
    have B2 := hide (B1.out.trans (hb.mono B1.out.size))
    clear hb HAL
    go_wp2
    go_ret
    exact ⟨rfl, B2.out⟩
  | true =>
    have q9 := Q1.out.cell 9
    simp at q9
    by_cases h8 : x.shn ≤ 8
    case neg =>
      have h8z : (8 : Int) < (x.shn : Int) := by omega
      have HAL := hide (aalive_any w1)
      go_wp2_with fail
      refine HAL.out.mono ?_
      rintro e w2 ⟨rfl, hb⟩
      have B2 := hide (B1.out.trans (hb.mono B1.out.size))
      clear hb HAL
      go_wp2
      go_ret
      exact ⟨rfl, B2.out⟩
    have h8z : ¬ (8 : Int) < (x.shn : Int) := by omega
    have HXS := hide (HX.out h8)
    clear h8
    have HOKP := hide (okP_iff.1 (HQ.out rfl).2)
    obtain ⟨hsm, hok⟩ := HQ.out rfl
    obtain ⟨hvf, hvo, hyr, hnx⟩ := okA_V hok
    obtain ⟨hdf, hhs⟩ := okA_D hok
    have hfn : a.fn ≤ 1000 := by have := hsm.fn; omega
    have hon : a.on ≤ 60 := by have := hsm.on; omega
    have HS1 := hide (((HO.out.st hsm).below B1.out).more B1.out.size)
    have HFM := hide hvf.M
    have HVO := hide hvo
    have HD := hide hdf
    have HH := hide hhs
    have HNX := hide hnx.1
    clear hsm hok hvf hvo hyr hnx hdf hhs HQ
    have t_1 := X1.out.cell 1
    simp at t_1
    have hc := totals_any a.fA a.fn a.fc a.f _ HS1.out.f hfn HFM.out
    have HC1 := hide hc
    clear hc
    obtain ⟨r0, hr0⟩ : ∃ r, sm (·.enc) a.f = r := ⟨_, rfl⟩
    obtain ⟨s0, hs0⟩ : ∃ s, sm (·.spent) a.f = s := ⟨_, rfl⟩
    rw [hr0, hs0] at HC1
    have hrb := sm_bd (g := (·.enc)) (m := 100000000) (fs := a.f) (fun f hf => (HFM.out f hf).e)
    have hsb := sm_bd (g := (·.spent)) (m := 100000000) (fs := a.f) (fun f hf => (HFM.out f hf).s)
    have hfl : (a.f.length : Int) ≤ 1000 := by have := HS1.out.f.len; omega
    rw [hr0] at hrb
    rw [hs0] at hsb
    have HRB := hide (show 0 ≤ r0 ∧ r0 ≤ 100000000000 by omega)
    have HSB := hide (show 0 ≤ s0 ∧ s0 ≤ 100000000000 by omega)
    have HR0 := hide hr0
    have HS0 := hide hs0
    clear hr0 hs0 hrb hsb hfl
    go_wp2_with fail
    clear q9 h8z t_1
    refine HC1.out.mono ?_
    rintro e w2 ⟨rfl, hb⟩
    have B3 := hide (B1.out.trans (hb.mono B1.out.size))
    have X4 := hide (X1.out.below hb X1.out.lt)
    have X5 := hide (Q1.out.below hb Q1.out.lt)
    have X6 := hide (K1.out.below hb K1.out.lt)
    have S7 := hide ((HS1.out.below hb).more hb.size)
    clear hb HC1
    have t_0 := X4.out.cell 0
    have t_1 := X4.out.cell 1
    have t_2 := X4.out.cell 2
    have t_3 := X4.out.cell 3
    have t_4 := X4.out.cell 4
    have t_5 := X4.out.cell 5
    simp at t_0 t_1 t_2 t_3 t_4 t_5
    have f_0 := X5.out.cell 0
    have f_1 := X5.out.cell 1
    have f_2 := X5.out.cell 2
    have f_3 := X5.out.cell 3
    have f_4 := X5.out.cell 4
    have f_5 := X5.out.cell 5
    have f_6 := X5.out.cell 6
    have f_7 := X5.out.cell 7
    have f_8 := X5.out.cell 8
    have f_9 := X5.out.cell 9
    simp at f_0 f_1 f_2 f_3 f_4 f_5 f_6 f_7 f_8 f_9
    have hc := pord_any a x _ S7.out hfn HFM.out hon ((HXS.out.below B3.out).more B3.out.size) HNX.out
    obtain ⟨er1, pa1, hr1⟩ : ∃ er pa, ordA (aqP a) x = (er, pa) := ⟨_, _, rfl⟩
    obtain ⟨m1, hm1⟩ : ∃ m, (if er1 = 0 then a.nx else 0) = m := ⟨_, rfl⟩
    rw [hr1] at hc
    have HR1 := hide hr1
    have HM1 := hide hm1
    clear hr1 hm1
    replace hc := ResB.named hc HM1.out
    unfold aqV odV at hc
    have HC8 := hide hc
    clear hc
    go_wp2_with fail
    clear t_0 t_1 t_2 t_3 t_4 t_5 f_0 f_1 f_2 f_3 f_4 f_5 f_6 f_7 f_8 f_9
    refine HC8.out.mono ?_
    rintro e w9 ⟨z1, rfl, hz, hp, hb⟩
    have B10 := hide (B3.out.trans (hb.mono B3.out.size))
    have X11 := hide (X4.out.below hb X4.out.lt)
    have X12 := hide (X5.out.below hb X5.out.lt)
    have X13 := hide (X6.out.below hb X6.out.lt)
    have S14 := hide ((S7.out.below hb).more hb.size)
    have S15 := hide hz
    have P16 := hide hp
    clear hz hp hb HC8 
    try unfold aqV
    by_cases he : er1 = 0
    case neg =>
      have he2 : (er1 == 0) = false := by simpa using he
      have B17 := hide (B10.out.alloc B10.out.size (.cells (aqC z1) 27))
      have X18 := hide (X11.out.alloc (.cells (aqC z1) 27))
      have X19 := hide (X12.out.alloc (.cells (aqC z1) 27))
      have X20 := hide (X13.out.alloc (.cells (aqC z1) 27))
      have S21 := hide ((S14.out.below ((Below.refl w9.heap.size w9).alloc (Nat.le_refl _) (.cells (aqC z1) 27))).more (B' := (w9.alloc (.cells (aqC z1) 27)).heap.size) (by simp))
      have S22 := hide ((S15.out.below ((Below.refl w9.heap.size w9).alloc (Nat.le_refl _) (.cells (aqC z1) 27))).more (B' := (w9.alloc (.cells (aqC z1) 27)).heap.size) (by simp))
      have hlt_X9_A := X11.out.lt
      have hlt_X9_F := X12.out.lt
      have hlt_X9_K := X13.out.lt
      have X23 := hide (Box.new w9 27 (aqC z1))
      have t_0 := X18.out.cell 0
      have t_1 := X18.out.cell 1
      have t_2 := X18.out.cell 2
      have t_3 := X18.out.cell 3
      have t_4 := X18.out.cell 4
      have t_5 := X18.out.cell 5
      simp at t_0 t_1 t_2 t_3 t_4 t_5
      have hlt := X18.out.lt
      have tt_0 := fun o => (World.cell?_alloc_lt (w9.alloc (.cells (aqC z1) 27)) o ⟨w.heap.size, 0, none⟩ (by exact hlt)).trans t_0
      have tt_1 := fun o => (World.cell?_alloc_lt (w9.alloc (.cells (aqC z1) 27)) o ⟨w.heap.size, 1, none⟩ (by exact hlt)).trans t_1
      have tt_2 := fun o => (World.cell?_alloc_lt (w9.alloc (.cells (aqC z1) 27)) o ⟨w.heap.size, 2, none⟩ (by exact hlt)).trans t_2
      have tt_3 := fun o => (World.cell?_alloc_lt (w9.alloc (.cells (aqC z1) 27)) o ⟨w.heap.size, 3, none⟩ (by exact hlt)).trans t_3
      have tt_4 := fun o => (World.cell?_alloc_lt (w9.alloc (.cells (aqC z1) 27)) o ⟨w.heap.size, 4, none⟩ (by exact hlt)).trans t_4
      have tt_5 := fun o => (World.cell?_alloc_lt (w9.alloc (.cells (aqC z1) 27)) o ⟨w.heap.size, 5, none⟩ (by exact hlt)).trans t_5
      have k_0 := X20.out.cell 0
      have k_1 := X20.out.cell 1
      have k_2 := X20.out.cell 2
      have k_3 := X20.out.cell 3
      have k_4 := X20.out.cell 4
      simp at k_0 k_1 k_2 k_3 k_4
      have hlk := X20.out.lt
      have kk_0 := fun o => (World.cell?_alloc_lt (w9.alloc (.cells (aqC z1) 27)) o ⟨w.heap.size + 1 + 1, 0, none⟩ (by exact hlk)).trans k_0
      have kk_1 := fun o => (World.cell?_alloc_lt (w9.alloc (.cells (aqC z1) 27)) o ⟨w.heap.size + 1 + 1, 1, none⟩ (by exact hlk)).trans k_1
      have kk_2 := fun o => (World.cell?_alloc_lt (w9.alloc (.cells (aqC z1) 27)) o ⟨w.heap.size + 1 + 1, 2, none⟩ (by exact hlk)).trans k_2
      have kk_3 := fun o => (World.cell?_alloc_lt (w9.alloc (.cells (aqC z1) 27)) o ⟨w.heap.size + 1 + 1, 3, none⟩ (by exact hlk)).trans k_3
      have kk_4 := fun o => (World.cell?_alloc_lt (w9.alloc (.cells (aqC z1) 27)) o ⟨w.heap.size + 1 + 1, 4, none⟩ (by exact hlk)).trans k_4
      obtain ⟨u0, gu, hu0⟩ : ∃ u g, getO a.o b.ord = (u, g) := ⟨_, _, rfl⟩
      have hc := rget_any a.oA a.on a.oc a.o b.ord _ S21.out.o
      rw [hu0] at hc
      unfold odV at hc
      have HC24 := hide hc
      clear hc
      have HU0 := hide hu0
      clear hu0
      go_wp2_with fail
      clear t_0 t_1 t_2 t_3 t_4 t_5 hlt tt_0 tt_1 tt_2 tt_3 tt_4 tt_5 k_0 k_1 k_2 k_3 k_4 hlk kk_0 kk_1 kk_2 kk_3 kk_4
      refine HC24.out.mono ?_
      rintro e w25 ⟨rfl, hb⟩
      have B26 := hide (B17.out.trans (hb.mono B17.out.size))
      have X27 := hide (X18.out.below hb X18.out.lt)
      have X28 := hide (X19.out.below hb X19.out.lt)
      have X29 := hide (X20.out.below hb X20.out.lt)
      have X30 := hide (X23.out.below hb X23.out.lt)
      have S31 := hide ((S21.out.below hb).more hb.size)
      have S32 := hide ((S22.out.below hb).more hb.size)
      clear hb HC24
      have t_0 := X27.out.cell 0
      have t_1 := X27.out.cell 1
      have t_2 := X27.out.cell 2
      have t_3 := X27.out.cell 3
      have t_4 := X27.out.cell 4
      have t_5 := X27.out.cell 5
      simp at t_0 t_1 t_2 t_3 t_4 t_5
      have hlt := X27.out.lt
      have tt_0 := fun o => (World.cell?_alloc_lt w25 o ⟨w.heap.size, 0, none⟩ (by exact hlt)).trans t_0
      have tt_1 := fun o => (World.cell?_alloc_lt w25 o ⟨w.heap.size, 1, none⟩ (by exact hlt)).trans t_1
      have tt_2 := fun o => (World.cell?_alloc_lt w25 o ⟨w.heap.size, 2, none⟩ (by exact hlt)).trans t_2
      have tt_3 := fun o => (World.cell?_alloc_lt w25 o ⟨w.heap.size, 3, none⟩ (by exact hlt)).trans t_3
      have tt_4 := fun o => (World.cell?_alloc_lt w25 o ⟨w.heap.size, 4, none⟩ (by exact hlt)).trans t_4
      have tt_5 := fun o => (World.cell?_alloc_lt w25 o ⟨w.heap.size, 5, none⟩ (by exact hlt)).trans t_5
      have k_0 := X29.out.cell 0
      have k_1 := X29.out.cell 1
      have k_2 := X29.out.cell 2
      have k_3 := X29.out.cell 3
      have k_4 := X29.out.cell 4
      simp at k_0 k_1 k_2 k_3 k_4
      have hlk := X29.out.lt
      have kk_0 := fun o => (World.cell?_alloc_lt w25 o ⟨w.heap.size + 1 + 1, 0, none⟩ (by exact hlk)).trans k_0
      have kk_1 := fun o => (World.cell?_alloc_lt w25 o ⟨w.heap.size + 1 + 1, 1, none⟩ (by exact hlk)).trans k_1
      have kk_2 := fun o => (World.cell?_alloc_lt w25 o ⟨w.heap.size + 1 + 1, 2, none⟩ (by exact hlk)).trans k_2
      have kk_3 := fun o => (World.cell?_alloc_lt w25 o ⟨w.heap.size + 1 + 1, 3, none⟩ (by exact hlk)).trans k_3
      have kk_4 := fun o => (World.cell?_alloc_lt w25 o ⟨w.heap.size + 1 + 1, 4, none⟩ (by exact hlk)).trans k_4
      have B33 := hide (B26.out.alloc B26.out.size (.cells (odC u0) 35))
      have X34 := hide (X27.out.alloc (.cells (odC u0) 35))
      have X35 := hide (X28.out.alloc (.cells (odC u0) 35))
      have X36 := hide (X29.out.alloc (.cells (odC u0) 35))
      have X37 := hide (X30.out.alloc (.cells (odC u0) 35))
      have S38 := hide ((S31.out.below ((Below.refl w25.heap.size w25).alloc (Nat.le_refl _) (.cells (odC u0) 35))).more (B' := (w25.alloc (.cells (odC u0) 35)).heap.size) (by simp))
      have S39 := hide ((S32.out.below ((Below.refl w25.heap.size w25).alloc (Nat.le_refl _) (.cells (odC u0) 35))).more (B' := (w25.alloc (.cells (odC u0) 35)).heap.size) (by simp))
      have hlt_X16_A := X27.out.lt
      have hlt_X16_F := X28.out.lt
      have hlt_X16_K := X29.out.lt
      have hlt_X16_X9 := X30.out.lt
      have X40 := hide (Box.new w25 35 (odC u0))
      have hc := pbil_any a b _ S38.out hfn HFM.out HVO.out
      obtain ⟨er2, pa2, hr2⟩ : ∃ er pa, bilA (aqP a) b = (er, pa) := ⟨_, _, rfl⟩
      rw [hr2] at hc
      have HR2 := hide hr2
      clear hr2
      unfold aqV blV at hc
      have HC41 := hide hc
      clear hc
      go_wp2_with fail
      clear t_0 t_1 t_2 t_3 t_4 t_5 hlt tt_0 tt_1 tt_2 tt_3 tt_4 tt_5 k_0 k_1 k_2 k_3 k_4 hlk kk_0 kk_1 kk_2 kk_3 kk_4
      refine HC41.out.mono ?_
      rintro e w42 ⟨z2, rfl, hz, hp, hb⟩
      have B43 := hide (B33.out.trans (hb.mono B33.out.size))
      have X44 := hide (X34.out.below hb X34.out.lt)
      have X45 := hide (X35.out.below hb X35.out.lt)
      have X46 := hide (X36.out.below hb X36.out.lt)
      have X47 := hide (X37.out.below hb X37.out.lt)
      have X48 := hide (X40.out.below hb X40.out.lt)
      have S49 := hide ((S38.out.below hb).more hb.size)
      have S50 := hide ((S39.out.below hb).more hb.size)
      have S51 := hide hz
      have P52 := hide hp
      clear hz hp hb HC41 
      try unfold aqV
      by_cases hf : er2 = 0
      case pos =>
        subst hf
        have hbz : (bilA (aqP a) b).1 = 0 := by rw [HR2.out]
        have hbk := bil_keepsP HOKP.out hbz
        have hbo := bil_ok HOKP.out hbz
        rw [HR2.out] at hbk hbo
        simp only at hbk hbo
        obtain ⟨i, u, g1, g2, g3, g4, g5, g6, g7, g8, g9, g10, g11, g12⟩ := hbo.fol.ex
        have hzb := hbo.z
        simp only at hzb
        have hzf : pa2.f = (folA (aqP a) (billO (aqP a).o b) b.ord b.amt).2.f := by rw [hzb]
        have hzo : pa2.o = (folA (aqP a) (billO (aqP a).o b) b.ord b.amt).2.o := by rw [hzb]
        have hbe := billE_ok g3
        have hM1 := (chkO_M g4).1
        have hM2 := (chkO_M g5).1
        have hpd := hM1.paid
        have g12 := g12 (by unfold mnyS; rw [decide_eq_true (by omega), decide_eq_true (by omega)]; rfl)
        rw [← hzf] at g11 g12
        rw [← hzo] at g7
        have hu : u = u0 := by have h := HU0.out; rw [show getO a.o b.ord = (u, true) from g6] at h; exact congrArg Prod.fst h
        subst hu
        obtain ⟨v, hv⟩ : ∃ v, billF b u = v := ⟨_, rfl⟩
        rw [hv] at g7 g11 hM2
        obtain ⟨n2, e2, e3⟩ := fn_len S51.out P52.out
        have hE : sm (·.enc) z2.f = r0 - resvO u + resvO v := by rw [e2, g11, show sm (·.enc) (aqP a).f = r0 from HR0.out]
        have hSp : sm (·.spent) z2.f = s0 + b.amt := by rw [e2, g12, show sm (·.spent) (aqP a).f = s0 from HS0.out]
        have hG : getO z2.o b.ord = (v, true) := by rw [e3]; exact g7
        have hRR : rightR z2.f = 0 := by rw [e2]; exact rightR_of hbk.f
        have hFM2 : ∀ f ∈ z2.f, FuM f := by rw [e2]; exact hbk.f.M
        have hn2 : z2.fn ≤ 1000 := by have h1 : z2.fn = pa2.f.length := n2; have := hbk.f.len; omega
        have ru := resv_bd40 hM1
        have rv := resv_bd40 hM2
        have am := hbe.2.2
        obtain ⟨ru0, hru0⟩ : ∃ r, resvO u = r := ⟨_, rfl⟩
        obtain ⟨rv0, hrv0⟩ : ∃ r, resvO v = r := ⟨_, rfl⟩
        rw [hru0] at ru hE
        rw [hrv0] at rv hE
        have HRB2 := HRB.out
        have HSB2 := HSB.out
        have w1e : IntKind.i64.wrap (s0 + b.amt) = s0 + b.amt := by rw [IntKind.wrap_i64]; omega
        have w2e : IntKind.i64.wrap (r0 - ru0) = r0 - ru0 := by rw [IntKind.wrap_i64]; omega
        have w3e : IntKind.i64.wrap (r0 - ru0 + rv0) = r0 - ru0 + rv0 := by rw [IntKind.wrap_i64]; omega
        have HMU := hide hM1
        have HMV := hide hM2
        have HE := hide hE
        have HSP := hide hSp
        have HG := hide hG
        have HRR := hide hRR
        have HFM2 := hide hFM2
        have HRU := hide hru0
        have HRV := hide hrv0
        have W1E := hide w1e
        have W2E := hide w2e
        have W3E := hide w3e
        clear hbz hbk hbo g1 g2 g3 g4 g5 g6 g7 g8 g9 g10 g11 g12 hzb hzf hzo hbe hM1 hM2 hpd hv n2 e2 e3 hE hSp hG hRR hFM2 ru rv am hru0 hrv0 HRB2 HSB2 w1e w2e w3e
        have k_0 := X46.out.cell 0
        have k_1 := X46.out.cell 1
        have k_2 := X46.out.cell 2
        have k_3 := X46.out.cell 3
        have k_4 := X46.out.cell 4
        simp at k_0 k_1 k_2 k_3 k_4
        have hlk := X46.out.lt
        have kk_0 := fun o => (World.cell?_alloc_lt w42 o ⟨w.heap.size + 1 + 1, 0, none⟩ (by exact hlk)).trans k_0
        have kk_1 := fun o => (World.cell?_alloc_lt w42 o ⟨w.heap.size + 1 + 1, 1, none⟩ (by exact hlk)).trans k_1
        have kk_2 := fun o => (World.cell?_alloc_lt w42 o ⟨w.heap.size + 1 + 1, 2, none⟩ (by exact hlk)).trans k_2
        have kk_3 := fun o => (World.cell?_alloc_lt w42 o ⟨w.heap.size + 1 + 1, 3, none⟩ (by exact hlk)).trans k_3
        have kk_4 := fun o => (World.cell?_alloc_lt w42 o ⟨w.heap.size + 1 + 1, 4, none⟩ (by exact hlk)).trans k_4
        have B53 := hide (B43.out.alloc B43.out.size (.cells (aqC z2) 27))
        have X54 := hide (X44.out.alloc (.cells (aqC z2) 27))
        have X55 := hide (X45.out.alloc (.cells (aqC z2) 27))
        have X56 := hide (X46.out.alloc (.cells (aqC z2) 27))
        have X57 := hide (X47.out.alloc (.cells (aqC z2) 27))
        have X58 := hide (X48.out.alloc (.cells (aqC z2) 27))
        have S59 := hide ((S49.out.below ((Below.refl w42.heap.size w42).alloc (Nat.le_refl _) (.cells (aqC z2) 27))).more (B' := (w42.alloc (.cells (aqC z2) 27)).heap.size) (by simp))
        have S60 := hide ((S50.out.below ((Below.refl w42.heap.size w42).alloc (Nat.le_refl _) (.cells (aqC z2) 27))).more (B' := (w42.alloc (.cells (aqC z2) 27)).heap.size) (by simp))
        have S61 := hide ((S51.out.below ((Below.refl w42.heap.size w42).alloc (Nat.le_refl _) (.cells (aqC z2) 27))).more (B' := (w42.alloc (.cells (aqC z2) 27)).heap.size) (by simp))
        have hlt_X18_A := X44.out.lt
        have hlt_X18_F := X45.out.lt
        have hlt_X18_K := X46.out.lt
        have hlt_X18_X9 := X47.out.lt
        have hlt_X18_X16 := X48.out.lt
        have X62 := hide (Box.new w42 27 (aqC z2))
        have hc := oget_any z2.oA z2.on z2.oc z2.o b.ord _ S61.out.o
        rw [HG.out] at hc
        unfold odV at hc
        have HC63 := hide hc
        clear hc
        go_wp2_with fail
        clear k_0 k_1 k_2 k_3 k_4 hlk kk_0 kk_1 kk_2 kk_3 kk_4
        refine HC63.out.mono ?_
        rintro e w64 ⟨rfl, hb⟩
        have B65 := hide (B53.out.trans (hb.mono B53.out.size))
        have X66 := hide (X54.out.below hb X54.out.lt)
        have X67 := hide (X55.out.below hb X55.out.lt)
        have X68 := hide (X56.out.below hb X56.out.lt)
        have X69 := hide (X57.out.below hb X57.out.lt)
        have X70 := hide (X58.out.below hb X58.out.lt)
        have X71 := hide (X62.out.below hb X62.out.lt)
        have S72 := hide ((S59.out.below hb).more hb.size)
        have S73 := hide ((S60.out.below hb).more hb.size)
        have S74 := hide ((S61.out.below hb).more hb.size)
        clear hb HC63
        have z_0 := X71.out.cell 0
        have z_1 := X71.out.cell 1
        have z_2 := X71.out.cell 2
        have z_3 := X71.out.cell 3
        have z_4 := X71.out.cell 4
        have z_5 := X71.out.cell 5
        simp at z_0 z_1 z_2 z_3 z_4 z_5
        have hlz := X71.out.lt
        have zz_0 := fun o => (World.cell?_alloc_lt w64 o ⟨w42.heap.size, 0, none⟩ (by exact hlz)).trans z_0
        have zz_1 := fun o => (World.cell?_alloc_lt w64 o ⟨w42.heap.size, 1, none⟩ (by exact hlz)).trans z_1
        have zz_2 := fun o => (World.cell?_alloc_lt w64 o ⟨w42.heap.size, 2, none⟩ (by exact hlz)).trans z_2
        have zz_3 := fun o => (World.cell?_alloc_lt w64 o ⟨w42.heap.size, 3, none⟩ (by exact hlz)).trans z_3
        have zz_4 := fun o => (World.cell?_alloc_lt w64 o ⟨w42.heap.size, 4, none⟩ (by exact hlz)).trans z_4
        have zz_5 := fun o => (World.cell?_alloc_lt w64 o ⟨w42.heap.size, 5, none⟩ (by exact hlz)).trans z_5
        have B75 := hide (B65.out.alloc B65.out.size (.cells (odC v) 35))
        have X76 := hide (X66.out.alloc (.cells (odC v) 35))
        have X77 := hide (X67.out.alloc (.cells (odC v) 35))
        have X78 := hide (X68.out.alloc (.cells (odC v) 35))
        have X79 := hide (X69.out.alloc (.cells (odC v) 35))
        have X80 := hide (X70.out.alloc (.cells (odC v) 35))
        have X81 := hide (X71.out.alloc (.cells (odC v) 35))
        have S82 := hide ((S72.out.below ((Below.refl w64.heap.size w64).alloc (Nat.le_refl _) (.cells (odC v) 35))).more (B' := (w64.alloc (.cells (odC v) 35)).heap.size) (by simp))
        have S83 := hide ((S73.out.below ((Below.refl w64.heap.size w64).alloc (Nat.le_refl _) (.cells (odC v) 35))).more (B' := (w64.alloc (.cells (odC v) 35)).heap.size) (by simp))
        have S84 := hide ((S74.out.below ((Below.refl w64.heap.size w64).alloc (Nat.le_refl _) (.cells (odC v) 35))).more (B' := (w64.alloc (.cells (odC v) 35)).heap.size) (by simp))
        have hlt_X20_A := X66.out.lt
        have hlt_X20_F := X67.out.lt
        have hlt_X20_K := X68.out.lt
        have hlt_X20_X9 := X69.out.lt
        have hlt_X20_X16 := X70.out.lt
        have hlt_X20_X18 := X71.out.lt
        have X85 := hide (Box.new w64 35 (odC v))
        have hc := totals_any z2.fA z2.fn z2.fc z2.f _ S84.out.f hn2 HFM2.out
        rw [HE.out] at hc
        rw [HSP.out] at hc
        have HC86 := hide hc
        clear hc
        go_wp2_with fail
        clear z_0 z_1 z_2 z_3 z_4 z_5 hlz zz_0 zz_1 zz_2 zz_3 zz_4 zz_5
        refine HC86.out.mono ?_
        rintro e w87 ⟨rfl, hb⟩
        have B88 := hide (B75.out.trans (hb.mono B75.out.size))
        have X89 := hide (X76.out.below hb X76.out.lt)
        have X90 := hide (X77.out.below hb X77.out.lt)
        have X91 := hide (X78.out.below hb X78.out.lt)
        have X92 := hide (X79.out.below hb X79.out.lt)
        have X93 := hide (X80.out.below hb X80.out.lt)
        have X94 := hide (X81.out.below hb X81.out.lt)
        have X95 := hide (X85.out.below hb X85.out.lt)
        have S96 := hide ((S82.out.below hb).more hb.size)
        have S97 := hide ((S83.out.below hb).more hb.size)
        have S98 := hide ((S84.out.below hb).more hb.size)
        clear hb HC86
        go_upto_region 15 with fail
        obtain ⟨w99, hw100⟩ : ∃ W, W = w87 := ⟨_, rfl⟩
        rw [← hw100] at B88  X89 X90 X91 X92 X93 X94 X95 S96 S97 S98 ⊢
        clear hw100
        have gK_0 := X91.out.cell 0
        have gK_1 := X91.out.cell 1
        have gK_2 := X91.out.cell 2
        have gK_3 := X91.out.cell 3
        have gK_4 := X91.out.cell 4
        simp at gK_0 gK_1 gK_2 gK_3 gK_4
        have GgK_0 := Grn.cell gK_0
        have GgK_1 := Grn.cell gK_1
        have GgK_2 := Grn.cell gK_2
        have GgK_3 := Grn.cell gK_3
        have GgK_4 := Grn.cell gK_4
        clear gK_0 gK_1 gK_2 gK_3 gK_4
        have gX16_0 := X93.out.cell 0
        have gX16_1 := X93.out.cell 1
        have gX16_2 := X93.out.cell 2
        have gX16_3 := X93.out.cell 3
        have gX16_4 := X93.out.cell 4
        have gX16_5 := X93.out.cell 5
        have gX16_6 := X93.out.cell 6
        have gX16_7 := X93.out.cell 7
        have gX16_8 := X93.out.cell 8
        have gX16_9 := X93.out.cell 9
        simp at gX16_0 gX16_1 gX16_2 gX16_3 gX16_4 gX16_5 gX16_6 gX16_7 gX16_8 gX16_9
        have GgX16_0 := Grn.cell gX16_0
        have GgX16_1 := Grn.cell gX16_1
        have GgX16_2 := Grn.cell gX16_2
        have GgX16_3 := Grn.cell gX16_3
        have GgX16_4 := Grn.cell gX16_4
        have GgX16_5 := Grn.cell gX16_5
        have GgX16_6 := Grn.cell gX16_6
        have GgX16_7 := Grn.cell gX16_7
        have GgX16_8 := Grn.cell gX16_8
        have GgX16_9 := Grn.cell gX16_9
        clear gX16_0 gX16_1 gX16_2 gX16_3 gX16_4 gX16_5 gX16_6 gX16_7 gX16_8 gX16_9
        have gX20_0 := X95.out.cell 0
        have gX20_1 := X95.out.cell 1
        have gX20_2 := X95.out.cell 2
        have gX20_3 := X95.out.cell 3
        have gX20_4 := X95.out.cell 4
        have gX20_5 := X95.out.cell 5
        have gX20_6 := X95.out.cell 6
        have gX20_7 := X95.out.cell 7
        have gX20_8 := X95.out.cell 8
        have gX20_9 := X95.out.cell 9
        simp at gX20_0 gX20_1 gX20_2 gX20_3 gX20_4 gX20_5 gX20_6 gX20_7 gX20_8 gX20_9
        have GgX20_0 := Grn.cell gX20_0
        have GgX20_1 := Grn.cell gX20_1
        have GgX20_2 := Grn.cell gX20_2
        have GgX20_3 := Grn.cell gX20_3
        have GgX20_4 := Grn.cell gX20_4
        have GgX20_5 := Grn.cell gX20_5
        have GgX20_6 := Grn.cell gX20_6
        have GgX20_7 := Grn.cell gX20_7
        have GgX20_8 := Grn.cell gX20_8
        have GgX20_9 := Grn.cell gX20_9
        clear gX20_0 gX20_1 gX20_2 gX20_3 gX20_4 gX20_5 gX20_6 gX20_7 gX20_8 gX20_9
        have gX18_0 := X94.out.cell 0
        have gX18_1 := X94.out.cell 1
        have gX18_2 := X94.out.cell 2
        have gX18_3 := X94.out.cell 3
        have gX18_4 := X94.out.cell 4
        have gX18_5 := X94.out.cell 5
        simp at gX18_0 gX18_1 gX18_2 gX18_3 gX18_4 gX18_5
        have GgX18_0 := Grn.cell gX18_0
        have GgX18_1 := Grn.cell gX18_1
        have GgX18_2 := Grn.cell gX18_2
        have GgX18_3 := Grn.cell gX18_3
        have GgX18_4 := Grn.cell gX18_4
        have GgX18_5 := Grn.cell gX18_5
        clear gX18_0 gX18_1 gX18_2 gX18_3 gX18_4 gX18_5
        have HA1 := hide (fun W => oresv_any u W (.inl HMU.out))
        have HA2 := hide (fun W => oresv_any v W (.inl HMV.out))
        have HA3 := hide (fun W (hW : Below w99.heap.size w99 W) => rright_any z2.fA z2.fn z2.fc z2.f W ((S98.out.f.below hW).more hW.size))
        rw [HRU.out] at HA1
        rw [HRV.out] at HA2
        rw [HRR.out] at HA3
        unfold odV at HA1 HA2
        have w1e := W1E.out
        have w2e := W2E.out
        have w3e := W3E.out
        refine wp_region_grn (by kernel_rfl) (by kernel_rfl) ?_
        repeat (go_big_quiet_step (first
        | (go_at_call 29; first | with_reducible exact Calls_grn (HA1.out _) | with_reducible exact Calls_grn (HA2.out _))
        | (go_at_call 31; exact Calls_grn (HA3.out _ (Grn.h _)))))
        refine wpQuiet_nil ?_
        rintro _ ⟨p, rfl⟩
        have BY := hide (B88.out.trans (p.h.mono B88.out.size))
        clear w1e w2e w3e
        have HAL := hide (aalive_any p.W)
        go_wp2_with fail
        refine HAL.out.mono ?_
        rintro e wz ⟨rfl, hb⟩
        have BZ := hide (BY.out.trans (hb.mono BY.out.size))
        clear hb HAL
        go_wp2
        go_ret
        exact ⟨rfl, BZ.out⟩
      have hf2 : (er2 == 0) = false := by simpa using hf
      have B53 := hide (B43.out.alloc B43.out.size (.cells (aqC z2) 27))
      have X54 := hide (X44.out.alloc (.cells (aqC z2) 27))
      have X55 := hide (X45.out.alloc (.cells (aqC z2) 27))
      have X56 := hide (X46.out.alloc (.cells (aqC z2) 27))
      have X57 := hide (X47.out.alloc (.cells (aqC z2) 27))
      have X58 := hide (X48.out.alloc (.cells (aqC z2) 27))
      have S59 := hide ((S49.out.below ((Below.refl w42.heap.size w42).alloc (Nat.le_refl _) (.cells (aqC z2) 27))).more (B' := (w42.alloc (.cells (aqC z2) 27)).heap.size) (by simp))
      have S60 := hide ((S50.out.below ((Below.refl w42.heap.size w42).alloc (Nat.le_refl _) (.cells (aqC z2) 27))).more (B' := (w42.alloc (.cells (aqC z2) 27)).heap.size) (by simp))
      have S61 := hide ((S51.out.below ((Below.refl w42.heap.size w42).alloc (Nat.le_refl _) (.cells (aqC z2) 27))).more (B' := (w42.alloc (.cells (aqC z2) 27)).heap.size) (by simp))
      have hlt_X18_A := X44.out.lt
      have hlt_X18_F := X45.out.lt
      have hlt_X18_K := X46.out.lt
      have hlt_X18_X9 := X47.out.lt
      have hlt_X18_X16 := X48.out.lt
      have X62 := hide (Box.new w42 27 (aqC z2))
      have HAL := hide (aalive_any (w42.alloc (.cells (aqC z2) 27)))
      go_wp2_with fail
      refine HAL.out.mono ?_
      rintro e wz ⟨rfl, hb⟩
      have BZ := hide (B53.out.trans (hb.mono B53.out.size))
      clear hb HAL
      go_wp2
      go_ret
      exact ⟨rfl, BZ.out⟩
    subst he
    have hbz : (ordA (aqP a) x).1 = 0 := by rw [HR1.out]
    have hok := ord_ok HOKP.out.f hbz
    have hgt := ord_get HOKP.out hbz
    rw [HR1.out] at hok hgt
    simp only at hok hgt
    obtain ⟨n1, e1, e3⟩ := fn_len S15.out P16.out
    obtain ⟨y, hy⟩ : ∃ y, newO (aqP a) x = y := ⟨_, rfl⟩
    have hM := hok.m
    have hrs := hok.rs
    have hse := hok.se
    have hss := hok.ss
    have hxm : 1 ≤ x.cop ∧ x.cop ≤ 99 := hM.cop
    have hxp : 1 ≤ x.pri ∧ x.pri ≤ 1000000 := hM.pri
    rw [hy] at hgt hM hrs hse
    have hE : sm (·.enc) z1.f = r0 + resvO y := by rw [e1, hse, show sm (·.enc) (aqP a).f = r0 from HR0.out]
    have hSp : sm (·.spent) z1.f = s0 := by rw [e1, hss, show sm (·.spent) (aqP a).f = s0 from HS0.out]
    have hm1 : m1 = a.nx := by rw [← HM1.out, if_pos rfl]
    have hG : getO z1.o m1 = (y, true) := by rw [e3, hm1]; exact hgt
    have hFM1 : ∀ f ∈ z1.f, FuM f := by rw [e1]; exact hok.fv.M
    have hn1 : z1.fn ≤ 1000 := by have := hok.fv.len; omega
    have ry := resv_bd40 hM
    obtain ⟨ry0, hry0⟩ : ∃ r, resvO y = r := ⟨_, rfl⟩
    rw [hry0] at ry hE hrs
    have HRB2 := HRB.out
    have w1e : IntKind.i64.wrap (r0 + ry0) = r0 + ry0 := by rw [IntKind.wrap_i64]; omega
    have w2e : IntKind.i64.wrap (x.cop * x.pri) = ry0 := by rw [← hrs, IntKind.wrap_i64]; omega
    have HMY := hide hM
    have HE1 := hide hE
    have HSP1 := hide hSp
    have HG1 := hide hG
    have HFM1 := hide hFM1
    have HRY := hide hry0
    have W1 := hide w1e
    have W2 := hide w2e
    clear hbz hok hgt n1 e1 e3 hy hM hrs hse hss hxm hxp hE hSp hm1 hG hFM1 ry hry0 HRB2 w1e w2e
    have B17 := hide (B10.out.alloc B10.out.size (.cells (aqC z1) 27))
    have X18 := hide (X11.out.alloc (.cells (aqC z1) 27))
    have X19 := hide (X12.out.alloc (.cells (aqC z1) 27))
    have X20 := hide (X13.out.alloc (.cells (aqC z1) 27))
    have S21 := hide ((S14.out.below ((Below.refl w9.heap.size w9).alloc (Nat.le_refl _) (.cells (aqC z1) 27))).more (B' := (w9.alloc (.cells (aqC z1) 27)).heap.size) (by simp))
    have S22 := hide ((S15.out.below ((Below.refl w9.heap.size w9).alloc (Nat.le_refl _) (.cells (aqC z1) 27))).more (B' := (w9.alloc (.cells (aqC z1) 27)).heap.size) (by simp))
    have hlt_X9_A := X11.out.lt
    have hlt_X9_F := X12.out.lt
    have hlt_X9_K := X13.out.lt
    have X23 := hide (Box.new w9 27 (aqC z1))
    have hc := oget_any z1.oA z1.on z1.oc z1.o m1 _ S22.out.o
    rw [HG1.out] at hc
    unfold odV at hc
    have HC24 := hide hc
    clear hc
    go_wp2_with fail
    refine HC24.out.mono ?_
    rintro e w25 ⟨rfl, hb⟩
    have B26 := hide (B17.out.trans (hb.mono B17.out.size))
    have X27 := hide (X18.out.below hb X18.out.lt)
    have X28 := hide (X19.out.below hb X19.out.lt)
    have X29 := hide (X20.out.below hb X20.out.lt)
    have X30 := hide (X23.out.below hb X23.out.lt)
    have S31 := hide ((S21.out.below hb).more hb.size)
    have S32 := hide ((S22.out.below hb).more hb.size)
    clear hb HC24
    have z_0 := X30.out.cell 0
    have z_1 := X30.out.cell 1
    have z_2 := X30.out.cell 2
    have z_3 := X30.out.cell 3
    have z_4 := X30.out.cell 4
    have z_5 := X30.out.cell 5
    simp at z_0 z_1 z_2 z_3 z_4 z_5
    have hlz := X30.out.lt
    have zz_0 := fun o => (World.cell?_alloc_lt w25 o ⟨w9.heap.size, 0, none⟩ (by exact hlz)).trans z_0
    have zz_1 := fun o => (World.cell?_alloc_lt w25 o ⟨w9.heap.size, 1, none⟩ (by exact hlz)).trans z_1
    have zz_2 := fun o => (World.cell?_alloc_lt w25 o ⟨w9.heap.size, 2, none⟩ (by exact hlz)).trans z_2
    have zz_3 := fun o => (World.cell?_alloc_lt w25 o ⟨w9.heap.size, 3, none⟩ (by exact hlz)).trans z_3
    have zz_4 := fun o => (World.cell?_alloc_lt w25 o ⟨w9.heap.size, 4, none⟩ (by exact hlz)).trans z_4
    have zz_5 := fun o => (World.cell?_alloc_lt w25 o ⟨w9.heap.size, 5, none⟩ (by exact hlz)).trans z_5
    have B33 := hide (B26.out.alloc B26.out.size (.cells (odC y) 35))
    have X34 := hide (X27.out.alloc (.cells (odC y) 35))
    have X35 := hide (X28.out.alloc (.cells (odC y) 35))
    have X36 := hide (X29.out.alloc (.cells (odC y) 35))
    have X37 := hide (X30.out.alloc (.cells (odC y) 35))
    have S38 := hide ((S31.out.below ((Below.refl w25.heap.size w25).alloc (Nat.le_refl _) (.cells (odC y) 35))).more (B' := (w25.alloc (.cells (odC y) 35)).heap.size) (by simp))
    have S39 := hide ((S32.out.below ((Below.refl w25.heap.size w25).alloc (Nat.le_refl _) (.cells (odC y) 35))).more (B' := (w25.alloc (.cells (odC y) 35)).heap.size) (by simp))
    have hlt_X12_A := X27.out.lt
    have hlt_X12_F := X28.out.lt
    have hlt_X12_K := X29.out.lt
    have hlt_X12_X9 := X30.out.lt
    have X40 := hide (Box.new w25 35 (odC y))
    have hc := totals_any z1.fA z1.fn z1.fc z1.f _ S39.out.f hn1 HFM1.out
    rw [HE1.out] at hc
    rw [HSP1.out] at hc
    have HC41 := hide hc
    clear hc
    go_wp2_with fail
    clear z_0 z_1 z_2 z_3 z_4 z_5 hlz zz_0 zz_1 zz_2 zz_3 zz_4 zz_5
    refine HC41.out.mono ?_
    rintro e w42 ⟨rfl, hb⟩
    have B43 := hide (B33.out.trans (hb.mono B33.out.size))
    have X44 := hide (X34.out.below hb X34.out.lt)
    have X45 := hide (X35.out.below hb X35.out.lt)
    have X46 := hide (X36.out.below hb X36.out.lt)
    have X47 := hide (X37.out.below hb X37.out.lt)
    have X48 := hide (X40.out.below hb X40.out.lt)
    have S49 := hide ((S38.out.below hb).more hb.size)
    have S50 := hide ((S39.out.below hb).more hb.size)
    clear hb HC41
    go_upto_region 8 with fail
    obtain ⟨w51, hw52⟩ : ∃ W, W = w42 := ⟨_, rfl⟩
    rw [← hw52] at B43  X44 X45 X46 X47 X48 S49 S50 ⊢
    clear hw52
    have gF_0 := X45.out.cell 0
    have gF_1 := X45.out.cell 1
    have gF_2 := X45.out.cell 2
    have gF_3 := X45.out.cell 3
    have gF_4 := X45.out.cell 4
    have gF_5 := X45.out.cell 5
    have gF_6 := X45.out.cell 6
    have gF_7 := X45.out.cell 7
    have gF_8 := X45.out.cell 8
    have gF_9 := X45.out.cell 9
    simp at gF_0 gF_1 gF_2 gF_3 gF_4 gF_5 gF_6 gF_7 gF_8 gF_9
    have GgF_0 := Grn.cell gF_0
    have GgF_1 := Grn.cell gF_1
    have GgF_2 := Grn.cell gF_2
    have GgF_3 := Grn.cell gF_3
    have GgF_4 := Grn.cell gF_4
    have GgF_5 := Grn.cell gF_5
    have GgF_6 := Grn.cell gF_6
    have GgF_7 := Grn.cell gF_7
    have GgF_8 := Grn.cell gF_8
    have GgF_9 := Grn.cell gF_9
    clear gF_0 gF_1 gF_2 gF_3 gF_4 gF_5 gF_6 gF_7 gF_8 gF_9
    have gX12_0 := X48.out.cell 0
    have gX12_1 := X48.out.cell 1
    have gX12_2 := X48.out.cell 2
    have gX12_3 := X48.out.cell 3
    have gX12_4 := X48.out.cell 4
    have gX12_5 := X48.out.cell 5
    have gX12_6 := X48.out.cell 6
    have gX12_7 := X48.out.cell 7
    have gX12_8 := X48.out.cell 8
    have gX12_9 := X48.out.cell 9
    simp at gX12_0 gX12_1 gX12_2 gX12_3 gX12_4 gX12_5 gX12_6 gX12_7 gX12_8 gX12_9
    have GgX12_0 := Grn.cell gX12_0
    have GgX12_1 := Grn.cell gX12_1
    have GgX12_2 := Grn.cell gX12_2
    have GgX12_3 := Grn.cell gX12_3
    have GgX12_4 := Grn.cell gX12_4
    have GgX12_5 := Grn.cell gX12_5
    have GgX12_6 := Grn.cell gX12_6
    have GgX12_7 := Grn.cell gX12_7
    have GgX12_8 := Grn.cell gX12_8
    have GgX12_9 := Grn.cell gX12_9
    clear gX12_0 gX12_1 gX12_2 gX12_3 gX12_4 gX12_5 gX12_6 gX12_7 gX12_8 gX12_9
    have HA1 := hide (fun W => oresv_any y W (.inl HMY.out))
    rw [HRY.out] at HA1
    unfold odV at HA1
    have w1e := W1.out
    have w2e := W2.out
    refine wp_region_grn (by kernel_rfl) (by kernel_rfl) ?_
    repeat (go_big_quiet_step (first | (go_at_call 29; with_reducible exact Calls_grn (HA1.out _))))
    refine wpQuiet_nil ?_
    rintro _ ⟨p, rfl⟩
    clear w1e w2e HA1 GgF_0 GgF_1 GgF_2 GgF_3 GgF_4 GgF_5 GgF_6 GgF_7 GgF_8 GgF_9 GgX12_0 GgX12_1 GgX12_2 GgX12_3 GgX12_4 GgX12_5 GgX12_6 GgX12_7 GgX12_8 GgX12_9
    obtain ⟨wp, hwp⟩ : ∃ W, W = p.W := ⟨_, rfl⟩
    have hb := p.h
    have B53 := hide (B43.out.trans (hb.mono B43.out.size))
    have X54 := hide (X44.out.below hb X44.out.lt)
    have X55 := hide (X45.out.below hb X45.out.lt)
    have X56 := hide (X46.out.below hb X46.out.lt)
    have X57 := hide (X47.out.below hb X47.out.lt)
    have X58 := hide (X48.out.below hb X48.out.lt)
    have S59 := hide ((S49.out.below hb).more hb.size)
    have S60 := hide ((S50.out.below hb).more hb.size)
    rw [← hwp] at B53 X54 X55 X56 X57 X58 S59 S60 ⊢
    clear hwp hb
    have t_0 := X54.out.cell 0
    have t_1 := X54.out.cell 1
    have t_2 := X54.out.cell 2
    have t_3 := X54.out.cell 3
    have t_4 := X54.out.cell 4
    have t_5 := X54.out.cell 5
    simp at t_0 t_1 t_2 t_3 t_4 t_5
    have hlt := X54.out.lt
    have tt_0 := fun o => (World.cell?_alloc_lt wp o ⟨w.heap.size, 0, none⟩ (by exact hlt)).trans t_0
    have tt_1 := fun o => (World.cell?_alloc_lt wp o ⟨w.heap.size, 1, none⟩ (by exact hlt)).trans t_1
    have tt_2 := fun o => (World.cell?_alloc_lt wp o ⟨w.heap.size, 2, none⟩ (by exact hlt)).trans t_2
    have tt_3 := fun o => (World.cell?_alloc_lt wp o ⟨w.heap.size, 3, none⟩ (by exact hlt)).trans t_3
    have tt_4 := fun o => (World.cell?_alloc_lt wp o ⟨w.heap.size, 4, none⟩ (by exact hlt)).trans t_4
    have tt_5 := fun o => (World.cell?_alloc_lt wp o ⟨w.heap.size, 5, none⟩ (by exact hlt)).trans t_5
    have k_0 := X56.out.cell 0
    have k_1 := X56.out.cell 1
    have k_2 := X56.out.cell 2
    have k_3 := X56.out.cell 3
    have k_4 := X56.out.cell 4
    simp at k_0 k_1 k_2 k_3 k_4
    have hlk := X56.out.lt
    have kk_0 := fun o => (World.cell?_alloc_lt wp o ⟨w.heap.size + 1 + 1, 0, none⟩ (by exact hlk)).trans k_0
    have kk_1 := fun o => (World.cell?_alloc_lt wp o ⟨w.heap.size + 1 + 1, 1, none⟩ (by exact hlk)).trans k_1
    have kk_2 := fun o => (World.cell?_alloc_lt wp o ⟨w.heap.size + 1 + 1, 2, none⟩ (by exact hlk)).trans k_2
    have kk_3 := fun o => (World.cell?_alloc_lt wp o ⟨w.heap.size + 1 + 1, 3, none⟩ (by exact hlk)).trans k_3
    have kk_4 := fun o => (World.cell?_alloc_lt wp o ⟨w.heap.size + 1 + 1, 4, none⟩ (by exact hlk)).trans k_4
    obtain ⟨u0, gu, hu0⟩ : ∃ u g, getO a.o b.ord = (u, g) := ⟨_, _, rfl⟩
    have hc := rget_any a.oA a.on a.oc a.o b.ord _ S59.out.o
    rw [hu0] at hc
    unfold odV at hc
    have HC61 := hide hc
    clear hc
    have HU0 := hide hu0
    clear hu0
    go_wp2_with fail
    clear t_0 t_1 t_2 t_3 t_4 t_5 hlt tt_0 tt_1 tt_2 tt_3 tt_4 tt_5 k_0 k_1 k_2 k_3 k_4 hlk kk_0 kk_1 kk_2 kk_3 kk_4
    refine HC61.out.mono ?_
    rintro e w62 ⟨rfl, hb⟩
    have B63 := hide (B53.out.trans (hb.mono B53.out.size))
    have X64 := hide (X54.out.below hb X54.out.lt)
    have X65 := hide (X55.out.below hb X55.out.lt)
    have X66 := hide (X56.out.below hb X56.out.lt)
    have X67 := hide (X57.out.below hb X57.out.lt)
    have X68 := hide (X58.out.below hb X58.out.lt)
    have S69 := hide ((S59.out.below hb).more hb.size)
    have S70 := hide ((S60.out.below hb).more hb.size)
    clear hb HC61
    have t_0 := X64.out.cell 0
    have t_1 := X64.out.cell 1
    have t_2 := X64.out.cell 2
    have t_3 := X64.out.cell 3
    have t_4 := X64.out.cell 4
    have t_5 := X64.out.cell 5
    simp at t_0 t_1 t_2 t_3 t_4 t_5
    have hlt := X64.out.lt
    have tt_0 := fun o => (World.cell?_alloc_lt w62 o ⟨w.heap.size, 0, none⟩ (by exact hlt)).trans t_0
    have tt_1 := fun o => (World.cell?_alloc_lt w62 o ⟨w.heap.size, 1, none⟩ (by exact hlt)).trans t_1
    have tt_2 := fun o => (World.cell?_alloc_lt w62 o ⟨w.heap.size, 2, none⟩ (by exact hlt)).trans t_2
    have tt_3 := fun o => (World.cell?_alloc_lt w62 o ⟨w.heap.size, 3, none⟩ (by exact hlt)).trans t_3
    have tt_4 := fun o => (World.cell?_alloc_lt w62 o ⟨w.heap.size, 4, none⟩ (by exact hlt)).trans t_4
    have tt_5 := fun o => (World.cell?_alloc_lt w62 o ⟨w.heap.size, 5, none⟩ (by exact hlt)).trans t_5
    have k_0 := X66.out.cell 0
    have k_1 := X66.out.cell 1
    have k_2 := X66.out.cell 2
    have k_3 := X66.out.cell 3
    have k_4 := X66.out.cell 4
    simp at k_0 k_1 k_2 k_3 k_4
    have hlk := X66.out.lt
    have kk_0 := fun o => (World.cell?_alloc_lt w62 o ⟨w.heap.size + 1 + 1, 0, none⟩ (by exact hlk)).trans k_0
    have kk_1 := fun o => (World.cell?_alloc_lt w62 o ⟨w.heap.size + 1 + 1, 1, none⟩ (by exact hlk)).trans k_1
    have kk_2 := fun o => (World.cell?_alloc_lt w62 o ⟨w.heap.size + 1 + 1, 2, none⟩ (by exact hlk)).trans k_2
    have kk_3 := fun o => (World.cell?_alloc_lt w62 o ⟨w.heap.size + 1 + 1, 3, none⟩ (by exact hlk)).trans k_3
    have kk_4 := fun o => (World.cell?_alloc_lt w62 o ⟨w.heap.size + 1 + 1, 4, none⟩ (by exact hlk)).trans k_4
    have B71 := hide (B63.out.alloc B63.out.size (.cells (odC u0) 35))
    have X72 := hide (X64.out.alloc (.cells (odC u0) 35))
    have X73 := hide (X65.out.alloc (.cells (odC u0) 35))
    have X74 := hide (X66.out.alloc (.cells (odC u0) 35))
    have X75 := hide (X67.out.alloc (.cells (odC u0) 35))
    have X76 := hide (X68.out.alloc (.cells (odC u0) 35))
    have S77 := hide ((S69.out.below ((Below.refl w62.heap.size w62).alloc (Nat.le_refl _) (.cells (odC u0) 35))).more (B' := (w62.alloc (.cells (odC u0) 35)).heap.size) (by simp))
    have S78 := hide ((S70.out.below ((Below.refl w62.heap.size w62).alloc (Nat.le_refl _) (.cells (odC u0) 35))).more (B' := (w62.alloc (.cells (odC u0) 35)).heap.size) (by simp))
    have hlt_X16_A := X64.out.lt
    have hlt_X16_F := X65.out.lt
    have hlt_X16_K := X66.out.lt
    have hlt_X16_X9 := X67.out.lt
    have hlt_X16_X12 := X68.out.lt
    have X79 := hide (Box.new w62 35 (odC u0))
    have hc := pbil_any a b _ S77.out hfn HFM.out HVO.out
    obtain ⟨er2, pa2, hr2⟩ : ∃ er pa, bilA (aqP a) b = (er, pa) := ⟨_, _, rfl⟩
    rw [hr2] at hc
    have HR2 := hide hr2
    clear hr2
    unfold aqV blV at hc
    have HC80 := hide hc
    clear hc
    go_wp2_with fail
    clear t_0 t_1 t_2 t_3 t_4 t_5 hlt tt_0 tt_1 tt_2 tt_3 tt_4 tt_5 k_0 k_1 k_2 k_3 k_4 hlk kk_0 kk_1 kk_2 kk_3 kk_4
    refine HC80.out.mono ?_
    rintro e w81 ⟨z2, rfl, hz, hp, hb⟩
    have B82 := hide (B71.out.trans (hb.mono B71.out.size))
    have X83 := hide (X72.out.below hb X72.out.lt)
    have X84 := hide (X73.out.below hb X73.out.lt)
    have X85 := hide (X74.out.below hb X74.out.lt)
    have X86 := hide (X75.out.below hb X75.out.lt)
    have X87 := hide (X76.out.below hb X76.out.lt)
    have X88 := hide (X79.out.below hb X79.out.lt)
    have S89 := hide ((S77.out.below hb).more hb.size)
    have S90 := hide ((S78.out.below hb).more hb.size)
    have S91 := hide hz
    have P92 := hide hp
    clear hz hp hb HC80 
    try unfold aqV
    by_cases hf : er2 = 0
    case pos =>
      subst hf
      have hbz : (bilA (aqP a) b).1 = 0 := by rw [HR2.out]
      have hbk := bil_keepsP HOKP.out hbz
      have hbo := bil_ok HOKP.out hbz
      rw [HR2.out] at hbk hbo
      simp only at hbk hbo
      obtain ⟨i, u, g1, g2, g3, g4, g5, g6, g7, g8, g9, g10, g11, g12⟩ := hbo.fol.ex
      have hzb := hbo.z
      simp only at hzb
      have hzf : pa2.f = (folA (aqP a) (billO (aqP a).o b) b.ord b.amt).2.f := by rw [hzb]
      have hzo : pa2.o = (folA (aqP a) (billO (aqP a).o b) b.ord b.amt).2.o := by rw [hzb]
      have hbe := billE_ok g3
      have hM1 := (chkO_M g4).1
      have hM2 := (chkO_M g5).1
      have hpd := hM1.paid
      have g12 := g12 (by unfold mnyS; rw [decide_eq_true (by omega), decide_eq_true (by omega)]; rfl)
      rw [← hzf] at g11 g12
      rw [← hzo] at g7
      have hu : u = u0 := by have h := HU0.out; rw [show getO a.o b.ord = (u, true) from g6] at h; exact congrArg Prod.fst h
      subst hu
      obtain ⟨v, hv⟩ : ∃ v, billF b u = v := ⟨_, rfl⟩
      rw [hv] at g7 g11 hM2
      obtain ⟨n2, e2, e3⟩ := fn_len S91.out P92.out
      have hE : sm (·.enc) z2.f = r0 - resvO u + resvO v := by rw [e2, g11, show sm (·.enc) (aqP a).f = r0 from HR0.out]
      have hSp : sm (·.spent) z2.f = s0 + b.amt := by rw [e2, g12, show sm (·.spent) (aqP a).f = s0 from HS0.out]
      have hG : getO z2.o b.ord = (v, true) := by rw [e3]; exact g7
      have hRR : rightR z2.f = 0 := by rw [e2]; exact rightR_of hbk.f
      have hFM2 : ∀ f ∈ z2.f, FuM f := by rw [e2]; exact hbk.f.M
      have hn2 : z2.fn ≤ 1000 := by have h1 : z2.fn = pa2.f.length := n2; have := hbk.f.len; omega
      have ru := resv_bd40 hM1
      have rv := resv_bd40 hM2
      have am := hbe.2.2
      obtain ⟨ru0, hru0⟩ : ∃ r, resvO u = r := ⟨_, rfl⟩
      obtain ⟨rv0, hrv0⟩ : ∃ r, resvO v = r := ⟨_, rfl⟩
      rw [hru0] at ru hE
      rw [hrv0] at rv hE
      have HRB2 := HRB.out
      have HSB2 := HSB.out
      have w1e : IntKind.i64.wrap (s0 + b.amt) = s0 + b.amt := by rw [IntKind.wrap_i64]; omega
      have w2e : IntKind.i64.wrap (r0 - ru0) = r0 - ru0 := by rw [IntKind.wrap_i64]; omega
      have w3e : IntKind.i64.wrap (r0 - ru0 + rv0) = r0 - ru0 + rv0 := by rw [IntKind.wrap_i64]; omega
      have HMU := hide hM1
      have HMV := hide hM2
      have HE := hide hE
      have HSP := hide hSp
      have HG := hide hG
      have HRR := hide hRR
      have HFM2 := hide hFM2
      have HRU := hide hru0
      have HRV := hide hrv0
      have W1E := hide w1e
      have W2E := hide w2e
      have W3E := hide w3e
      clear hbz hbk hbo g1 g2 g3 g4 g5 g6 g7 g8 g9 g10 g11 g12 hzb hzf hzo hbe hM1 hM2 hpd hv n2 e2 e3 hE hSp hG hRR hFM2 ru rv am hru0 hrv0 HRB2 HSB2 w1e w2e w3e
      have k_0 := X85.out.cell 0
      have k_1 := X85.out.cell 1
      have k_2 := X85.out.cell 2
      have k_3 := X85.out.cell 3
      have k_4 := X85.out.cell 4
      simp at k_0 k_1 k_2 k_3 k_4
      have hlk := X85.out.lt
      have kk_0 := fun o => (World.cell?_alloc_lt w81 o ⟨w.heap.size + 1 + 1, 0, none⟩ (by exact hlk)).trans k_0
      have kk_1 := fun o => (World.cell?_alloc_lt w81 o ⟨w.heap.size + 1 + 1, 1, none⟩ (by exact hlk)).trans k_1
      have kk_2 := fun o => (World.cell?_alloc_lt w81 o ⟨w.heap.size + 1 + 1, 2, none⟩ (by exact hlk)).trans k_2
      have kk_3 := fun o => (World.cell?_alloc_lt w81 o ⟨w.heap.size + 1 + 1, 3, none⟩ (by exact hlk)).trans k_3
      have kk_4 := fun o => (World.cell?_alloc_lt w81 o ⟨w.heap.size + 1 + 1, 4, none⟩ (by exact hlk)).trans k_4
      have B93 := hide (B82.out.alloc B82.out.size (.cells (aqC z2) 27))
      have X94 := hide (X83.out.alloc (.cells (aqC z2) 27))
      have X95 := hide (X84.out.alloc (.cells (aqC z2) 27))
      have X96 := hide (X85.out.alloc (.cells (aqC z2) 27))
      have X97 := hide (X86.out.alloc (.cells (aqC z2) 27))
      have X98 := hide (X87.out.alloc (.cells (aqC z2) 27))
      have X99 := hide (X88.out.alloc (.cells (aqC z2) 27))
      have S100 := hide ((S89.out.below ((Below.refl w81.heap.size w81).alloc (Nat.le_refl _) (.cells (aqC z2) 27))).more (B' := (w81.alloc (.cells (aqC z2) 27)).heap.size) (by simp))
      have S101 := hide ((S90.out.below ((Below.refl w81.heap.size w81).alloc (Nat.le_refl _) (.cells (aqC z2) 27))).more (B' := (w81.alloc (.cells (aqC z2) 27)).heap.size) (by simp))
      have S102 := hide ((S91.out.below ((Below.refl w81.heap.size w81).alloc (Nat.le_refl _) (.cells (aqC z2) 27))).more (B' := (w81.alloc (.cells (aqC z2) 27)).heap.size) (by simp))
      have hlt_X18_A := X83.out.lt
      have hlt_X18_F := X84.out.lt
      have hlt_X18_K := X85.out.lt
      have hlt_X18_X9 := X86.out.lt
      have hlt_X18_X12 := X87.out.lt
      have hlt_X18_X16 := X88.out.lt
      have X103 := hide (Box.new w81 27 (aqC z2))
      have hc := oget_any z2.oA z2.on z2.oc z2.o b.ord _ S102.out.o
      rw [HG.out] at hc
      unfold odV at hc
      have HC104 := hide hc
      clear hc
      go_wp2_with fail
      clear k_0 k_1 k_2 k_3 k_4 hlk kk_0 kk_1 kk_2 kk_3 kk_4
      refine HC104.out.mono ?_
      rintro e w105 ⟨rfl, hb⟩
      have B106 := hide (B93.out.trans (hb.mono B93.out.size))
      have X107 := hide (X94.out.below hb X94.out.lt)
      have X108 := hide (X95.out.below hb X95.out.lt)
      have X109 := hide (X96.out.below hb X96.out.lt)
      have X110 := hide (X97.out.below hb X97.out.lt)
      have X111 := hide (X98.out.below hb X98.out.lt)
      have X112 := hide (X99.out.below hb X99.out.lt)
      have X113 := hide (X103.out.below hb X103.out.lt)
      have S114 := hide ((S100.out.below hb).more hb.size)
      have S115 := hide ((S101.out.below hb).more hb.size)
      have S116 := hide ((S102.out.below hb).more hb.size)
      clear hb HC104
      have z_0 := X113.out.cell 0
      have z_1 := X113.out.cell 1
      have z_2 := X113.out.cell 2
      have z_3 := X113.out.cell 3
      have z_4 := X113.out.cell 4
      have z_5 := X113.out.cell 5
      simp at z_0 z_1 z_2 z_3 z_4 z_5
      have hlz := X113.out.lt
      have zz_0 := fun o => (World.cell?_alloc_lt w105 o ⟨w81.heap.size, 0, none⟩ (by exact hlz)).trans z_0
      have zz_1 := fun o => (World.cell?_alloc_lt w105 o ⟨w81.heap.size, 1, none⟩ (by exact hlz)).trans z_1
      have zz_2 := fun o => (World.cell?_alloc_lt w105 o ⟨w81.heap.size, 2, none⟩ (by exact hlz)).trans z_2
      have zz_3 := fun o => (World.cell?_alloc_lt w105 o ⟨w81.heap.size, 3, none⟩ (by exact hlz)).trans z_3
      have zz_4 := fun o => (World.cell?_alloc_lt w105 o ⟨w81.heap.size, 4, none⟩ (by exact hlz)).trans z_4
      have zz_5 := fun o => (World.cell?_alloc_lt w105 o ⟨w81.heap.size, 5, none⟩ (by exact hlz)).trans z_5
      have B117 := hide (B106.out.alloc B106.out.size (.cells (odC v) 35))
      have X118 := hide (X107.out.alloc (.cells (odC v) 35))
      have X119 := hide (X108.out.alloc (.cells (odC v) 35))
      have X120 := hide (X109.out.alloc (.cells (odC v) 35))
      have X121 := hide (X110.out.alloc (.cells (odC v) 35))
      have X122 := hide (X111.out.alloc (.cells (odC v) 35))
      have X123 := hide (X112.out.alloc (.cells (odC v) 35))
      have X124 := hide (X113.out.alloc (.cells (odC v) 35))
      have S125 := hide ((S114.out.below ((Below.refl w105.heap.size w105).alloc (Nat.le_refl _) (.cells (odC v) 35))).more (B' := (w105.alloc (.cells (odC v) 35)).heap.size) (by simp))
      have S126 := hide ((S115.out.below ((Below.refl w105.heap.size w105).alloc (Nat.le_refl _) (.cells (odC v) 35))).more (B' := (w105.alloc (.cells (odC v) 35)).heap.size) (by simp))
      have S127 := hide ((S116.out.below ((Below.refl w105.heap.size w105).alloc (Nat.le_refl _) (.cells (odC v) 35))).more (B' := (w105.alloc (.cells (odC v) 35)).heap.size) (by simp))
      have hlt_X20_A := X107.out.lt
      have hlt_X20_F := X108.out.lt
      have hlt_X20_K := X109.out.lt
      have hlt_X20_X9 := X110.out.lt
      have hlt_X20_X12 := X111.out.lt
      have hlt_X20_X16 := X112.out.lt
      have hlt_X20_X18 := X113.out.lt
      have X128 := hide (Box.new w105 35 (odC v))
      have hc := totals_any z2.fA z2.fn z2.fc z2.f _ S127.out.f hn2 HFM2.out
      rw [HE.out] at hc
      rw [HSP.out] at hc
      have HC129 := hide hc
      clear hc
      go_wp2_with fail
      clear z_0 z_1 z_2 z_3 z_4 z_5 hlz zz_0 zz_1 zz_2 zz_3 zz_4 zz_5
      refine HC129.out.mono ?_
      rintro e w130 ⟨rfl, hb⟩
      have B131 := hide (B117.out.trans (hb.mono B117.out.size))
      have X132 := hide (X118.out.below hb X118.out.lt)
      have X133 := hide (X119.out.below hb X119.out.lt)
      have X134 := hide (X120.out.below hb X120.out.lt)
      have X135 := hide (X121.out.below hb X121.out.lt)
      have X136 := hide (X122.out.below hb X122.out.lt)
      have X137 := hide (X123.out.below hb X123.out.lt)
      have X138 := hide (X124.out.below hb X124.out.lt)
      have X139 := hide (X128.out.below hb X128.out.lt)
      have S140 := hide ((S125.out.below hb).more hb.size)
      have S141 := hide ((S126.out.below hb).more hb.size)
      have S142 := hide ((S127.out.below hb).more hb.size)
      clear hb HC129
      go_upto_region 15 with fail
      obtain ⟨w143, hw144⟩ : ∃ W, W = w130 := ⟨_, rfl⟩
      rw [← hw144] at B131  X132 X133 X134 X135 X136 X137 X138 X139 S140 S141 S142 ⊢
      clear hw144
      have gK_0 := X134.out.cell 0
      have gK_1 := X134.out.cell 1
      have gK_2 := X134.out.cell 2
      have gK_3 := X134.out.cell 3
      have gK_4 := X134.out.cell 4
      simp at gK_0 gK_1 gK_2 gK_3 gK_4
      have GgK_0 := Grn.cell gK_0
      have GgK_1 := Grn.cell gK_1
      have GgK_2 := Grn.cell gK_2
      have GgK_3 := Grn.cell gK_3
      have GgK_4 := Grn.cell gK_4
      clear gK_0 gK_1 gK_2 gK_3 gK_4
      have gX16_0 := X137.out.cell 0
      have gX16_1 := X137.out.cell 1
      have gX16_2 := X137.out.cell 2
      have gX16_3 := X137.out.cell 3
      have gX16_4 := X137.out.cell 4
      have gX16_5 := X137.out.cell 5
      have gX16_6 := X137.out.cell 6
      have gX16_7 := X137.out.cell 7
      have gX16_8 := X137.out.cell 8
      have gX16_9 := X137.out.cell 9
      simp at gX16_0 gX16_1 gX16_2 gX16_3 gX16_4 gX16_5 gX16_6 gX16_7 gX16_8 gX16_9
      have GgX16_0 := Grn.cell gX16_0
      have GgX16_1 := Grn.cell gX16_1
      have GgX16_2 := Grn.cell gX16_2
      have GgX16_3 := Grn.cell gX16_3
      have GgX16_4 := Grn.cell gX16_4
      have GgX16_5 := Grn.cell gX16_5
      have GgX16_6 := Grn.cell gX16_6
      have GgX16_7 := Grn.cell gX16_7
      have GgX16_8 := Grn.cell gX16_8
      have GgX16_9 := Grn.cell gX16_9
      clear gX16_0 gX16_1 gX16_2 gX16_3 gX16_4 gX16_5 gX16_6 gX16_7 gX16_8 gX16_9
      have gX20_0 := X139.out.cell 0
      have gX20_1 := X139.out.cell 1
      have gX20_2 := X139.out.cell 2
      have gX20_3 := X139.out.cell 3
      have gX20_4 := X139.out.cell 4
      have gX20_5 := X139.out.cell 5
      have gX20_6 := X139.out.cell 6
      have gX20_7 := X139.out.cell 7
      have gX20_8 := X139.out.cell 8
      have gX20_9 := X139.out.cell 9
      simp at gX20_0 gX20_1 gX20_2 gX20_3 gX20_4 gX20_5 gX20_6 gX20_7 gX20_8 gX20_9
      have GgX20_0 := Grn.cell gX20_0
      have GgX20_1 := Grn.cell gX20_1
      have GgX20_2 := Grn.cell gX20_2
      have GgX20_3 := Grn.cell gX20_3
      have GgX20_4 := Grn.cell gX20_4
      have GgX20_5 := Grn.cell gX20_5
      have GgX20_6 := Grn.cell gX20_6
      have GgX20_7 := Grn.cell gX20_7
      have GgX20_8 := Grn.cell gX20_8
      have GgX20_9 := Grn.cell gX20_9
      clear gX20_0 gX20_1 gX20_2 gX20_3 gX20_4 gX20_5 gX20_6 gX20_7 gX20_8 gX20_9
      have gX18_0 := X138.out.cell 0
      have gX18_1 := X138.out.cell 1
      have gX18_2 := X138.out.cell 2
      have gX18_3 := X138.out.cell 3
      have gX18_4 := X138.out.cell 4
      have gX18_5 := X138.out.cell 5
      simp at gX18_0 gX18_1 gX18_2 gX18_3 gX18_4 gX18_5
      have GgX18_0 := Grn.cell gX18_0
      have GgX18_1 := Grn.cell gX18_1
      have GgX18_2 := Grn.cell gX18_2
      have GgX18_3 := Grn.cell gX18_3
      have GgX18_4 := Grn.cell gX18_4
      have GgX18_5 := Grn.cell gX18_5
      clear gX18_0 gX18_1 gX18_2 gX18_3 gX18_4 gX18_5
      have HA1 := hide (fun W => oresv_any u W (.inl HMU.out))
      have HA2 := hide (fun W => oresv_any v W (.inl HMV.out))
      have HA3 := hide (fun W (hW : Below w143.heap.size w143 W) => rright_any z2.fA z2.fn z2.fc z2.f W ((S142.out.f.below hW).more hW.size))
      rw [HRU.out] at HA1
      rw [HRV.out] at HA2
      rw [HRR.out] at HA3
      unfold odV at HA1 HA2
      have w1e := W1E.out
      have w2e := W2E.out
      have w3e := W3E.out
      refine wp_region_grn (by kernel_rfl) (by kernel_rfl) ?_
      repeat (go_big_quiet_step (first
        | (go_at_call 29; first | with_reducible exact Calls_grn (HA1.out _) | with_reducible exact Calls_grn (HA2.out _))
        | (go_at_call 31; exact Calls_grn (HA3.out _ (Grn.h _)))))
      refine wpQuiet_nil ?_
      rintro _ ⟨p, rfl⟩
      have BY := hide (B131.out.trans (p.h.mono B131.out.size))
      clear w1e w2e w3e
      have HAL := hide (aalive_any p.W)
      go_wp2_with fail
      refine HAL.out.mono ?_
      rintro e wz ⟨rfl, hb⟩
      have BZ := hide (BY.out.trans (hb.mono BY.out.size))
      clear hb HAL
      go_wp2
      go_ret
      exact ⟨rfl, BZ.out⟩
    have hf2 : (er2 == 0) = false := by simpa using hf
    have B93 := hide (B82.out.alloc B82.out.size (.cells (aqC z2) 27))
    have X94 := hide (X83.out.alloc (.cells (aqC z2) 27))
    have X95 := hide (X84.out.alloc (.cells (aqC z2) 27))
    have X96 := hide (X85.out.alloc (.cells (aqC z2) 27))
    have X97 := hide (X86.out.alloc (.cells (aqC z2) 27))
    have X98 := hide (X87.out.alloc (.cells (aqC z2) 27))
    have X99 := hide (X88.out.alloc (.cells (aqC z2) 27))
    have S100 := hide ((S89.out.below ((Below.refl w81.heap.size w81).alloc (Nat.le_refl _) (.cells (aqC z2) 27))).more (B' := (w81.alloc (.cells (aqC z2) 27)).heap.size) (by simp))
    have S101 := hide ((S90.out.below ((Below.refl w81.heap.size w81).alloc (Nat.le_refl _) (.cells (aqC z2) 27))).more (B' := (w81.alloc (.cells (aqC z2) 27)).heap.size) (by simp))
    have S102 := hide ((S91.out.below ((Below.refl w81.heap.size w81).alloc (Nat.le_refl _) (.cells (aqC z2) 27))).more (B' := (w81.alloc (.cells (aqC z2) 27)).heap.size) (by simp))
    have hlt_X18_A := X83.out.lt
    have hlt_X18_F := X84.out.lt
    have hlt_X18_K := X85.out.lt
    have hlt_X18_X9 := X86.out.lt
    have hlt_X18_X12 := X87.out.lt
    have hlt_X18_X16 := X88.out.lt
    have X103 := hide (Box.new w81 27 (aqC z2))
    have HAL := hide (aalive_any (w81.alloc (.cells (aqC z2) 27)))
    go_wp2_with fail
    refine HAL.out.mono ?_
    rintro e wz ⟨rfl, hb⟩
    have BZ := hide (B93.out.trans (hb.mono B93.out.size))
    clear hb HAL
    go_wp2
    go_ret
    exact ⟨rfl, BZ.out⟩
end Go.Proofs.YtbhndfphegflhaaGreat
