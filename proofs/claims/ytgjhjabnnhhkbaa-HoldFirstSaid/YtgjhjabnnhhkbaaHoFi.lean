/- The law HoldFirst: plain, and its walk. Printed by gen_ho_first.py. -/
import Derived.Test.YtgjhjabnnhhkbaaHoQc
namespace Go.Proofs.Ytgjhjabnnhhkbaa
open Go.RowKit

/-- What the choice is. -/
theorem pickF_spec {it br : Int} {loc : Bool} : ∀ (ys : List Ho) (f : Int), f ≠ 0 → loc = true →
    ((pickF it br loc f ys = f ∧ ∀ z ∈ ys, pkOK it z = true → z.pk ≠ br) ∨ ∃ (i : Nat) (y : Ho), ys[i]? = some y ∧ pkOK it y = true ∧ pickF it br loc f ys = y.id ∧ y.pk = br ∧ ∀ z ∈ ys.take i, pkOK it z = true → z.pk ≠ br)
  | [], f, _, _ => .inl ⟨rfl, by simp⟩
  | h :: r, f, hf, hl => by
    subst hl
    rw [pickF]
    by_cases hok : pkOK it h = true
    · rw [if_pos hok]
      by_cases hb : h.pk = br
      · rw [if_pos (by simp [hb])]
        exact .inr ⟨0, h, rfl, hok, rfl, hb, by simp⟩
      · rw [if_neg (by simpa using hb), if_neg hf]
        rcases pickF_spec (it := it) (br := br) r f hf rfl with ⟨h1, h2⟩ | ⟨i, y, h1, h2, h3, h4, h5⟩
        · refine .inl ⟨h1, fun z hz hk => ?_⟩
          rcases List.mem_cons.1 hz with rfl | hz
          · exact hb
          · exact h2 z hz hk
        · refine .inr ⟨i + 1, y, by simpa using h1, h2, h3, h4, fun z hz hk => ?_⟩
          rw [List.take_succ_cons] at hz
          rcases List.mem_cons.1 hz with rfl | hz
          · exact hb
          · exact h5 z hz hk
    · rw [if_neg hok]
      rcases pickF_spec (it := it) (br := br) r f hf rfl with ⟨h1, h2⟩ | ⟨i, y, h1, h2, h3, h4, h5⟩
      · refine .inl ⟨h1, fun z hz hk => ?_⟩
        rcases List.mem_cons.1 hz with rfl | hz
        · exact absurd hk hok
        · exact h2 z hz hk
      · refine .inr ⟨i + 1, y, by simpa using h1, h2, h3, h4, fun z hz hk => ?_⟩
        rw [List.take_succ_cons] at hz
        rcases List.mem_cons.1 hz with rfl | hz
        · exact absurd hk hok
        · exact h5 z hz hk
theorem pickF_first {it br : Int} {loc : Bool} : ∀ (ys : List Ho), (∀ y ∈ ys, y.id ≠ 0) →
    ((pickF it br loc 0 ys = 0 ∧ ∀ z ∈ ys, pkOK it z = false) ∨ ∃ (i : Nat) (y : Ho), ys[i]? = some y ∧ pkOK it y = true ∧ pickF it br loc 0 ys = y.id ∧
      (∀ z ∈ ys.take i, pkOK it z = true → loc = true ∧ z.pk ≠ br ∧ y.pk = br) ∧ (loc = true → y.pk ≠ br → ∀ z ∈ ys, pkOK it z = true → z.pk ≠ br))
  | [], _ => .inl ⟨rfl, by simp⟩
  | h :: r, hid => by
    have hr := fun y hy => hid y (List.mem_cons_of_mem _ hy)
    rw [pickF]
    by_cases hok : pkOK it h = true
    · rw [if_pos hok]
      by_cases hb : (!loc || h.pk == br) = true
      · rw [if_pos hb]
        refine .inr ⟨0, h, rfl, hok, rfl, by simp, fun hl hn => ?_⟩
        subst hl
        simp at hb
        exact absurd hb hn
      · rw [if_neg hb, if_pos rfl]
        have hl : loc = true ∧ h.pk ≠ br := by cases loc <;> simp_all
        obtain ⟨rfl, hn⟩ := hl
        rcases pickF_spec (it := it) (br := br) r h.id (hid h (by simp)) rfl with ⟨h1, h2⟩ | ⟨i, y, h1, h2, h3, h4, h5⟩
        · refine .inr ⟨0, h, rfl, hok, h1, by simp, fun _ _ z hz hk => ?_⟩
          rcases List.mem_cons.1 hz with rfl | hz
          · exact hn
          · exact h2 z hz hk
        · refine .inr ⟨i + 1, y, by simpa using h1, h2, h3, fun z hz hk => ⟨rfl, ?_, h4⟩, fun _ hx => absurd h4 hx⟩
          rw [List.take_succ_cons] at hz
          rcases List.mem_cons.1 hz with rfl | hz
          · exact hn
          · exact h5 z hz hk
    · rw [if_neg hok]
      have hok' : pkOK it h = false := by simpa using hok
      rcases pickF_first (it := it) (br := br) (loc := loc) r hr with ⟨h1, h2⟩ | ⟨i, y, h1, h2, h3, h4, h5⟩
      · refine .inl ⟨h1, fun z hz => ?_⟩
        rcases List.mem_cons.1 hz with rfl | hz
        · exact hok'
        · exact h2 z hz
      · refine .inr ⟨i + 1, y, by simpa using h1, h2, h3, fun z hz hk => ?_, fun hl hn z hz hk => ?_⟩
        · rw [List.take_succ_cons] at hz
          rcases List.mem_cons.1 hz with rfl | hz
          · exact absurd hk hok
          · exact h4 z hz hk
        · rcases List.mem_cons.1 hz with rfl | hz
          · exact absurd hk hok
          · exact h5 hl hn z hz hk
theorem que_mem {xs : List Ho} {rcd day : Int} {y : Ho} : y ∈ queH xs rcd day ↔ y ∈ xs ∧ inQ rcd day y = true := by
  unfold queH filQ; rw [isorth_mem, List.mem_filter]
theorem VldH.same {xs : List Ho} (h : VldH xs) {a b : Ho} (ha : a ∈ xs) (hb : b ∈ xs) (e : a.id = b.id) : a = b := by
  have h1 := h.get a ha
  rw [e, h.get b hb] at h1
  exact (Prod.mk.inj h1).1.symm
/-- In the queue no ID stands twice. -/
theorem que_ne {xs : List Ho} (h : VldH xs) {rcd day : Int} {i k : Nat} {y z : Ho} (hy : (queH xs rcd day)[i]? = some y) (hz : (queH xs rcd day)[k]? = some z) (hik : i ≠ k) : z.id ≠ y.id := by
  intro e
  have hyx := (que_mem.1 (List.mem_of_getElem? hy)).1
  have hzx := (que_mem.1 (List.mem_of_getElem? hz)).1
  have hzy := h.same hzx hyx e
  subst hzy
  -- the same element at two places of the queue: so at two places of its rank
  have hnd : (queH xs rcd day).Nodup := by
    have h1 : (filQ xs rcd day).Nodup := by
      unfold filQ
      refine List.Pairwise.filter _ (List.pairwise_iff_getElem.2 (fun a b ha hb hab e => ?_))
      have := chkHs_lt _ _ h.chk a b _ _ hab (List.getElem?_eq_getElem ha) (List.getElem?_eq_getElem hb)
      rw [e] at this; omega
    have h2 := (isorth_std (filQ xs rcd day)).2
    refine List.nodup_iff_count.2 (fun a => ?_)
    have h3 : (queH xs rcd day).count a = ((queH xs rcd day).filter (fun x => x.rnk == a.rnk)).count a := by rw [List.count_filter (by simp)]
    have h4 : (filQ xs rcd day).count a = ((filQ xs rcd day).filter (fun x => x.rnk == a.rnk)).count a := by rw [List.count_filter (by simp)]
    rw [h3]
    unfold queH
    rw [h2 a.rnk, ← h4]
    exact List.nodup_iff_count.1 h1 a
  obtain ⟨hi, e1⟩ := List.getElem?_eq_some_iff.1 hy
  obtain ⟨hk, e2⟩ := List.getElem?_eq_some_iff.1 hz
  rcases Nat.lt_trichotomy i k with h1 | h1 | h1
  · exact List.pairwise_iff_getElem.1 hnd i k hi hk h1 (e1.trans e2.symm)
  · exact hik h1
  · exact List.pairwise_iff_getElem.1 hnd k i hk hi h1 (e2.trans e1.symm)
theorem filter_set {p : Ho → Bool} : ∀ {xs : List Ho} {j : Nat} {y y' : Ho}, xs[j]? = some y → p y = true → p y' = false → ((xs.set j y').filter p).length + 1 = (xs.filter p).length
  | [], _, _, _, h, _, _ => by simp at h
  | x :: r, 0, y, y', h, h1, h2 => by
    simp at h; subst h
    rw [List.set_cons_zero, List.filter_cons, List.filter_cons, if_pos h1, if_neg (by simp [h2])]; rfl
  | x :: r, j + 1, y, y', h, h1, h2 => by
    have ih := filter_set (xs := r) (j := j) (by simpa using h) h1 h2
    rw [List.set_cons_succ, List.filter_cons, List.filter_cons]
    split
    · rw [List.length_cons, List.length_cons]; omega
    · exact ih
/-- Once the hold has the item, it is out of the queue. -/
theorem first_end {xs : List Ho} (hv : VldH xs) {rcd day it : Int} {y : Ho} (hy : y ∈ queH xs rcd day) :
    (catchH xs y.id it 2 0).1 ≠ 0 ∨ ∃ ms, catchH xs y.id it 2 0 = (0, ms) ∧ ms.length = xs.length ∧ (∀ x ∈ ms, 0 ≤ x.rnk ∧ x.rnk ≤ 9) ∧ posH ms (fun r => queH ms r day) y.id = 0 ∧ (queH ms rcd day).length + 1 = (queH xs rcd day).length := by
  obtain ⟨hyx, hyq⟩ := que_mem.1 hy
  rcases getH_cases xs y.id with ⟨_, _, h3⟩ | ⟨j, x, h1, h2, h3, h4, h5⟩
  · have := h3 y hyx; simp at this
  · obtain rfl : x = y := hv.same (List.mem_of_getElem? h2) hyx h3
    rw [catch_some h1 h4]
    split
    · left; simp
    · split
      · left; simp
      · split
        · left; simp
        · right
          have hjl : j < xs.length := (List.getElem?_eq_some_iff.1 h2).1
          have hout : ∀ r, inQ r day (catF it 2 0 x) = false := fun r => by unfold inQ catF; simp
          have hmem : ∀ z ∈ xs.set j (catF it 2 0 x), z = catF it 2 0 x ∨ z ∈ xs := fun z hz => by
            rcases List.mem_or_eq_of_mem_set hz with h | h
            · exact .inr h
            · exact .inl h
          refine ⟨_, rfl, List.length_set, fun z hz => ?_, ?_, ?_⟩
          · rcases hmem z hz with rfl | h
            · exact hv.rk x hyx
            · exact hv.rk z h
          · unfold posH
            have hg : (xs.set j (catF it 2 0 x))[j]? = some (catF it 2 0 x) := by rw [List.getElem?_set, if_pos rfl, if_pos hjl]
            have hno : ∀ r, ∀ z ∈ idsH (queH (xs.set j (catF it 2 0 x)) r day), (x.id == z) = false := by
              intro r z hz
              unfold idsH at hz
              obtain ⟨q, hq, rfl⟩ := List.mem_map.1 hz
              obtain ⟨hq1, hq2⟩ := que_mem.1 hq
              obtain ⟨k, hk⟩ := List.mem_iff_getElem?.1 hq1
              rcases set_at h2 hk with ⟨_, e⟩ | ⟨e, hk'⟩
              · rw [e, hout] at hq2; cases hq2
              · simp only [beq_eq_false_iff_ne]
                intro e2
                rcases Nat.lt_trichotomy k j with hkj | hkj | hkj
                · have := chkHs_lt _ _ hv.chk k j q x hkj hk' h2; omega
                · exact e hkj
                · have := chkHs_lt _ _ hv.chk j k x q hkj h2 hk'; omega
            split
            · simp only
              rw [ix_none (hno _)]; rfl
            · rfl
          · unfold queH
            rw [isorth_len, isorth_len]
            unfold filQ
            exact filter_set h2 hyq (hout rcd)

set_option maxRecDepth 100000 in
set_option maxHeartbeats 16000000 in
theorem holdFirst_any (A : Option Addr) (n c : Nat) (xs : List Ho) (it rcd br day : Int) (v2 v3 v4 v5 v6 v7 v8 v9 : Value) (loc : Bool) (w : World) (hs : Hos w w.heap.size A n c xs) :
    LawH 8 #[.slice A n c, .agg #[.int .i64 it, .int .i64 rcd, v2, v3, v4, v5, v6, v7, v8, v9], .int .i64 br, .int .i64 day, .bool loc] w := by
  unfold LawH
  obtain rfl := hs.len
  have hbig := hs.big
  have hle := hs.le
  have hsl : ∀ W, Below w.heap.size w W → Hos W W.heap.size A xs.length c xs := fun W hW => (hs.below hW).more hW.size
  have B0 := hide ((Below.refl w.heap.size w).alloc (Nat.le_refl _) (.cells #[.int .i64 it, .int .i64 rcd, v2, v3, v4, v5, v6, v7, v8, v9] 36))
  have X0 := hide (Box.new w 36 #[.int .i64 it, .int .i64 rcd, v2, v3, v4, v5, v6, v7, v8, v9])
  by_cases h60 : xs.length ≤ 60
  · have h60z : ¬ (60 : Int) < (xs.length : Int) := by omega
    have hR := fun W (hW : Below w.heap.size w W) => hright_any A _ c xs W (hsl W hW)
    by_cases hr : rightH xs = 0
    · rw [hr] at hR
      have hV := VldH.of hr
      have HR := hide hR
      have hq := fun W (hW : Below w.heap.size w W) => hQueue_any A _ c xs (queH xs rcd day) rcd day W (hsl W hW) (queD_all hV.rk (by omega)) (by have := queH_len xs rcd day; omega)
      have hp := fun W (hW : Below w.heap.size w W) => hPick_any A _ c xs (queH xs rcd day) it rcd br day v2 v3 v4 v5 v6 v7 v8 v9 loc W (hsl W hW) (queD_all hV.rk (by omega)) (by have := queH_len xs rcd day; omega)
      have hgt : ∀ (y : Ho), y ∈ queH xs rcd day → ∀ W, Below w.heap.size w W → Calls Try.prog 31 #[.slice A xs.length c, .int .i64 y.id] W fun e w' => e = .returned (.tuple #[hoV y, .bool true]) ∧ Below W.heap.size W w' := by
        intro y hy W hW
        have h := hget_any A xs.length c xs y.id W (hsl W hW)
        rw [hV.get y (que_mem.1 hy).1] at h
        exact h
      have hql := queH_len xs rcd day
      have hil : (idsH (queH xs rcd day)).length = (queH xs rcd day).length := by unfold idsH; exact List.length_map _
      rcases pickF_first (it := it) (br := br) (loc := loc) (queH xs rcd day) (fun y hy => by have := hV.ids y (que_mem.1 hy).1; omega) with ⟨hp0, hno⟩ | ⟨i, y, hyi, hyo, hpy, hbef, hloc⟩
      · have HID := hide (fun (y : Ho) (hy : y ∈ queH xs rcd day) => show y.id ≠ 0 by have := hV.ids y (que_mem.1 hy).1; omega)
        rw [hp0] at hp
        have hg0 := fun W (hW : Below w.heap.size w W) => hget_any A _ c xs 0 W (hsl W hW)
        generalize getH xs 0 = g0 at hg0
        obtain ⟨g, gb⟩ := g0
        generalize queH xs rcd day = ys at hq hgt hql hil hno HID
        unfold hoV at hg0 hgt
        simp only at hg0
        have HQ := hide hq
        have HP := hide hp
        have HG := hide hg0
        have HGT := hide hgt
        have HIL := hide hil
        have HNO := hide hno
        have hyl : ys.length ≤ 60 := by omega
        clear hq hp hg0 hgt hql hil hno hp0 hV hR hr hsl hs
        go_enter Try.func8, Try.ntmps8
        go_wp2_with fail
        refine (halive_any _).mono ?_
        rintro e w1 ⟨rfl, hb⟩
        have B1 := hide (B0.out.trans (hb.mono (by simp)))
        have X1 := hide (X0.out.below hb (by simp))
        clear hb B0 X0
        go_wp2_with fail
        refine (HR.out _ B1.out).mono ?_
        rintro e w2 ⟨rfl, hb⟩
        have B2 := hide (B1.out.trans (hb.mono B1.out.size))
        have X2 := hide (X1.out.below hb X1.out.lt)
        have r1 := X2.out.cell 1
        simp at r1
        clear hb HR B1 X1
        go_wp2_with fail
        refine (HQ.out _ B2.out).mono ?_
        rintro e w3 ⟨v, rfl, hown, hb⟩
        obtain ⟨A1, c1, e1, hs1⟩ := Ino_sl hown (by rw [HIL.out]; omega)
        subst e1
        rw [HIL.out] at hs1 ⊢
        have B3 := hide (B2.out.trans (hb.mono B2.out.size))
        have X3 := hide (X2.out.below hb X2.out.lt)
        have S3 := hide hs1
        have hle1 := hs1.le
        have hbig1 := hs1.big
        have c0 := X3.out.cell 0
        have d1 := X3.out.cell 1
        have c2 := X3.out.cell 2
        have c3 := X3.out.cell 3
        have c4 := X3.out.cell 4
        have c5 := X3.out.cell 5
        have c6 := X3.out.cell 6
        have c7 := X3.out.cell 7
        have c8 := X3.out.cell 8
        have c9 := X3.out.cell 9
        simp at c0 d1 c2 c3 c4 c5 c6 c7 c8 c9
        clear hb HQ B2 X2 hown hs1 r1
        go_wp2_with fail
        refine (HP.out _ B3.out).mono ?_
        rintro e w4 ⟨rfl, hb⟩
        have B4 := hide (B3.out.trans (hb.mono B3.out.size))
        have X4 := hide (X3.out.below hb X3.out.lt)
        have S4 := hide ((S3.out.below hb).more hb.size)
        clear hb HP B3 X3 S3 c0 d1 c2 c3 c4 c5 c6 c7 c8 c9
        go_wp2_with fail
        refine (HG.out _ B4.out).mono ?_
        rintro e w5 ⟨rfl, hb⟩
        have B5 := hide ((B4.out.trans (hb.mono B4.out.size)).alloc (Nat.le_trans B4.out.size hb.size) (.cells (hoC g) 47))
        have X5 := hide ((X4.out.below hb X4.out.lt).alloc (.cells (hoC g) 47))
        have S5 := hide (((S4.out.below hb).more hb.size).alloc (Nat.le_refl _) (.cells (hoC g) 47))
        have P5 := hide (Box.new w5 47 (hoC g))
        have hxw : w.heap.size < w5.heap.size := Nat.lt_of_lt_of_le X4.out.lt hb.size
        have Z5 := hide (Below.refl (w5.heap.size + 1) (w5.alloc (.cells (hoC g) 47)))
        clear hb B4 X4 S4 HG
        go_wp2
        go_loopw [15, 16] (fun s15 s16 wr => ∃ k : Nat, k ≤ ys.length ∧ s16 = .int .i64 k ∧ s15 = .bool true ∧ Below (w5.heap.size + 1) (w5.alloc (.cells (hoC g) 47)) wr) (fun _ s16 _ => ys.length - (intOf s16).toNat)
        case atStart => exact ⟨0, Nat.zero_le _, rfl, rfl, Z5.out⟩
        case round =>
          obtain ⟨k, hk, rfl, rfl, hb⟩ := hrel
          have Z6 := hide hb
          clear hb
          by_cases hlt : k < ys.length
          · obtain ⟨b, off, u, rfl, hbB, hu, c0⟩ := Is_at ((S5.out.more (Nat.le_succ _)).below Z6.out) hlt
            obtain ⟨z, hz⟩ : ∃ z, ys[k]? = some z := ⟨_, List.getElem?_eq_getElem hlt⟩
            have hz2 : u = z.id := by
              unfold idsH at hu
              rw [List.getElem?_map, hz] at hu
              exact (Option.some.inj hu).symm
            subst hz2
            have hzm := List.mem_of_getElem? hz
            have hbw : Below w.heap.size w wr := B5.out.trans (Z6.out.mono (by omega))
            have hG := HGT.out z hzm wr hbw
            have HG := hide hG
            have hkz : (k : Int) < (ys.length : Int) := by omega
            have hok := HNO.out z hzm
            have h12 : (z.itm != 0) = true ∧ (z.itm != it) = true := by
              unfold pkOK at hok
              cases h1 : (z.itm != 0) <;> cases h2 : (z.itm != it) <;> simp_all
            obtain ⟨h1, h2⟩ := h12
            have hid : (z.id == 0) = false := by have := HID.out z hzm; simpa using this
            clear hz hzm hu hG hok hbw
            go_wp2_with fail
            refine HG.out.mono ?_
            rintro e w6 ⟨rfl, hb⟩
            have hz6 : w5.heap.size + 1 ≤ wr.heap.size := by have := Z6.out.size; simpa using this
            have hw6 : w5.heap.size + 1 ≤ w6.heap.size := Nat.le_trans hz6 hb.size
            have ZA := hide ((Z6.out.trans (hb.mono hz6)).alloc hw6 (.cells (hoC z) 47))
            have hbx := (X5.out.below Z6.out (by omega)).below hb (by omega)
            have hpx := (P5.out.below Z6.out (by omega)).below hb (by omega)
            have hcb := (hb.cell (p := ⟨b, off + k, none⟩) (by show b < _; omega)).trans c0
            have i0 := hbx.cell 0
            have p4 := hpx.cell 4
            simp at i0 p4
            have i0' := fun o => (World.cell?_alloc_lt w6 o ⟨w.heap.size, 0, none⟩ (by show w.heap.size < _; omega)).trans i0
            have p4' := fun o => (World.cell?_alloc_lt w6 o ⟨w5.heap.size, 4, none⟩ (by show w5.heap.size < _; omega)).trans p4
            have hcb' := fun o => (World.cell?_alloc_lt w6 o ⟨b, off + k, none⟩ (by show b < _; omega)).trans hcb
            clear hbx hpx hb HG c0
            go_wp2
            go_roundw
            case rel => exact ⟨k + 1, by omega, by go_num, rfl, ZA.out⟩
            case measure => simp [intOf]; omega
          · have hkz : ¬ (k : Int) < (ys.length : Int) := by omega
            have BE := hide (B5.out.trans (Z6.out.mono (by omega)))
            go_wp2
            go_ret
            exact ⟨rfl, BE.out⟩
      · have hym := List.mem_of_getElem? hyi
        have hg0 := hgt y hym
        have hct := fun W (hW : Below w.heap.size w W) => hcatch_any A _ c xs y.id it 2 0 W (hsl W hW) (by omega)
        have hend := first_end hV (it := it) hym
        have hne := fun k z (hz : (queH xs rcd day)[k]? = some z) (hik : i ≠ k) => que_ne hV hyi hz hik
        have hy0 : (y.id == 0) = false := by have := hV.ids y (que_mem.1 hym).1; simp; omega
        rw [hpy] at hp
        have hmq := fun (ms : List Ho) (hm1 : ms.length = xs.length) (hm2 : ∀ x ∈ ms, 0 ≤ x.rnk ∧ x.rnk ≤ 9) (A' : Option Addr) (n' c' : Nat) (W : World) (h : Hos W W.heap.size A' n' c' ms) => And.intro
          (hPosition_any A' n' c' ms (fun r => queH ms r day) y.id day W h (fun r _ _ => queD_all hm2 (by omega)) (fun r => by have := queH_len ms r day; omega))
          (fun W' (hb : Below W.heap.size W W') => hQueue_any A' n' c' ms (queH ms rcd day) rcd day W' ((h.below hb).more hb.size) (queD_all hm2 (by omega)) (by have := queH_len ms rcd day; omega))
        generalize hyz : queH xs rcd day = ys at hq hgt hql hil hyi hbef hloc hend hne hym
        generalize catchH xs y.id it 2 0 = r at hct hend
        have hyl : ys.length ≤ 60 := by omega
        have hil2 : i < ys.length := (List.getElem?_eq_some_iff.1 hyi).1
        unfold hoV at hg0 hgt
        have HQ := hide hq
        have HP := hide hp
        have HG := hide hg0
        have HGT := hide hgt
        have HIL := hide hil
        have HYI := hide hyi
        have HBF := hide hbef
        have HLC := hide hloc
        have HCT := hide hct
        have HEND := hide hend
        have HNE := hide hne
        have HMQ := hide hmq
        have HYO := hide hyo
        clear hq hp hg0 hgt hql hil hyi hbef hloc hct hend hne hmq hyo hym hpy hV hR hr hsl hs hyz
        go_enter Try.func8, Try.ntmps8
        go_wp2_with fail
        refine (halive_any _).mono ?_
        rintro e w1 ⟨rfl, hb⟩
        have B1 := hide (B0.out.trans (hb.mono (by simp)))
        have X1 := hide (X0.out.below hb (by simp))
        clear hb B0 X0
        go_wp2_with fail
        refine (HR.out _ B1.out).mono ?_
        rintro e w2 ⟨rfl, hb⟩
        have B2 := hide (B1.out.trans (hb.mono B1.out.size))
        have X2 := hide (X1.out.below hb X1.out.lt)
        have r1 := X2.out.cell 1
        simp at r1
        clear hb HR B1 X1
        go_wp2_with fail
        refine (HQ.out _ B2.out).mono ?_
        rintro e w3 ⟨v, rfl, hown, hb⟩
        obtain ⟨A1, c1, e1, hs1⟩ := Ino_sl hown (by rw [HIL.out]; omega)
        subst e1
        rw [HIL.out] at hs1 ⊢
        have B3 := hide (B2.out.trans (hb.mono B2.out.size))
        have X3 := hide (X2.out.below hb X2.out.lt)
        have S3 := hide hs1
        have hle1 := hs1.le
        have hbig1 := hs1.big
        have c0 := X3.out.cell 0
        have d1 := X3.out.cell 1
        have c2 := X3.out.cell 2
        have c3 := X3.out.cell 3
        have c4 := X3.out.cell 4
        have c5 := X3.out.cell 5
        have c6 := X3.out.cell 6
        have c7 := X3.out.cell 7
        have c8 := X3.out.cell 8
        have c9 := X3.out.cell 9
        simp at c0 d1 c2 c3 c4 c5 c6 c7 c8 c9
        clear hb HQ B2 X2 hown hs1 r1
        go_wp2_with fail
        refine (HP.out _ B3.out).mono ?_
        rintro e w4 ⟨rfl, hb⟩
        have B4 := hide (B3.out.trans (hb.mono B3.out.size))
        have X4 := hide (X3.out.below hb X3.out.lt)
        have S4 := hide ((S3.out.below hb).more hb.size)
        clear hb HP B3 X3 S3 c0 d1 c2 c3 c4 c5 c6 c7 c8 c9
        go_wp2_with fail
        refine (HG.out _ B4.out).mono ?_
        rintro e w5 ⟨rfl, hb⟩
        have B5 := hide ((B4.out.trans (hb.mono B4.out.size)).alloc (Nat.le_trans B4.out.size hb.size) (.cells (hoC y) 47))
        have X5 := hide ((X4.out.below hb X4.out.lt).alloc (.cells (hoC y) 47))
        have S5 := hide (((S4.out.below hb).more hb.size).alloc (Nat.le_refl _) (.cells (hoC y) 47))
        have P5 := hide (Box.new w5 47 (hoC y))
        have hxw : w.heap.size < w5.heap.size := Nat.lt_of_lt_of_le X4.out.lt hb.size
        have Z5 := hide (Below.refl (w5.heap.size + 1) (w5.alloc (.cells (hoC y) 47)))
        clear hb B4 X4 S4 HG
        go_wp2
        go_loopw [15, 16] (fun s15 s16 wr => ∃ k : Nat, k ≤ ys.length ∧ s16 = .int .i64 k ∧ s15 = .bool (decide (i < k)) ∧ Below (w5.heap.size + 1) (w5.alloc (.cells (hoC y) 47)) wr) (fun _ s16 _ => ys.length - (intOf s16).toNat)
        case atStart => exact ⟨0, Nat.zero_le _, rfl, by simp, Z5.out⟩
        case round =>
          obtain ⟨k, hk, rfl, hst, hb⟩ := hrel
          have Z6 := hide hb
          clear hb
          by_cases hlt : k < ys.length
          · obtain ⟨b, off, u, rfl, hbB, hu, c0⟩ := Is_at ((S5.out.more (Nat.le_succ _)).below Z6.out) hlt
            obtain ⟨z, hz⟩ : ∃ z, ys[k]? = some z := ⟨_, List.getElem?_eq_getElem hlt⟩
            have hz2 : u = z.id := by
              unfold idsH at hu
              rw [List.getElem?_map, hz] at hu
              exact (Option.some.inj hu).symm
            subst hz2
            have hzm := List.mem_of_getElem? hz
            have hbw : Below w.heap.size w wr := B5.out.trans (Z6.out.mono (by omega))
            have hG := HGT.out z hzm wr hbw
            have HG := hide hG
            have hkz : (k : Int) < (ys.length : Int) := by omega
            rcases Nat.lt_trichotomy k i with hki | hki | hki
            · have hst2 : decide (i < k) = false := by simp; omega
              rw [hst2] at hst
              subst hst
              have hidn : (z.id == y.id) = false := by have := HNE.out k z hz (by omega); simpa using this
              by_cases hok : pkOK it z = true
              · obtain ⟨rfl, hzb, hyb⟩ := HBF.out z (List.mem_of_getElem? (i := k) (by rw [List.getElem?_take, if_pos hki]; exact hz)) hok
                have q1 : (z.pk == y.pk) = false := by rw [hyb]; simpa using hzb
                have q2 : (z.pk == br) = false := by simpa using hzb
                have q3 : (y.pk != br) = false := by simpa using hyb
                have hcase : (z.itm != 0) = false ∨ ((z.itm != 0) = true ∧ (z.itm != it) = false) := by
                  unfold pkOK at hok
                  cases h1 : (z.itm != 0) <;> cases h2 : (z.itm != it) <;> simp_all
                clear hz hzm hu hG hok hbw hzb hyb hst2
                go_wp2_with fail
                refine HG.out.mono ?_
                rintro e w6 ⟨rfl, hb⟩
                have hz6 : w5.heap.size + 1 ≤ wr.heap.size := by have := Z6.out.size; simpa using this
                have hw6 : w5.heap.size + 1 ≤ w6.heap.size := Nat.le_trans hz6 hb.size
                have ZA := hide ((Z6.out.trans (hb.mono hz6)).alloc hw6 (.cells (hoC z) 47))
                have hbx := (X5.out.below Z6.out (by omega)).below hb (by omega)
                have hpx := (P5.out.below Z6.out (by omega)).below hb (by omega)
                have hcb := (hb.cell (p := ⟨b, off + k, none⟩) (by show b < _; omega)).trans c0
                have i0 := hbx.cell 0
                have p4 := hpx.cell 4
                simp at i0 p4
                have i0' := fun o => (World.cell?_alloc_lt w6 o ⟨w.heap.size, 0, none⟩ (by show w.heap.size < _; omega)).trans i0
                have p4' := fun o => (World.cell?_alloc_lt w6 o ⟨w5.heap.size, 4, none⟩ (by show w5.heap.size < _; omega)).trans p4
                have hcb' := fun o => (World.cell?_alloc_lt w6 o ⟨b, off + k, none⟩ (by show b < _; omega)).trans hcb
                clear hbx hpx hb HG c0
                rcases hcase with h1 | ⟨h1, h2⟩
                all_goals
                  go_wp2
                  go_roundw
                  case rel => exact ⟨k + 1, by omega, by go_num, by simp; omega, ZA.out⟩
                  case measure => simp [intOf]; omega
              · have hok' : pkOK it z = false := by simpa using hok
                have h12 : (z.itm != 0) = true ∧ (z.itm != it) = true := by
                  unfold pkOK at hok'
                  cases h1 : (z.itm != 0) <;> cases h2 : (z.itm != it) <;> simp_all
                obtain ⟨h1, h2⟩ := h12
                clear hz hzm hu hG hok hok' hbw hst2
                go_wp2_with fail
                refine HG.out.mono ?_
                rintro e w6 ⟨rfl, hb⟩
                have hz6 : w5.heap.size + 1 ≤ wr.heap.size := by have := Z6.out.size; simpa using this
                have hw6 : w5.heap.size + 1 ≤ w6.heap.size := Nat.le_trans hz6 hb.size
                have ZA := hide ((Z6.out.trans (hb.mono hz6)).alloc hw6 (.cells (hoC z) 47))
                have hbx := (X5.out.below Z6.out (by omega)).below hb (by omega)
                have hpx := (P5.out.below Z6.out (by omega)).below hb (by omega)
                have hcb := (hb.cell (p := ⟨b, off + k, none⟩) (by show b < _; omega)).trans c0
                have i0 := hbx.cell 0
                have p4 := hpx.cell 4
                simp at i0 p4
                have i0' := fun o => (World.cell?_alloc_lt w6 o ⟨w.heap.size, 0, none⟩ (by show w.heap.size < _; omega)).trans i0
                have p4' := fun o => (World.cell?_alloc_lt w6 o ⟨w5.heap.size, 4, none⟩ (by show w5.heap.size < _; omega)).trans p4
                have hcb' := fun o => (World.cell?_alloc_lt w6 o ⟨b, off + k, none⟩ (by show b < _; omega)).trans hcb
                clear hbx hpx hb HG c0
                go_wp2
                go_roundw
                case rel => exact ⟨k + 1, by omega, by go_num, by simp; omega, ZA.out⟩
                case measure => simp [intOf]; omega
            · subst hki
              have hst2 : decide (k < k) = false := by simp
              rw [hst2] at hst
              subst hst
              obtain rfl : z = y := by have h := HYI.out; rw [hz] at h; exact Option.some.inj h
              have hok := HYO.out
              have hidn : (z.id == z.id) = true := by simp
              have hcs : loc = false ∨ (loc = true ∧ (z.pk == br) = false) ∨ (loc = true ∧ (z.pk == br) = true ∧ (z.pk != br) = false) := by
                cases loc
                · exact .inl rfl
                · by_cases e : z.pk = br
                  · exact .inr (.inr ⟨rfl, by simpa using e, by simpa using e⟩)
                  · exact .inr (.inl ⟨rfl, by simpa using e⟩)
              have hcase : (z.itm != 0) = false ∨ ((z.itm != 0) = true ∧ (z.itm != it) = false) := by
                unfold pkOK at hok
                cases h1 : (z.itm != 0) <;> cases h2 : (z.itm != it) <;> simp_all
              clear hz hzm hu hG hok hbw hst2
              go_wp2_with fail
              refine HG.out.mono ?_
              rintro e w6 ⟨rfl, hb⟩
              have hz6 : w5.heap.size + 1 ≤ wr.heap.size := by have := Z6.out.size; simpa using this
              have hw6 : w5.heap.size + 1 ≤ w6.heap.size := Nat.le_trans hz6 hb.size
              have ZA := hide ((Z6.out.trans (hb.mono hz6)).alloc hw6 (.cells (hoC z) 47))
              have hbx := (X5.out.below Z6.out (by omega)).below hb (by omega)
              have hpx := (P5.out.below Z6.out (by omega)).below hb (by omega)
              have hcb := (hb.cell (p := ⟨b, off + k, none⟩) (by show b < _; omega)).trans c0
              have i0 := hbx.cell 0
              have p4 := hpx.cell 4
              simp at i0 p4
              have i0' := fun o => (World.cell?_alloc_lt w6 o ⟨w.heap.size, 0, none⟩ (by show w.heap.size < _; omega)).trans i0
              have p4' := fun o => (World.cell?_alloc_lt w6 o ⟨w5.heap.size, 4, none⟩ (by show w5.heap.size < _; omega)).trans p4
              have hcb' := fun o => (World.cell?_alloc_lt w6 o ⟨b, off + k, none⟩ (by show b < _; omega)).trans hcb
              clear hbx hpx hb HG c0
              rcases hcs with rfl | ⟨rfl, q1⟩ | ⟨rfl, q1, q2⟩
              all_goals
                rcases hcase with h1 | ⟨h1, h2⟩
                all_goals
                  go_wp2
                  go_roundw
                  case rel => exact ⟨k + 1, by omega, by go_num, by simp, ZA.out⟩
                  case measure => simp [intOf]; omega
            · have hst2 : decide (i < k) = true := by simp; omega
              rw [hst2] at hst
              subst hst
              have hidn : (z.id == y.id) = false := by have := HNE.out k z hz (by omega); simpa using this
              by_cases hok : pkOK it z = true
              · have hcs : loc = false ∨ (loc = true ∧ (z.pk == br) = false) ∨ (loc = true ∧ (z.pk == br) = true ∧ (y.pk != br) = false) := by
                  cases hl : loc
                  · exact .inl rfl
                  · by_cases e : z.pk = br
                    · refine .inr (.inr ⟨rfl, by simpa using e, ?_⟩)
                      by_cases e2 : y.pk = br
                      · simpa using e2
                      · exact absurd e (HLC.out hl e2 z hzm hok)
                    · exact .inr (.inl ⟨rfl, by simpa using e⟩)
                have hcase : (z.itm != 0) = false ∨ ((z.itm != 0) = true ∧ (z.itm != it) = false) := by
                  unfold pkOK at hok
                  cases h1 : (z.itm != 0) <;> cases h2 : (z.itm != it) <;> simp_all
                clear hz hzm hu hG hok hbw hst2
                go_wp2_with fail
                refine HG.out.mono ?_
                rintro e w6 ⟨rfl, hb⟩
                have hz6 : w5.heap.size + 1 ≤ wr.heap.size := by have := Z6.out.size; simpa using this
                have hw6 : w5.heap.size + 1 ≤ w6.heap.size := Nat.le_trans hz6 hb.size
                have ZA := hide ((Z6.out.trans (hb.mono hz6)).alloc hw6 (.cells (hoC z) 47))
                have hbx := (X5.out.below Z6.out (by omega)).below hb (by omega)
                have hpx := (P5.out.below Z6.out (by omega)).below hb (by omega)
                have hcb := (hb.cell (p := ⟨b, off + k, none⟩) (by show b < _; omega)).trans c0
                have i0 := hbx.cell 0
                have p4 := hpx.cell 4
                simp at i0 p4
                have i0' := fun o => (World.cell?_alloc_lt w6 o ⟨w.heap.size, 0, none⟩ (by show w.heap.size < _; omega)).trans i0
                have p4' := fun o => (World.cell?_alloc_lt w6 o ⟨w5.heap.size, 4, none⟩ (by show w5.heap.size < _; omega)).trans p4
                have hcb' := fun o => (World.cell?_alloc_lt w6 o ⟨b, off + k, none⟩ (by show b < _; omega)).trans hcb
                clear hbx hpx hb HG c0
                rcases hcs with rfl | ⟨rfl, q1⟩ | ⟨rfl, q1, q2⟩
                all_goals
                  rcases hcase with h1 | ⟨h1, h2⟩
                  all_goals
                    go_wp2
                    go_roundw
                    case rel => exact ⟨k + 1, by omega, by go_num, by simp; omega, ZA.out⟩
                    case measure => simp [intOf]; omega
              · have hok' : pkOK it z = false := by simpa using hok
                have h12 : (z.itm != 0) = true ∧ (z.itm != it) = true := by
                  unfold pkOK at hok'
                  cases h1 : (z.itm != 0) <;> cases h2 : (z.itm != it) <;> simp_all
                obtain ⟨h1, h2⟩ := h12
                clear hz hzm hu hG hok hok' hbw hst2
                go_wp2_with fail
                refine HG.out.mono ?_
                rintro e w6 ⟨rfl, hb⟩
                have hz6 : w5.heap.size + 1 ≤ wr.heap.size := by have := Z6.out.size; simpa using this
                have hw6 : w5.heap.size + 1 ≤ w6.heap.size := Nat.le_trans hz6 hb.size
                have ZA := hide ((Z6.out.trans (hb.mono hz6)).alloc hw6 (.cells (hoC z) 47))
                have hbx := (X5.out.below Z6.out (by omega)).below hb (by omega)
                have hpx := (P5.out.below Z6.out (by omega)).below hb (by omega)
                have hcb := (hb.cell (p := ⟨b, off + k, none⟩) (by show b < _; omega)).trans c0
                have i0 := hbx.cell 0
                have p4 := hpx.cell 4
                simp at i0 p4
                have i0' := fun o => (World.cell?_alloc_lt w6 o ⟨w.heap.size, 0, none⟩ (by show w.heap.size < _; omega)).trans i0
                have p4' := fun o => (World.cell?_alloc_lt w6 o ⟨w5.heap.size, 4, none⟩ (by show w5.heap.size < _; omega)).trans p4
                have hcb' := fun o => (World.cell?_alloc_lt w6 o ⟨b, off + k, none⟩ (by show b < _; omega)).trans hcb
                clear hbx hpx hb HG c0
                go_wp2
                go_roundw
                case rel => exact ⟨k + 1, by omega, by go_num, by simp; omega, ZA.out⟩
                case measure => simp [intOf]; omega
          · have hkz : ¬ (k : Int) < (ys.length : Int) := by omega
            have hst2 : decide (i < k) = true := by simp; omega
            rw [hst2] at hst
            subst hst
            have BE := hide (B5.out.trans (Z6.out.mono (by omega)))
            have XE := X5.out.below Z6.out (by omega)
            have i0 := XE.cell 0
            simp at i0
            have XE := hide XE
            clear hst2
            go_wp2_with fail
            refine (HCT.out _ BE.out).mono ?_
            rintro e w7 ⟨A7, n7, c7, rfl, hsl7, hb⟩
            have B7 := hide (BE.out.trans (hb.mono BE.out.size))
            have X7 := hide (XE.out.below hb XE.out.lt)
            rcases HEND.out with hne | ⟨ms, hms, hm1, hm2, hm3, hm4⟩
            · have hne' : (r.1 != 0) = true := by simpa using hne
              clear hb hsl7 hne i0
              go_wp2
              go_ret
              exact ⟨rfl, B7.out⟩
            · subst hms
              have hml : ms.length = n7 := hsl7.len
              obtain ⟨hps, hqs⟩ := HMQ.out ms hm1 hm2 A7 n7 c7 w7 hsl7
              rw [hm3] at hps
              have HPS := hide hps
              have HQS := hide hqs
              have hln : (idsH (queH ms rcd day)).length = (queH ms rcd day).length := by unfold idsH; exact List.length_map _
              have hm5 : (queH ms rcd day).length ≤ 60 := by omega
              obtain ⟨ns, hns⟩ : ∃ ns, queH ms rcd day = ns := ⟨_, rfl⟩
              rw [hns] at HQS hln hm4 hm5
              have HLN := hide hln
              have hlz : ((ys.length : Int) - 1) = (ns.length : Int) := by omega
              have hlw : IntKind.i64.wrap (ns.length : Int) = (ns.length : Int) := by rw [IntKind.wrap_i64]; omega
              clear hb hsl7 hm1 hm2 hm3 hm4 hps hqs hln hns hml i0
              go_wp2_with fail
              refine HPS.out.mono ?_
              rintro e w8 ⟨rfl, hb⟩
              have B8 := hide (B7.out.trans (hb.mono B7.out.size))
              have X8 := hide (X7.out.below hb X7.out.lt)
              have r1 := X8.out.cell 1
              simp at r1
              have HQ8 := hide (HQS.out w8 hb)
              clear hb
              go_wp2_with fail
              refine HQ8.out.mono ?_
              rintro e w9 ⟨v, rfl, hown, hb⟩
              obtain ⟨A9, c9, e9, hs9⟩ := Ino_sl hown (by rw [HLN.out]; omega)
              subst e9
              rw [HLN.out]
              have B9 := hide (B8.out.trans (hb.mono B8.out.size))
              clear hb hown hs9 r1
              go_wp2
              go_ret
              exact ⟨rfl, B9.out⟩
    · have hne : (rightH xs != 0) = true := by simpa using hr
      generalize rightH xs = r at hR hne
      have HR := hide hR
      clear hR hr hsl hs
      go_enter Try.func8, Try.ntmps8
      go_wp2_with fail
      refine (halive_any _).mono ?_
      rintro e w1 ⟨rfl, hb⟩
      have B1 := hide (B0.out.trans (hb.mono (by simp)))
      clear hb
      go_wp2_with fail
      all_goals try (exfalso; omega)
      refine (HR.out _ B1.out).mono ?_
      rintro e w2 ⟨rfl, hb⟩
      have B2 := hide (B1.out.trans (hb.mono B1.out.size))
      clear hb
      go_wp2
      go_ret
      exact ⟨rfl, B2.out⟩
  · have h60z : (60 : Int) < (xs.length : Int) := by omega
    clear hsl hs
    go_enter Try.func8, Try.ntmps8
    go_wp2_with fail
    refine (halive_any _).mono ?_
    rintro e w1 ⟨rfl, hb⟩
    have B1 := hide (B0.out.trans (hb.mono (by simp)))
    clear hb
    go_wp2
    go_ret
    exact ⟨rfl, B1.out⟩
end Go.Proofs.Ytgjhjabnnhhkbaa
