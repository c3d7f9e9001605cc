/- Walks: slices.SortStableFunc of fewer than 20 holds (one block: an insertion sort). -/
import Derived.Test.YtgjhjabnnhhkbaaHoKit
import Derived.BigRegion
import Derived.BigQuiet
import Derived.Deep.QuietTactic
namespace Go.Proofs.Ytgjhjabnnhhkbaa
open Go.RowKit

/-! ### plain -/
def insKh (cf : Ho → Ho → Int) (x : Ho) (P : List Ho) : Nat → Nat
  | 0 => 0
  | j + 1 => if cf x (P.getD j ho0) < 0 then insKh cf x P j else j + 1
def insFh (cf : Ho → Ho → Int) (x : Ho) (P : List Ho) : List Ho := P.take (insKh cf x P P.length) ++ x :: P.drop (insKh cf x P P.length)
def isorth (cf : Ho → Ho → Int) (d : List Ho) : List Ho := d.foldl (fun P x => insFh cf x P) []
theorem insKh_le (cf : Ho → Ho → Int) (x : Ho) (P : List Ho) : ∀ j, insKh cf x P j ≤ j
  | 0 => Nat.le_refl _
  | j + 1 => by
    rw [insKh]; split
    · exact Nat.le_trans (insKh_le cf x P j) (by omega)
    · exact Nat.le_refl _
theorem insFh_len (cf : Ho → Ho → Int) (x : Ho) (P : List Ho) : (insFh cf x P).length = P.length + 1 := by
  have := insKh_le cf x P P.length
  unfold insFh; simp; omega
theorem isorth_snoc (cf : Ho → Ho → Int) (d : List Ho) (x : Ho) : isorth cf (d ++ [x]) = insFh cf x (isorth cf d) := by
  unfold isorth; rw [List.foldl_append]; rfl
theorem isorth_len (cf : Ho → Ho → Int) (d : List Ho) : (isorth cf d).length = d.length := by
  have : ∀ (d P : List Ho), (d.foldl (fun P x => insFh cf x P) P).length = P.length + d.length := by
    intro d
    induction d with
    | nil => intro P; rfl
    | cons x r ih => intro P; rw [List.foldl_cons, ih, insFh_len, List.length_cons]; omega
  have h := this d []
  simpa [isorth] using h
theorem insFh_mem {cf : Ho → Ho → Int} {x : Ho} {P : List Ho} {y : Ho} : y ∈ insFh cf x P ↔ y = x ∨ y ∈ P := by
  unfold insFh
  rw [List.mem_append, List.mem_cons]
  constructor
  · rintro (h | h | h)
    · exact .inr (List.mem_of_mem_take h)
    · exact .inl h
    · exact .inr (List.mem_of_mem_drop h)
  · rintro (h | h)
    · exact .inr (.inl h)
    · rw [← List.take_append_drop (insKh cf x P P.length) P] at h
      rcases List.mem_append.1 h with h | h
      · exact .inl h
      · exact .inr (.inr h)
theorem isorth_mem {cf : Ho → Ho → Int} {d : List Ho} {y : Ho} : y ∈ isorth cf d ↔ y ∈ d := by
  have : ∀ (d P : List Ho), y ∈ d.foldl (fun P x => insFh cf x P) P ↔ y ∈ P ∨ y ∈ d := by
    intro d
    induction d with
    | nil => intro P; simp
    | cons x r ih =>
      intro P; rw [List.foldl_cons, ih, insFh_mem, List.mem_cons]
      constructor
      · rintro ((h | h) | h)
        · exact .inr (.inl h)
        · exact .inl h
        · exact .inr (.inr h)
      · rintro (h | h | h)
        · exact .inl (.inr h)
        · exact .inl (.inl h)
        · exact .inr h
  have h := this d []
  simpa [isorth] using h

/-- The element x on its way to the left. -/
def slidh (P : List Ho) (x : Ho) (R : List Ho) (j : Nat) : List Ho := P.take j ++ x :: P.drop j ++ R
theorem slidh_len {P : List Ho} {x : Ho} {R : List Ho} {j : Nat} (h : j ≤ P.length) : (slidh P x R j).length = P.length + 1 + R.length := by unfold slidh; simp; omega
theorem slidh_at {P : List Ho} {x : Ho} {R : List Ho} {j : Nat} (h : j ≤ P.length) : (slidh P x R j)[j]? = some x := by
  unfold slidh
  rw [List.append_assoc, List.getElem?_append_right (by simp; omega)]
  simp [Nat.min_eq_left h]
theorem slidh_prev {P : List Ho} {x : Ho} {R : List Ho} {j : Nat} (h : j + 1 ≤ P.length) : (slidh P x R (j + 1))[j]? = some (P.getD j ho0) := by
  unfold slidh
  rw [List.append_assoc, List.getElem?_append_left (by simp; omega), List.getElem?_take, if_pos (by omega), List.getD_eq_getElem?_getD, List.getElem?_eq_getElem (by omega)]; rfl
theorem slidh_swap {P : List Ho} {x : Ho} {R : List Ho} {j : Nat} (h : j + 1 ≤ P.length) : ((slidh P x R (j + 1)).set (j + 1) (P.getD j ho0)).set j x = slidh P x R j := by
  obtain ⟨a, ha⟩ : ∃ a, P[j]? = some a := ⟨_, List.getElem?_eq_getElem (by omega)⟩
  have h1 : P.take (j + 1) = P.take j ++ [a] := take_step ha
  have h2 : P.drop j = a :: P.drop (j + 1) := by
    obtain ⟨hj, rfl⟩ := List.getElem?_eq_some_iff.1 ha
    rw [List.drop_eq_getElem_cons hj]
  have h3 : P.getD j ho0 = a := by rw [List.getD_eq_getElem?_getD, ha]; rfl
  have hl : (P.take j).length = j := by simp; omega
  unfold slidh
  rw [h1, h2, h3]
  simp only [List.append_assoc, List.cons_append, List.nil_append]
  rw [List.set_append_right _ _ (by omega), hl, show j + 1 - j = 1 from by omega]
  simp only [List.set_cons_succ, List.set_cons_zero]
  rw [List.set_append_right _ _ (by omega), hl, Nat.sub_self]
  simp

/-! ### the world of the sort: row g reads as ds; nothing older has changed -/
structure SWh (w0 : World) (g : Nat) (tl : List Value) (ds : List Ho) (W : World) : Prop where
  box : Box W g 47 (ds.flatMap hoE ++ tl).toArray
  old : Below g w0 W
theorem splice_app (l t c : List Value) (o : Nat) (h : o + c.length ≤ l.length) : splice (l ++ t) o c = splice l o c ++ t := by
  unfold splice
  rw [List.take_append_of_le_length (by omega), List.drop_append_of_le_length (by omega)]
  simp
theorem SWh.cell {w0 W : World} {g : Nat} {tl : List Value} {ds : List Ho} (h : SWh w0 g tl ds W) {j : Nat} {x : Ho} (hx : ds[j]? = some x) : ∀ k u, (hoE x)[k]? = some u → W.cell? ⟨g, j * 11 + k, none⟩ = some u := by
  intro k u hu
  have hk : k < 11 := by have := (List.getElem?_eq_some_iff.1 hu).1; simpa [hoE] using this
  have hj : j < ds.length := (List.getElem?_eq_some_iff.1 hx).1
  have h1 : (j + 1) * 11 ≤ ds.length * 11 := Nat.mul_le_mul_right 11 hj
  rw [h.box.cell]
  have := flat_at hoE_len ds j x hx k hk
  rw [hu] at this
  rw [List.getElem?_toArray, List.getElem?_append_left (by rw [flat_len hoE_len]; omega), this]
theorem SWh.drew {w0 W : World} {g : Nat} {tl : List Value} {ds : List Ho} (h : SWh w0 g tl ds W) : SWh w0 g tl ds W.drew := ⟨h.box.drew, h.old.drew⟩
theorem SWh.below {w0 W W' : World} {g : Nat} {tl : List Value} {ds : List Ho} (h : SWh w0 g tl ds W) (hb : Below W.heap.size W W') : SWh w0 g tl ds W' := ⟨h.box.below hb h.box.lt, h.old.trans (hb.mono (Nat.le_of_lt h.box.lt))⟩
theorem SWh.set {w0 W : World} {g : Nat} {tl : List Value} {ds : List Ho} (h : SWh w0 g tl ds W) {j : Nat} (hj : j < ds.length) (x : Ho) : SWh w0 g tl (ds.set j x) (W.setCells g (j * 11) (hoE x)) := by
  refine ⟨?_, below_setCells (Nat.le_refl _) (hoE x) (j * 11) _ h.old⟩
  have h1 : (j + 1) * 11 ≤ ds.length * 11 := Nat.mul_le_mul_right 11 hj
  have := h.box.setCells (hoE x) (j * 11) W _ (by rw [hoE_len, List.size_toArray, List.length_append, flat_len hoE_len]; omega)
  rwa [List.toList_toArray, splice_app _ _ _ _ (by rw [hoE_len, flat_len hoE_len]; omega), splice_flat hoE_len ds j x hj] at this

/-- What the comparing function does in each world of the sort. -/
def Cmph (f : Nat) (cb : Array Value) (cf : Ho → Ho → Int) (Pd : Ho → Prop) (g : Nat) (w0 : World) : Prop :=
  ∀ W x y, Pd x → Pd y → Below g w0 W → g < W.heap.size → Calls Try.prog f (#[hoV x, hoV y] ++ cb) W fun e w' => e = .returned (.int .i64 (cf x y)) ∧ Below W.heap.size W w'

theorem SWh.two {w0 W : World} {g : Nat} {tl : List Value} {ds : List Ho} (h : SWh w0 g tl ds W) {q o : Nat} {x y : Ho} (ho : q * 11 = o) (hy : ds[q]? = some y) (hx : ds[q + 1]? = some x) :
    W.cell? ⟨g, o, none⟩ = some (.int .i64 y.id) ∧ W.cell? ⟨g, o + 1, none⟩ = some (.int .i64 y.pat) ∧ W.cell? ⟨g, o + 2, none⟩ = some (.int .i64 y.rcd) ∧ W.cell? ⟨g, o + 3, none⟩ = some (.int .i64 y.itm) ∧ W.cell? ⟨g, o + 4, none⟩ = some (.int .i64 y.pk) ∧ W.cell? ⟨g, o + 5, none⟩ = some (.int .i64 y.plc) ∧ W.cell? ⟨g, o + 6, none⟩ = some (.int .i64 y.st) ∧ W.cell? ⟨g, o + 7, none⟩ = some (.int .i64 y.got) ∧ W.cell? ⟨g, o + 8, none⟩ = some (.int .i64 y.unt) ∧ W.cell? ⟨g, o + 9, none⟩ = some (.int .i64 y.slp) ∧ W.cell? ⟨g, o + 10, none⟩ = some (.int .i64 y.rnk) ∧ W.cell? ⟨g, o + 11, none⟩ = some (.int .i64 x.id) ∧ W.cell? ⟨g, o + 12, none⟩ = some (.int .i64 x.pat) ∧ W.cell? ⟨g, o + 13, none⟩ = some (.int .i64 x.rcd) ∧ W.cell? ⟨g, o + 14, none⟩ = some (.int .i64 x.itm) ∧ W.cell? ⟨g, o + 15, none⟩ = some (.int .i64 x.pk) ∧ W.cell? ⟨g, o + 16, none⟩ = some (.int .i64 x.plc) ∧ W.cell? ⟨g, o + 17, none⟩ = some (.int .i64 x.st) ∧ W.cell? ⟨g, o + 18, none⟩ = some (.int .i64 x.got) ∧ W.cell? ⟨g, o + 19, none⟩ = some (.int .i64 x.unt) ∧ W.cell? ⟨g, o + 20, none⟩ = some (.int .i64 x.slp) ∧ W.cell? ⟨g, o + 21, none⟩ = some (.int .i64 x.rnk) := by
  subst ho
  have h0 := h.cell hy
  have h1 := h.cell hx
  have e : ∀ k, (q + 1) * 11 + k = q * 11 + (11 + k) := fun k => by omega
  simp only [e] at h1
  exact ⟨h0 0 _ rfl, h0 1 _ rfl, h0 2 _ rfl, h0 3 _ rfl, h0 4 _ rfl, h0 5 _ rfl, h0 6 _ rfl, h0 7 _ rfl, h0 8 _ rfl, h0 9 _ rfl, h0 10 _ rfl, h1 0 _ rfl, h1 1 _ rfl, h1 2 _ rfl, h1 3 _ rfl, h1 4 _ rfl, h1 5 _ rfl, h1 6 _ rfl, h1 7 _ rfl, h1 8 _ rfl, h1 9 _ rfl, h1 10 _ rfl⟩

set_option maxRecDepth 100000 in
set_option maxHeartbeats 4000000 in
theorem insertionh_any (f : Nat) (cb : Array Value) (cf : Ho → Ho → Int) (Pd : Ho → Prop) (tl : List Value) (g cap : Nat) (d : List Ho) (w0 w : World) (eg : ∀ args w, (callFunc f args).run Try.prog w = .ok (.enter f args) w)
    (hcmp : Cmph f cb cf Pd g w0) (hs : SWh w0 g tl d w) (hd : ∀ x ∈ d, Pd x) (hcap : d.length ≤ cap) (hn : d.length ≤ 1000) :
    Calls Try.prog 62 #[.slice (some ⟨g, 0, none⟩) d.length cap, .int .i64 0, .int .i64 d.length, .func (.func f) #[] cb] w fun e w' => e = .returned (.tuple #[]) ∧ SWh w0 g tl (isorth cf d) w' := by
  have HC := hide hcmp
  have HS := hide hs
  have HD := hide hd
  clear hcmp hs hd
  go_enter Try.func62, Try.ntmps62
  go_wp2
  go_loopw [8] (fun s8 wr => ∃ i : Nat, 1 ≤ i ∧ i ≤ d.length + 1 ∧ s8 = .int .i64 i ∧ SWh w0 g tl (isorth cf (d.take i) ++ d.drop i) wr) (fun s8 _ => d.length + 1 - (intOf s8).toNat)
  case atStart =>
    refine ⟨1, Nat.le_refl _, by omega, by go_num, ?_⟩
    have : isorth cf (d.take 1) ++ d.drop 1 = d := by
      match d with
      | [] => rfl
      | [a] => rfl
      | a :: b :: r => rfl
    rw [this]; exact HS.out
  case round =>
    obtain ⟨i, hi1, hi2, rfl, hsw⟩ := hrel
    have HW := hide hsw
    clear hsw HS
    by_cases hlt : i < d.length
    · have hltz : (i : Int) < (d.length : Int) := by omega
      obtain ⟨x, hx⟩ : ∃ x, d[i]? = some x := ⟨_, List.getElem?_eq_getElem hlt⟩
      obtain ⟨P, hP⟩ : ∃ P, P = isorth cf (d.take i) := ⟨_, rfl⟩
      obtain ⟨R, hR⟩ : ∃ R, R = d.drop (i + 1) := ⟨_, rfl⟩
      have hPl : P.length = i := by rw [hP, isorth_len, List.length_take]; omega
      have hRl : R.length = d.length - (i + 1) := by rw [hR, List.length_drop]
      have hst : isorth cf (d.take i) ++ d.drop i = slidh P x R i := by
        have t1 : P.take i = P := List.take_of_length_le (by omega)
        have t2 : P.drop i = [] := List.drop_of_length_le (by omega)
        obtain ⟨_, rfl⟩ := List.getElem?_eq_some_iff.1 hx
        unfold slidh
        rw [← hP, t1, t2, hR, List.drop_eq_getElem_cons hlt]
        simp
      have hend : isorth cf (d.take (i + 1)) ++ d.drop (i + 1) = slidh P x R (insKh cf x P i) := by
        rw [take_step hx, isorth_snoc]
        unfold slidh insFh
        rw [← hP, hPl, ← hR]
      have hPd : ∀ y ∈ P, Pd y := fun y hy => HD.out y (List.mem_of_mem_take (isorth_mem.1 (hP ▸ hy)))
      have hxd : Pd x := HD.out x (List.mem_of_getElem? hx)
      have HST := hide hst
      have HEND := hide hend
      have HPD := hide hPd
      have HXD := hide hxd
      have HPL := hide hPl
      have hW2 : SWh w0 g tl (slidh P x R i) wr := by rw [← HST.out]; exact HW.out
      have HW2 := hide hW2
      clear hx hP hR hst hend hPd hxd hPl hW2 HW
      go_wp2
      go_loopw [9] (fun s9 wr => ∃ j : Nat, j ≤ i ∧ s9 = .int .i64 j ∧ SWh w0 g tl (slidh P x R j) wr ∧ insKh cf x P i = insKh cf x P j) (fun s9 _ => (intOf s9).toNat)
      case atStart => exact ⟨i, Nat.le_refl _, rfl, HW2.out, rfl⟩
      case round =>
        obtain ⟨j, hj, rfl, hsw, hk⟩ := hrel
        have HW := hide hsw
        have HK := hide hk
        clear hsw hk HW2
        have hjn : j < d.length := by omega
        have hjc : j < cap := by omega
        by_cases hj0 : 0 < j
        · obtain ⟨q, rfl⟩ : ∃ q, j = q + 1 := ⟨j - 1, by omega⟩
          have e1 : IntKind.i64.wrap ((q : Int) + 1 - 1) = (q : Int) := by rw [IntKind.wrap_i64]; omega
          have e2 : ((q : Int) + 1).toNat = q + 1 := by omega
          have e3 : (0 : Int) ≤ (q : Int) + 1 := by omega
          have e4 : (0 : Int) < (q : Int) + 1 := by omega
          have e5 : (q : Int) + 1 < (d.length : Int) := by omega
          have e6 : q < d.length := by omega
          have e7 : ((q : Int) + 1 - 1) = (q : Int) := by omega
          have hxq := slidh_at (P := P) (x := x) (R := R) (j := q + 1) (by rw [HPL.out]; omega)
          have hyq := slidh_prev (P := P) (x := x) (R := R) (j := q) (by rw [HPL.out]; omega)
          obtain ⟨o, ho⟩ : ∃ o, q * 11 = o := ⟨_, rfl⟩
          have ho1 : (q + 1) * 11 = o + 11 := by omega
          obtain ⟨y, hy⟩ : ∃ y, y = P.getD q ho0 := ⟨_, rfl⟩
          rw [← hy] at hyq
          obtain ⟨l0, l1, l2, l3, l4, l5, l6, l7, l8, l9, l10, l11, l12, l13, l14, l15, l16, l17, l18, l19, l20, l21⟩ := HW.out.two ho hyq hxq
          have HXQ := hide hxq
          have HYQ := hide hyq
          have hyP : Pd y := by
            rw [hy, List.getD_eq_getElem?_getD, List.getElem?_eq_getElem (by rw [HPL.out]; omega)]
            exact HPD.out _ (List.getElem_mem _)
          have hcall := fun W hW => HC.out W x y HXD.out hyP hW
          have HY := hide hy
          have HCA := hide hcall
          unfold hoV at HCA
          clear hy hyP hcall hxq hyq
          have hjd : decide ((q : Int) + 1 > 0) = true := decide_eq_true e4
          by_cases hv : cf x y < 0
          · have hvd : decide (cf x y < 0) = true := by simpa using hv
            have HV := hide hv
            clear hv
            have f0 := Grn.cell l0
            have f1 := Grn.cell l1
            have f2 := Grn.cell l2
            have f3 := Grn.cell l3
            have f4 := Grn.cell l4
            have f5 := Grn.cell l5
            have f6 := Grn.cell l6
            have f7 := Grn.cell l7
            have f8 := Grn.cell l8
            have f9 := Grn.cell l9
            have f10 := Grn.cell l10
            have f11 := Grn.cell l11
            have f12 := Grn.cell l12
            have f13 := Grn.cell l13
            have f14 := Grn.cell l14
            have f15 := Grn.cell l15
            have f16 := Grn.cell l16
            have f17 := Grn.cell l17
            have f18 := Grn.cell l18
            have f19 := Grn.cell l19
            have f20 := Grn.cell l20
            have f21 := Grn.cell l21
            go_wp2_with fail
            refine wp_region_grn (by kernel_rfl) (by kernel_rfl) ?_
            repeat (go_big_quiet_step ((go_at_fn f; exact Calls_grn (HCA.out _ (HW.out.below (Grn.h _)).old (HW.out.below (Grn.h _)).box.lt))))
            refine wpQuiet_nil ?_
            rintro _ ⟨p, rfl⟩
            obtain ⟨w2, hw2⟩ : ∃ w2, w2 = p.W := ⟨_, rfl⟩
            have S2 : SWh w0 g tl (slidh P x R (q + 1)) w2 := by rw [hw2]; exact HW.out.below p.h
            rw [← hw2]
            have HS2 := hide S2
            clear hw2 l0 l1 l2 l3 l4 l5 l6 l7 l8 l9 l10 l11 l12 l13 l14 l15 l16 l17 l18 l19 l20 l21 f0 f1 f2 f3 f4 f5 f6 f7 f8 f9 f10 f11 f12 f13 f14 f15 f16 f17 f18 f19 f20 f21
            obtain ⟨m0, m1, m2, m3, m4, m5, m6, m7, m8, m9, m10, m11, m12, m13, m14, m15, m16, m17, m18, m19, m20, m21⟩ := S2.two ho HYQ.out HXQ.out
            have mf := fun j => S2.box.frz j
            clear S2 HCA HW
            go_wp2_with fail
            go_big_region
            have S3 := (HS2.out.set (j := q + 1) (by rw [slidh_len (by rw [HPL.out]; omega)]; have := HPL.out; omega) y).set (j := q) (by rw [List.length_set, slidh_len (by rw [HPL.out]; omega)]; have := HPL.out; omega) x
            rw [HY.out, slidh_swap (by rw [HPL.out]; omega), ← HY.out, ho, ho1] at S3
            have HS3 := hide S3
            clear S3 HS2 mf m0 m1 m2 m3 m4 m5 m6 m7 m8 m9 m10 m11 m12 m13 m14 m15 m16 m17 m18 m19 m20 m21
            go_wp2
            go_roundw
            case rel => exact ⟨q, by omega, by go_num, HS3.out.drew, by rw [HK.out, insKh, if_pos (by rw [← HY.out]; exact HV.out)]⟩
            case measure => simp [intOf]
          · have hvd : decide (cf x y < 0) = false := by simpa using hv
            have HV := hide hv
            clear hv
            have f0 := Grn.cell l0
            have f1 := Grn.cell l1
            have f2 := Grn.cell l2
            have f3 := Grn.cell l3
            have f4 := Grn.cell l4
            have f5 := Grn.cell l5
            have f6 := Grn.cell l6
            have f7 := Grn.cell l7
            have f8 := Grn.cell l8
            have f9 := Grn.cell l9
            have f10 := Grn.cell l10
            have f11 := Grn.cell l11
            have f12 := Grn.cell l12
            have f13 := Grn.cell l13
            have f14 := Grn.cell l14
            have f15 := Grn.cell l15
            have f16 := Grn.cell l16
            have f17 := Grn.cell l17
            have f18 := Grn.cell l18
            have f19 := Grn.cell l19
            have f20 := Grn.cell l20
            have f21 := Grn.cell l21
            go_wp2_with fail
            refine wp_region_grn (by kernel_rfl) (by kernel_rfl) ?_
            repeat (go_big_quiet_step ((go_at_fn f; exact Calls_grn (HCA.out _ (HW.out.below (Grn.h _)).old (HW.out.below (Grn.h _)).box.lt))))
            refine wpQuiet_nil ?_
            rintro _ ⟨p, rfl⟩
            obtain ⟨w2, hw2⟩ : ∃ w2, w2 = p.W := ⟨_, rfl⟩
            have S2 : SWh w0 g tl (slidh P x R (q + 1)) w2 := by rw [hw2]; exact HW.out.below p.h
            rw [← hw2]
            have HS2 := hide S2
            clear hw2 l0 l1 l2 l3 l4 l5 l6 l7 l8 l9 l10 l11 l12 l13 l14 l15 l16 l17 l18 l19 l20 l21 f0 f1 f2 f3 f4 f5 f6 f7 f8 f9 f10 f11 f12 f13 f14 f15 f16 f17 f18 f19 f20 f21
            clear S2 HCA HW
            go_wp2
            go_roundw
            case rel => exact ⟨i + 1, by omega, by omega, by go_num, by rw [HEND.out, HK.out, insKh, if_neg (by rw [← HY.out]; have := HV.out; omega)]; exact HS2.out⟩
            case measure => simp [intOf]; omega
        · obtain rfl : j = 0 := by omega
          have hjd : decide ((0 : Int) > 0) = false := by decide
          go_wp2_with fail
          refine wp_region_grn (by kernel_rfl) (by kernel_rfl) ?_
          repeat (go_big_quiet_step (fail))
          refine wpQuiet_nil ?_
          rintro _ ⟨p, rfl⟩
          obtain ⟨w2, hw2⟩ : ∃ w2, w2 = p.W := ⟨_, rfl⟩
          have HS2 := hide (show SWh w0 g tl (slidh P x R 0) w2 by rw [hw2]; exact HW.out.below p.h)
          rw [← hw2]
          clear HW hw2
          go_wp2
          go_roundw
          case rel => exact ⟨i + 1, by omega, by omega, by go_num, by rw [HEND.out, HK.out]; exact HS2.out⟩
          case measure => simp [intOf]; omega
    · go_wp2
      go_end0
      refine ⟨rfl, ?_⟩
      have := HW.out
      rwa [List.take_of_length_le (by omega), List.drop_of_length_le (by omega), List.append_nil] at this

set_option maxHeartbeats 1000000 in
theorem stableh_any (f : Nat) (cb : Array Value) (cf : Ho → Ho → Int) (Pd : Ho → Prop) (tl : List Value) (g cap : Nat) (d : List Ho) (w0 w : World) (eg : ∀ args w, (callFunc f args).run Try.prog w = .ok (.enter f args) w)
    (hcmp : Cmph f cb cf Pd g w0) (hs : SWh w0 g tl d w) (hd : ∀ x ∈ d, Pd x) (hcap : d.length ≤ cap) (hn : d.length < 20) :
    Calls Try.prog 58 #[.slice (some ⟨g, 0, none⟩) d.length cap, .func (.func f) #[] cb] w fun e w' => e = .returned (.tuple #[]) ∧ SWh w0 g tl (isorth cf d) w' := by
  have key : Calls Try.prog 61 #[.slice (some ⟨g, 0, none⟩) d.length cap, .int .i64 d.length, .func (.func f) #[] cb] w fun e w' => e = .returned (.tuple #[]) ∧ SWh w0 g tl (isorth cf d) w' := by
    have HI := hide (insertionh_any f cb cf Pd tl g cap d w0 w eg hcmp hs hd hcap (by omega))
    clear hcmp hs hd
    have h1 : ¬ (20 : Int) ≤ (d.length : Int) := by omega
    have h2 : ¬ (20 : Int) < (d.length : Int) := by omega
    go_enter Try.func61, Try.ntmps61
    go_wp2
    go_loop [7, 8] (fun a b => a = .int .i64 0 ∧ b = .int .i64 20) (fun _ _ => 0)
    case atStart => exact ⟨rfl, rfl⟩
    case round =>
      obtain ⟨rfl, rfl⟩ := hrel
      go_wp2_with fail
      refine HI.out.mono ?_
      rintro e w1 ⟨rfl, hs⟩
      have HS := hide hs
      clear hs HI
      go_wp2
      go_loop [6] (fun a => a = .int .i64 20) (fun _ => 0)
      case atStart => rfl
      case round =>
        obtain rfl := hrel
        go_wp2
        go_end0
        exact ⟨rfl, HS.out⟩
  have HK := hide key
  clear key hcmp hs hd
  go_enter Try.func58, Try.ntmps58
  go_wp2_with fail
  refine HK.out.mono ?_
  rintro e w1 ⟨rfl, hs⟩
  go_wp2
  go_end0
  exact ⟨rfl, hs⟩
end Go.Proofs.Ytgjhjabnnhhkbaa
