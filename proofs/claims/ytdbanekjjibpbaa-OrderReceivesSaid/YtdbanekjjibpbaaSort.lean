/- Walks: slices.SortStableFunc of at most 20 ints (one block: an insertion sort). -/
import Derived.Test.YtdbanekjjibpbaaRow
import Derived.Test.YtdbanekjjibpbaaIdx
import Derived.Test.YtdbanekjjibpbaaProg
import Derived.Shelf.Abstract
import Derived.BigRegion
import Derived.BigQuiet
import Derived.Deep.QuietTactic
namespace Go.Proofs.Ytdbanekjjibpbaa
open Go.RowKit

/-! ### plain -/
def insK (cf : Int → Int → Int) (x : Int) (P : List Int) : Nat → Nat
  | 0 => 0
  | j + 1 => if cf x (P.getD j 0) < 0 then insK cf x P j else j + 1
def insF (cf : Int → Int → Int) (x : Int) (P : List Int) : List Int := P.take (insK cf x P P.length) ++ x :: P.drop (insK cf x P P.length)
def isort (cf : Int → Int → Int) (d : List Int) : List Int := d.foldl (fun P x => insF cf x P) []
theorem insK_le (cf : Int → Int → Int) (x : Int) (P : List Int) : ∀ j, insK cf x P j ≤ j
  | 0 => Nat.le_refl _
  | j + 1 => by
    rw [insK]; split
    · exact Nat.le_trans (insK_le cf x P j) (by omega)
    · exact Nat.le_refl _
theorem insF_len (cf : Int → Int → Int) (x : Int) (P : List Int) : (insF cf x P).length = P.length + 1 := by
  have := insK_le cf x P P.length
  unfold insF; simp; omega
theorem isort_snoc (cf : Int → Int → Int) (d : List Int) (x : Int) : isort cf (d ++ [x]) = insF cf x (isort cf d) := by
  unfold isort; rw [List.foldl_append]; rfl
theorem isort_len (cf : Int → Int → Int) (d : List Int) : (isort cf d).length = d.length := by
  have : ∀ (d P : List Int), (d.foldl (fun P x => insF cf x P) P).length = P.length + d.length := by
    intro d
    induction d with
    | nil => intro P; rfl
    | cons x r ih => intro P; rw [List.foldl_cons, ih, insF_len, List.length_cons]; omega
  have h := this d []
  simpa [isort] using h
theorem insF_mem {cf : Int → Int → Int} {x : Int} {P : List Int} {y : Int} : y ∈ insF cf x P ↔ y = x ∨ y ∈ P := by
  unfold insF
  rw [List.mem_append, List.mem_cons]
  constructor
  · rintro (h | h | h)
    · exact .inr (List.mem_of_mem_take h)
    · exact .inl h
    · exact .inr (List.mem_of_mem_drop h)
  · rintro (h | h)
    · exact .inr (.inl h)
    · rw [← List.take_append_drop (insK cf x P P.length) P] at h
      rcases List.mem_append.1 h with h | h
      · exact .inl h
      · exact .inr (.inr h)
theorem isort_mem {cf : Int → Int → Int} {d : List Int} {y : Int} : y ∈ isort cf d ↔ y ∈ d := by
  have : ∀ (d P : List Int), y ∈ d.foldl (fun P x => insF cf x P) P ↔ y ∈ P ∨ y ∈ d := by
    intro d
    induction d with
    | nil => intro P; simp
    | cons x r ih =>
      intro P; rw [List.foldl_cons, ih, insF_mem, List.mem_cons]
      constructor
      · rintro ((h | h) | h)
        · exact .inr (.inl h)
        · exact .inl h
        · exact .inr (.inr h)
      · rintro (h | h | h)
        · exact .inl (.inr h)
        · exact .inl (.inl h)
        · exact .inr h
  have h := this d []
  simpa [isort] using h

/-- The element x on its way to the left. -/
def slid (P : List Int) (x : Int) (R : List Int) (j : Nat) : List Int := P.take j ++ x :: P.drop j ++ R
theorem slid_len {P : List Int} {x : Int} {R : List Int} {j : Nat} (h : j ≤ P.length) : (slid P x R j).length = P.length + 1 + R.length := by unfold slid; simp; omega
theorem slid_at {P : List Int} {x : Int} {R : List Int} {j : Nat} (h : j ≤ P.length) : (slid P x R j)[j]? = some x := by
  unfold slid
  rw [List.append_assoc, List.getElem?_append_right (by simp; omega)]
  simp [Nat.min_eq_left h]
theorem slid_prev {P : List Int} {x : Int} {R : List Int} {j : Nat} (h : j + 1 ≤ P.length) : (slid P x R (j + 1))[j]? = some (P.getD j 0) := by
  unfold slid
  rw [List.append_assoc, List.getElem?_append_left (by simp; omega), List.getElem?_take, if_pos (by omega), List.getD_eq_getElem?_getD, List.getElem?_eq_getElem (by omega)]; rfl
theorem slid_swap {P : List Int} {x : Int} {R : List Int} {j : Nat} (h : j + 1 ≤ P.length) : ((slid P x R (j + 1)).set (j + 1) (P.getD j 0)).set j x = slid P x R j := by
  obtain ⟨a, ha⟩ : ∃ a, P[j]? = some a := ⟨_, List.getElem?_eq_getElem (by omega)⟩
  have h1 : P.take (j + 1) = P.take j ++ [a] := take_step ha
  have h2 : P.drop j = a :: P.drop (j + 1) := by
    obtain ⟨hj, rfl⟩ := List.getElem?_eq_some_iff.1 ha
    rw [List.drop_eq_getElem_cons hj]
  have h3 : P.getD j 0 = a := by rw [List.getD_eq_getElem?_getD, ha]; rfl
  have hl : (P.take j).length = j := by simp; omega
  unfold slid
  rw [h1, h2, h3]
  simp only [List.append_assoc, List.cons_append, List.nil_append]
  rw [List.set_append_right _ _ (by omega), hl, show j + 1 - j = 1 from by omega]
  simp only [List.set_cons_succ, List.set_cons_zero]
  rw [List.set_append_right _ _ (by omega), hl, Nat.sub_self]
  simp

/-! ### the world of the sort: row g reads as ds; nothing older has changed -/
def iv (x : Int) : Value := .int .i64 x
structure SWi (w0 : World) (g : Nat) (ds : List Int) (W : World) : Prop where
  box : Box W g 3 (ds.map iv).toArray
  old : Below g w0 W
theorem SWi.cell {w0 W : World} {g : Nat} {ds : List Int} (h : SWi w0 g ds W) {j : Nat} {x : Int} (hx : ds[j]? = some x) : W.cell? ⟨g, j, none⟩ = some (.int .i64 x) := by
  rw [h.box.cell]; simp [hx, iv]
theorem SWi.drewN {w0 W : World} {g : Nat} {ds : List Int} (h : SWi w0 g ds W) (m : Nat) : SWi w0 g ds (W.drewN m) := ⟨h.box.drewN m, below_drewN h.old m⟩
theorem SWi.drew {w0 W : World} {g : Nat} {ds : List Int} (h : SWi w0 g ds W) : SWi w0 g ds W.drew := ⟨h.box.drew, h.old.drew⟩
theorem SWi.set {w0 W : World} {g : Nat} {ds : List Int} (h : SWi w0 g ds W) (j : Nat) (x : Int) : SWi w0 g (ds.set j x) (W.setCell ⟨g, j, none⟩ (.int .i64 x)) := by
  refine ⟨?_, h.old.setCell (Nat.le_refl _) _⟩
  have := h.box.set_ j (.int .i64 x)
  rw [List.map_set]
  simpa [iv] using this

/-- What the comparing function does in each world of the sort. -/
def Cmpi (f : Nat) (cb : Array Value) (cf : Int → Int → Int) (Pd : Int → Prop) (g : Nat) (w0 : World) : Prop :=
  ∀ W x y, Pd x → Pd y → Below g w0 W → Calls Try.prog f (#[.int .i64 x, .int .i64 y] ++ cb) W fun e w' => e = .returned (.int .i64 (cf x y)) ∧ ∃ q, w' = W.drewN q

set_option maxRecDepth 100000 in
set_option maxHeartbeats 4000000 in
theorem insertion_any (f : Nat) (cb : Array Value) (cf : Int → Int → Int) (Pd : Int → Prop) (g cap : Nat) (d : List Int) (w0 w : World) (eg : ∀ args w, (callFunc f args).run Try.prog w = .ok (.enter f args) w)
    (hcmp : Cmpi f cb cf Pd g w0) (hs : SWi w0 g d w) (hd : ∀ x ∈ d, Pd x) (hcap : d.length ≤ cap) (hn : d.length ≤ 1000) :
    Calls Try.prog 54 #[.slice (some ⟨g, 0, none⟩) d.length cap, .int .i64 0, .int .i64 d.length, .func (.func f) #[] cb] w fun e w' => e = .returned (.tuple #[]) ∧ SWi w0 g (isort cf d) w' := by
  have HC := hide hcmp
  have HS := hide hs
  have HD := hide hd
  clear hcmp hs hd
  go_enter Try.func54, Try.ntmps54
  go_wp2
  go_loopw [8] (fun s8 wr => ∃ i : Nat, 1 ≤ i ∧ i ≤ d.length + 1 ∧ s8 = .int .i64 i ∧ SWi w0 g (isort cf (d.take i) ++ d.drop i) wr) (fun s8 _ => d.length + 1 - (intOf s8).toNat)
  case atStart =>
    refine ⟨1, Nat.le_refl _, by omega, by go_num, ?_⟩
    have : isort cf (d.take 1) ++ d.drop 1 = d := by
      match d with
      | [] => rfl
      | [a] => rfl
      | a :: b :: r => rfl
    rw [this]; exact HS.out
  case round =>
    obtain ⟨i, hi1, hi2, rfl, hsw⟩ := hrel
    have HW := hide hsw
    clear hsw HS
    by_cases hlt : i < d.length
    · have hltz : (i : Int) < (d.length : Int) := by omega
      obtain ⟨x, hx⟩ : ∃ x, d[i]? = some x := ⟨_, List.getElem?_eq_getElem hlt⟩
      obtain ⟨P, hP⟩ : ∃ P, P = isort cf (d.take i) := ⟨_, rfl⟩
      obtain ⟨R, hR⟩ : ∃ R, R = d.drop (i + 1) := ⟨_, rfl⟩
      have hPl : P.length = i := by rw [hP, isort_len, List.length_take]; omega
      have hRl : R.length = d.length - (i + 1) := by rw [hR, List.length_drop]
      have hst : isort cf (d.take i) ++ d.drop i = slid P x R i := by
        have t1 : P.take i = P := List.take_of_length_le (by omega)
        have t2 : P.drop i = [] := List.drop_of_length_le (by omega)
        obtain ⟨_, rfl⟩ := List.getElem?_eq_some_iff.1 hx
        unfold slid
        rw [← hP, t1, t2, hR, List.drop_eq_getElem_cons hlt]
        simp
      have hend : isort cf (d.take (i + 1)) ++ d.drop (i + 1) = slid P x R (insK cf x P i) := by
        rw [take_step hx, isort_snoc]
        unfold slid insF
        rw [← hP, hPl, ← hR]
      have hPd : ∀ y ∈ P, Pd y := fun y hy => HD.out y (List.mem_of_mem_take (isort_mem.1 (hP ▸ hy)))
      have hxd : Pd x := HD.out x (List.mem_of_getElem? hx)
      have HST := hide hst
      have HEND := hide hend
      have HPD := hide hPd
      have HXD := hide hxd
      have HPL := hide hPl
      have hW2 : SWi w0 g (slid P x R i) wr := by rw [← HST.out]; exact HW.out
      have HW2 := hide hW2
      clear hx hP hR hst hend hPd hxd hPl hW2 HW
      go_wp2
      go_loopw [9] (fun s9 wr => ∃ j : Nat, j ≤ i ∧ s9 = .int .i64 j ∧ SWi w0 g (slid P x R j) wr ∧ insK cf x P i = insK cf x P j) (fun s9 _ => (intOf s9).toNat)
      case atStart => exact ⟨i, Nat.le_refl _, rfl, HW2.out, rfl⟩
      case round =>
        obtain ⟨j, hj, rfl, hsw, hk⟩ := hrel
        have HW := hide hsw
        have HK := hide hk
        clear hsw hk HW2
        have hjn : j < d.length := by omega
        have hjc : j < cap := by omega
        by_cases hj0 : 0 < j
        · obtain ⟨q, rfl⟩ : ∃ q, j = q + 1 := ⟨j - 1, by omega⟩
          have e1 : IntKind.i64.wrap ((q : Int) + 1 - 1) = (q : Int) := by rw [IntKind.wrap_i64]; omega
          have e2 : ((q : Int) + 1).toNat = q + 1 := by omega
          have e3 : (0 : Int) ≤ (q : Int) + 1 := by omega
          have e4 : (0 : Int) < (q : Int) + 1 := by omega
          have e5 : (q : Int) + 1 < (d.length : Int) := by omega
          have e6 : q < d.length := by omega
          have e7 : ((q : Int) + 1 - 1) = (q : Int) := by omega
          have l0 := HW.out.cell (slid_at (P := P) (x := x) (R := R) (j := q + 1) (by rw [HPL.out]; omega))
          have l1 := HW.out.cell (slid_prev (P := P) (x := x) (R := R) (j := q) (by rw [HPL.out]; omega))
          obtain ⟨y, hy⟩ : ∃ y, y = P.getD q 0 := ⟨_, rfl⟩
          rw [← hy] at l1
          have hyP : Pd y := by
            rw [hy, List.getD_eq_getElem?_getD, List.getElem?_eq_getElem (by rw [HPL.out]; omega)]
            exact HPD.out _ (List.getElem_mem _)
          have hcall := fun W hW => HC.out W x y HXD.out hyP hW
          have HY := hide hy
          have HCA := hide hcall
          clear hy hyP hcall
          have hjd : decide ((q : Int) + 1 > 0) = true := decide_eq_true e4
          by_cases hv : cf x y < 0
          · have hvd : decide (cf x y < 0) = true := by simpa using hv
            have HV := hide hv
            clear hv
            go_wp2_with fail
            go_quiet ((go_at_fn f; exact Calls.quiet_of (HCA.out _ (by first | exact HW.out.old | exact HW.out.old.drew | exact below_drewN HW.out.old _ | exact below_drewN HW.out.old.drew _))))
            generalize hw2 : wr.drewN nq = w2
            have S2 : SWi w0 g (slid P x R (q + 1)) w2 := by rw [← hw2]; exact HW.out.drewN nq
            have HS2 := hide S2
            have m0 := S2.cell (slid_at (P := P) (x := x) (R := R) (j := q + 1) (by rw [HPL.out]; omega))
            have m1 : w2.cell? ⟨g, q, none⟩ = some (.int .i64 y) := by rw [HY.out]; exact S2.cell (slid_prev (P := P) (x := x) (R := R) (j := q) (by rw [HPL.out]; omega))
            have m2 := fun j => S2.box.frz j
            clear hw2 S2 l0 l1 HCA HW
            go_wp2_with fail
            go_big_region
            have S3 := (HS2.out.set (q + 1) y).set q x
            rw [HY.out, slid_swap (by rw [HPL.out]; omega), ← HY.out] at S3
            have HS3 := hide S3
            clear S3 HS2 m0 m1 m2
            go_wp2
            go_roundw
            case rel => exact ⟨q, by omega, by go_num, HS3.out.drew, by rw [HK.out, insK, if_pos (by rw [← HY.out]; exact HV.out)]⟩
            case measure => simp [intOf]
          · have hvd : decide (cf x y < 0) = false := by simpa using hv
            have HV := hide hv
            clear hv
            go_wp2_with fail
            go_quiet ((go_at_fn f; exact Calls.quiet_of (HCA.out _ (by first | exact HW.out.old | exact HW.out.old.drew | exact below_drewN HW.out.old _ | exact below_drewN HW.out.old.drew _))))
            have HS2 := hide (HW.out.drewN nq)
            clear l0 l1 HCA HW
            go_wp2
            go_roundw
            case rel => exact ⟨i + 1, by omega, by omega, by go_num, by rw [HEND.out, HK.out, insK, if_neg (by rw [← HY.out]; have := HV.out; omega)]; exact HS2.out⟩
            case measure => simp [intOf]; omega
        · obtain rfl : j = 0 := by omega
          have hjd : decide ((0 : Int) > 0) = false := by decide
          go_wp2_with fail
          go_quiet (fail)
          have HS2 := hide (HW.out.drewN nq)
          clear HW
          go_wp2
          go_roundw
          case rel => exact ⟨i + 1, by omega, by omega, by go_num, by rw [HEND.out, HK.out]; exact HS2.out⟩
          case measure => simp [intOf]; omega
    · go_wp2
      go_end0
      refine ⟨rfl, ?_⟩
      have := HW.out
      rwa [List.take_of_length_le (by omega), List.drop_of_length_le (by omega), List.append_nil] at this

set_option maxHeartbeats 1000000 in
theorem stable_any (f : Nat) (cb : Array Value) (cf : Int → Int → Int) (Pd : Int → Prop) (g cap : Nat) (d : List Int) (w0 w : World) (eg : ∀ args w, (callFunc f args).run Try.prog w = .ok (.enter f args) w)
    (hcmp : Cmpi f cb cf Pd g w0) (hs : SWi w0 g d w) (hd : ∀ x ∈ d, Pd x) (hcap : d.length ≤ cap) (hn : d.length < 20) :
    Calls Try.prog 46 #[.slice (some ⟨g, 0, none⟩) d.length cap, .func (.func f) #[] cb] w fun e w' => e = .returned (.tuple #[]) ∧ SWi w0 g (isort cf d) w' := by
  have key : Calls Try.prog 51 #[.slice (some ⟨g, 0, none⟩) d.length cap, .int .i64 d.length, .func (.func f) #[] cb] w fun e w' => e = .returned (.tuple #[]) ∧ SWi w0 g (isort cf d) w' := by
    have HI := hide (insertion_any f cb cf Pd g cap d w0 w eg hcmp hs hd hcap (by omega))
    clear hcmp hs hd
    have h1 : ¬ (20 : Int) ≤ (d.length : Int) := by omega
    have h2 : ¬ (20 : Int) < (d.length : Int) := by omega
    go_enter Try.func51, Try.ntmps51
    go_wp2
    go_loop [7, 8] (fun a b => a = .int .i64 0 ∧ b = .int .i64 20) (fun _ _ => 0)
    case atStart => exact ⟨rfl, rfl⟩
    case round =>
      obtain ⟨rfl, rfl⟩ := hrel
      go_wp2_with fail
      refine HI.out.mono ?_
      rintro e w1 ⟨rfl, hs⟩
      have HS := hide hs
      clear hs HI
      go_wp2
      go_loop [6] (fun a => a = .int .i64 20) (fun _ => 0)
      case atStart => rfl
      case round =>
        obtain rfl := hrel
        go_wp2
        go_end0
        exact ⟨rfl, HS.out⟩
  have HK := hide key
  clear key hcmp hs hd
  go_enter Try.func46, Try.ntmps46
  go_wp2_with fail
  refine HK.out.mono ?_
  rintro e w1 ⟨rfl, hs⟩
  go_wp2
  go_end0
  exact ⟨rfl, hs⟩
end Go.Proofs.Ytdbanekjjibpbaa
