/- Texts laid together by merge.py: Sort, ShPlain, ShA, ShB, OdN, HoN, ShC. -/
import Derived.Test.YtbhndfphegflhaaGreatMrg3
import Derived.Test.YtbhndfphegflhaaGreatMrg0
import Derived.Test.YtbhndfphegflhaaGreatProg
import Derived.Shelf.Abstract
import Derived.BigRegion
import Derived.BigQuiet
import Derived.Deep.QuietTactic
import Derived.Deep.OwnRows
import Derived.Test.YtbhndfphegflhaaGreatMrg5
set_option linter.unusedSimpArgs false
set_option linter.unusedVariables false
/- Walks: slices.SortStableFunc of at most 20 ints (one block: an insertion sort). -/
namespace Go.Proofs.YtbhndfphegflhaaGreat
open Go.RowKit

/-! ### plain -/
def insK (cf : Int → Int → Int) (x : Int) (P : List Int) : Nat → Nat
  | 0 => 0
  | j + 1 => if cf x (P.getD j 0) < 0 then insK cf x P j else j + 1
def insF (cf : Int → Int → Int) (x : Int) (P : List Int) : List Int := P.take (insK cf x P P.length) ++ x :: P.drop (insK cf x P P.length)
def isort (cf : Int → Int → Int) (d : List Int) : List Int := d.foldl (fun P x => insF cf x P) []
theorem insK_le (cf : Int → Int → Int) (x : Int) (P : List Int) : ∀ j, insK cf x P j ≤ j
  | 0 => Nat.le_refl _
  | j + 1 => by
    rw [insK]; split
    · exact Nat.le_trans (insK_le cf x P j) (by omega)
    · exact Nat.le_refl _
theorem insF_len (cf : Int → Int → Int) (x : Int) (P : List Int) : (insF cf x P).length = P.length + 1 := by
  have := insK_le cf x P P.length
  unfold insF; simp; omega
theorem isort_snoc (cf : Int → Int → Int) (d : List Int) (x : Int) : isort cf (d ++ [x]) = insF cf x (isort cf d) := by
  unfold isort; rw [List.foldl_append]; rfl
theorem isort_len (cf : Int → Int → Int) (d : List Int) : (isort cf d).length = d.length := by
  have : ∀ (d P : List Int), (d.foldl (fun P x => insF cf x P) P).length = P.length + d.length := by
    intro d
    induction d with
    | nil => intro P; rfl
    | cons x r ih => intro P; rw [List.foldl_cons, ih, insF_len, List.length_cons]; omega
  have h := this d []
  simpa [isort] using h
theorem insF_mem {cf : Int → Int → Int} {x : Int} {P : List Int} {y : Int} : y ∈ insF cf x P ↔ y = x ∨ y ∈ P := by
  unfold insF
  rw [List.mem_append, List.mem_cons]
  constructor
  · rintro (h | h | h)
    · exact .inr (List.mem_of_mem_take h)
    · exact .inl h
    · exact .inr (List.mem_of_mem_drop h)
  · rintro (h | h)
    · exact .inr (.inl h)
    · rw [← List.take_append_drop (insK cf x P P.length) P] at h
      rcases List.mem_append.1 h with h | h
      · exact .inl h
      · exact .inr (.inr h)
theorem isort_mem {cf : Int → Int → Int} {d : List Int} {y : Int} : y ∈ isort cf d ↔ y ∈ d := by
  have : ∀ (d P : List Int), y ∈ d.foldl (fun P x => insF cf x P) P ↔ y ∈ P ∨ y ∈ d := by
    intro d
    induction d with
    | nil => intro P; simp
    | cons x r ih =>
      intro P; rw [List.foldl_cons, ih, insF_mem, List.mem_cons]
      constructor
      · rintro ((h | h) | h)
        · exact .inr (.inl h)
        · exact .inl h
        · exact .inr (.inr h)
      · rintro (h | h | h)
        · exact .inl (.inr h)
        · exact .inl (.inl h)
        · exact .inr h
  have h := this d []
  simpa [isort] using h

/-- The element x on its way to the left. -/
def slid (P : List Int) (x : Int) (R : List Int) (j : Nat) : List Int := P.take j ++ x :: P.drop j ++ R
theorem slid_at {P : List Int} {x : Int} {R : List Int} {j : Nat} (h : j ≤ P.length) : (slid P x R j)[j]? = some x := by
  unfold slid
  rw [List.append_assoc, List.getElem?_append_right (by simp; omega)]
  simp [Nat.min_eq_left h]
theorem slid_prev {P : List Int} {x : Int} {R : List Int} {j : Nat} (h : j + 1 ≤ P.length) : (slid P x R (j + 1))[j]? = some (P.getD j 0) := by
  unfold slid
  rw [List.append_assoc, List.getElem?_append_left (by simp; omega), List.getElem?_take, if_pos (by omega), List.getD_eq_getElem?_getD, List.getElem?_eq_getElem (by omega)]; rfl
theorem slid_swap {P : List Int} {x : Int} {R : List Int} {j : Nat} (h : j + 1 ≤ P.length) : ((slid P x R (j + 1)).set (j + 1) (P.getD j 0)).set j x = slid P x R j := by
  obtain ⟨a, ha⟩ : ∃ a, P[j]? = some a := ⟨_, List.getElem?_eq_getElem (by omega)⟩
  have h1 : P.take (j + 1) = P.take j ++ [a] := take_step ha
  have h2 : P.drop j = a :: P.drop (j + 1) := by
    obtain ⟨hj, rfl⟩ := List.getElem?_eq_some_iff.1 ha
    rw [List.drop_eq_getElem_cons hj]
  have h3 : P.getD j 0 = a := by rw [List.getD_eq_getElem?_getD, ha]; rfl
  have hl : (P.take j).length = j := by simp; omega
  unfold slid
  rw [h1, h2, h3]
  simp only [List.append_assoc, List.cons_append, List.nil_append]
  rw [List.set_append_right _ _ (by omega), hl, show j + 1 - j = 1 from by omega]
  simp only [List.set_cons_succ, List.set_cons_zero]
  rw [List.set_append_right _ _ (by omega), hl, Nat.sub_self]
  simp

/-! ### the world of the sort: row g reads as ds; nothing older has changed -/
def iv (x : Int) : Value := .int .i64 x
structure SWi (w0 : World) (g : Nat) (ds : List Int) (W : World) : Prop where
  box : Box W g 3 (ds.map iv).toArray
  old : Below g w0 W
theorem SWi.cell {w0 W : World} {g : Nat} {ds : List Int} (h : SWi w0 g ds W) {j : Nat} {x : Int} (hx : ds[j]? = some x) : W.cell? ⟨g, j, none⟩ = some (.int .i64 x) := by
  rw [h.box.cell]; simp [hx, iv]
theorem SWi.drewN {w0 W : World} {g : Nat} {ds : List Int} (h : SWi w0 g ds W) (m : Nat) : SWi w0 g ds (W.drewN m) := ⟨h.box.drewN m, below_drewN h.old m⟩
theorem SWi.drew {w0 W : World} {g : Nat} {ds : List Int} (h : SWi w0 g ds W) : SWi w0 g ds W.drew := ⟨h.box.drew, h.old.drew⟩
theorem SWi.set {w0 W : World} {g : Nat} {ds : List Int} (h : SWi w0 g ds W) (j : Nat) (x : Int) : SWi w0 g (ds.set j x) (W.setCell ⟨g, j, none⟩ (.int .i64 x)) := by
  refine ⟨?_, h.old.setCell (Nat.le_refl _) _⟩
  have := h.box.set_ j (.int .i64 x)
  rw [List.map_set]
  simpa [iv] using this

/-- What the comparing function does in each world of the sort. -/
def Cmpi (f : Nat) (cb : Array Value) (cf : Int → Int → Int) (Pd : Int → Prop) (g : Nat) (w0 : World) : Prop :=
  ∀ W x y, Pd x → Pd y → Below g w0 W → Calls Tryz.prog f (#[.int .i64 x, .int .i64 y] ++ cb) W fun e w' => e = .returned (.int .i64 (cf x y)) ∧ ∃ q, w' = W.drewN q

set_option maxRecDepth 100000 in
set_option maxHeartbeats 4000000 in
theorem insertion_any (f : Nat) (cb : Array Value) (cf : Int → Int → Int) (Pd : Int → Prop) (g cap : Nat) (d : List Int) (w0 w : World) (eg : ∀ args w, (callFunc f args).run Tryz.prog w = .ok (.enter f args) w)
    (hcmp : Cmpi f cb cf Pd g w0) (hs : SWi w0 g d w) (hd : ∀ x ∈ d, Pd x) (hcap : d.length ≤ cap) (hn : d.length ≤ 1000) :
    Calls Tryz.prog 209 #[.slice (some ⟨g, 0, none⟩) d.length cap, .int .i64 0, .int .i64 d.length, .func (.func f) #[] cb] w fun e w' => e = .returned (.tuple #[]) ∧ SWi w0 g (isort cf d) w' := by
  have HC := hide hcmp
  have HS := hide hs
  have HD := hide hd
  clear hcmp hs hd
  go_enter Tryz.func209, Tryz.ntmps209
  go_wp2
  go_loopw [8] (fun s8 wr => ∃ i : Nat, 1 ≤ i ∧ i ≤ d.length + 1 ∧ s8 = .int .i64 i ∧ SWi w0 g (isort cf (d.take i) ++ d.drop i) wr) (fun s8 _ => d.length + 1 - (intOf s8).toNat)
  case atStart =>
    refine ⟨1, Nat.le_refl _, by omega, by go_num, ?_⟩
    have : isort cf (d.take 1) ++ d.drop 1 = d := by
      match d with
      | [] => rfl
      | [a] => rfl
      | a :: b :: r => rfl
    rw [this]; exact HS.out
  case round =>
    obtain ⟨i, hi1, hi2, rfl, hsw⟩ := hrel
    have HW := hide hsw
    clear hsw HS
    by_cases hlt : i < d.length
    · have hltz : (i : Int) < (d.length : Int) := by omega
      obtain ⟨x, hx⟩ : ∃ x, d[i]? = some x := ⟨_, List.getElem?_eq_getElem hlt⟩
      obtain ⟨P, hP⟩ : ∃ P, P = isort cf (d.take i) := ⟨_, rfl⟩
      obtain ⟨R, hR⟩ : ∃ R, R = d.drop (i + 1) := ⟨_, rfl⟩
      have hPl : P.length = i := by rw [hP, isort_len, List.length_take]; omega
      have hRl : R.length = d.length - (i + 1) := by rw [hR, List.length_drop]
      have hst : isort cf (d.take i) ++ d.drop i = slid P x R i := by
        have t1 : P.take i = P := List.take_of_length_le (by omega)
        have t2 : P.drop i = [] := List.drop_of_length_le (by omega)
        obtain ⟨_, rfl⟩ := List.getElem?_eq_some_iff.1 hx
        unfold slid
        rw [← hP, t1, t2, hR, List.drop_eq_getElem_cons hlt]
        simp
      have hend : isort cf (d.take (i + 1)) ++ d.drop (i + 1) = slid P x R (insK cf x P i) := by
        rw [take_step hx, isort_snoc]
        unfold slid insF
        rw [← hP, hPl, ← hR]
      have hPd : ∀ y ∈ P, Pd y := fun y hy => HD.out y (List.mem_of_mem_take (isort_mem.1 (hP ▸ hy)))
      have hxd : Pd x := HD.out x (List.mem_of_getElem? hx)
      have HST := hide hst
      have HEND := hide hend
      have HPD := hide hPd
      have HXD := hide hxd
      have HPL := hide hPl
      have hW2 : SWi w0 g (slid P x R i) wr := by rw [← HST.out]; exact HW.out
      have HW2 := hide hW2
      clear hx hP hR hst hend hPd hxd hPl hW2 HW
      go_wp2
      go_loopw [9] (fun s9 wr => ∃ j : Nat, j ≤ i ∧ s9 = .int .i64 j ∧ SWi w0 g (slid P x R j) wr ∧ insK cf x P i = insK cf x P j) (fun s9 _ => (intOf s9).toNat)
      case atStart => exact ⟨i, Nat.le_refl _, rfl, HW2.out, rfl⟩
      case round =>
        obtain ⟨j, hj, rfl, hsw, hk⟩ := hrel
        have HW := hide hsw
        have HK := hide hk
        clear hsw hk HW2
        have hjn : j < d.length := by omega
        have hjc : j < cap := by omega
        by_cases hj0 : 0 < j
        · obtain ⟨q, rfl⟩ : ∃ q, j = q + 1 := ⟨j - 1, by omega⟩
          have e1 : IntKind.i64.wrap ((q : Int) + 1 - 1) = (q : Int) := by rw [IntKind.wrap_i64]; omega
          have e2 : ((q : Int) + 1).toNat = q + 1 := by omega
          have e3 : (0 : Int) ≤ (q : Int) + 1 := by omega
          have e4 : (0 : Int) < (q : Int) + 1 := by omega
          have e5 : (q : Int) + 1 < (d.length : Int) := by omega
          have e6 : q < d.length := by omega
          have e7 : ((q : Int) + 1 - 1) = (q : Int) := by omega
          have l0 := HW.out.cell (slid_at (P := P) (x := x) (R := R) (j := q + 1) (by rw [HPL.out]; omega))
          have l1 := HW.out.cell (slid_prev (P := P) (x := x) (R := R) (j := q) (by rw [HPL.out]; omega))
          obtain ⟨y, hy⟩ : ∃ y, y = P.getD q 0 := ⟨_, rfl⟩
          rw [← hy] at l1
          have hyP : Pd y := by
            rw [hy, List.getD_eq_getElem?_getD, List.getElem?_eq_getElem (by rw [HPL.out]; omega)]
            exact HPD.out _ (List.getElem_mem _)
          have hcall := fun W hW => HC.out W x y HXD.out hyP hW
          have HY := hide hy
          have HCA := hide hcall
          clear hy hyP hcall
          have hjd : decide ((q : Int) + 1 > 0) = true := decide_eq_true e4
          by_cases hv : cf x y < 0
          · have hvd : decide (cf x y < 0) = true := by simpa using hv
            have HV := hide hv
            clear hv
            go_wp2_with fail
            go_quiet ((go_at_fn f; exact Calls.quiet_of (HCA.out _ (by first | exact HW.out.old | exact HW.out.old.drew | exact below_drewN HW.out.old _ | exact below_drewN HW.out.old.drew _))))
            generalize hw2 : wr.drewN nq = w2
            have S2 : SWi w0 g (slid P x R (q + 1)) w2 := by rw [← hw2]; exact HW.out.drewN nq
            have HS2 := hide S2
            have m0 := S2.cell (slid_at (P := P) (x := x) (R := R) (j := q + 1) (by rw [HPL.out]; omega))
            have m1 : w2.cell? ⟨g, q, none⟩ = some (.int .i64 y) := by rw [HY.out]; exact S2.cell (slid_prev (P := P) (x := x) (R := R) (j := q) (by rw [HPL.out]; omega))
            have m2 := fun j => S2.box.frz j
            clear hw2 S2 l0 l1 HCA HW
            go_wp2_with fail
            go_big_region
            have S3 := (HS2.out.set (q + 1) y).set q x
            rw [HY.out, slid_swap (by rw [HPL.out]; omega), ← HY.out] at S3
            have HS3 := hide S3
            clear S3 HS2 m0 m1 m2
            go_wp2
            go_roundw
            case rel => exact ⟨q, by omega, by go_num, HS3.out.drew, by rw [HK.out, insK, if_pos (by rw [← HY.out]; exact HV.out)]⟩
            case measure => simp [intOf]
          · have hvd : decide (cf x y < 0) = false := by simpa using hv
            have HV := hide hv
            clear hv
            go_wp2_with fail
            go_quiet ((go_at_fn f; exact Calls.quiet_of (HCA.out _ (by first | exact HW.out.old | exact HW.out.old.drew | exact below_drewN HW.out.old _ | exact below_drewN HW.out.old.drew _))))
            have HS2 := hide (HW.out.drewN nq)
            clear l0 l1 HCA HW
            go_wp2
            go_roundw
            case rel => exact ⟨i + 1, by omega, by omega, by go_num, by rw [HEND.out, HK.out, insK, if_neg (by rw [← HY.out]; have := HV.out; omega)]; exact HS2.out⟩
            case measure => simp [intOf]; omega
        · obtain rfl : j = 0 := by omega
          have hjd : decide ((0 : Int) > 0) = false := by decide
          go_wp2_with fail
          go_quiet (fail)
          have HS2 := hide (HW.out.drewN nq)
          clear HW
          go_wp2
          go_roundw
          case rel => exact ⟨i + 1, by omega, by omega, by go_num, by rw [HEND.out, HK.out]; exact HS2.out⟩
          case measure => simp [intOf]; omega
    · go_wp2
      go_end0
      refine ⟨rfl, ?_⟩
      have := HW.out
      rwa [List.take_of_length_le (by omega), List.drop_of_length_le (by omega), List.append_nil] at this

set_option maxHeartbeats 1000000 in
theorem stable_any (f : Nat) (cb : Array Value) (cf : Int → Int → Int) (Pd : Int → Prop) (g cap : Nat) (d : List Int) (w0 w : World) (eg : ∀ args w, (callFunc f args).run Tryz.prog w = .ok (.enter f args) w)
    (hcmp : Cmpi f cb cf Pd g w0) (hs : SWi w0 g d w) (hd : ∀ x ∈ d, Pd x) (hcap : d.length ≤ cap) (hn : d.length < 20) :
    Calls Tryz.prog 189 #[.slice (some ⟨g, 0, none⟩) d.length cap, .func (.func f) #[] cb] w fun e w' => e = .returned (.tuple #[]) ∧ SWi w0 g (isort cf d) w' := by
  have key : Calls Tryz.prog 201 #[.slice (some ⟨g, 0, none⟩) d.length cap, .int .i64 d.length, .func (.func f) #[] cb] w fun e w' => e = .returned (.tuple #[]) ∧ SWi w0 g (isort cf d) w' := by
    have HI := hide (insertion_any f cb cf Pd g cap d w0 w eg hcmp hs hd hcap (by omega))
    clear hcmp hs hd
    have h1 : ¬ (20 : Int) ≤ (d.length : Int) := by omega
    have h2 : ¬ (20 : Int) < (d.length : Int) := by omega
    go_enter Tryz.func201, Tryz.ntmps201
    go_wp2
    go_loop [7, 8] (fun a b => a = .int .i64 0 ∧ b = .int .i64 20) (fun _ _ => 0)
    case atStart => exact ⟨rfl, rfl⟩
    case round =>
      obtain ⟨rfl, rfl⟩ := hrel
      go_wp2_with fail
      refine HI.out.mono ?_
      rintro e w1 ⟨rfl, hs⟩
      have HS := hide hs
      clear hs HI
      go_wp2
      go_loop [6] (fun a => a = .int .i64 20) (fun _ => 0)
      case atStart => rfl
      case round =>
        obtain rfl := hrel
        go_wp2
        go_end0
        exact ⟨rfl, HS.out⟩
  have HK := hide key
  clear key hcmp hs hd
  go_enter Tryz.func189, Tryz.ntmps189
  go_wp2_with fail
  refine HK.out.mono ?_
  rintro e w1 ⟨rfl, hs⟩
  go_wp2
  go_end0
  exact ⟨rfl, hs⟩
end Go.Proofs.YtbhndfphegflhaaGreat

/- Dividing an amount by weights: what money.Share computes, as plain functions. No walk. -/
namespace Go.Proofs.YtbhndfphegflhaaGreat

def baseF (t S : Int) (ws : List Int) : List Int := ws.map (fun w => t * w / S)
def remF (t S : Int) (ws : List Int) (i : Int) : Int := t * ws.getD i.toNat 0 % S
def cfS (t S : Int) (ws : List Int) (a b : Int) : Int := remF t S ws b - remF t S ws a
def rangeI (n : Nat) : List Int := (List.range n).map Int.ofNat
def ordF (t S : Int) (ws : List Int) : List Int := isort (cfS t S ws) (rangeI ws.length)
def leftF (t S : Int) (ws : List Int) : Int := t - (baseF t S ws).sum
def bump1 (ps : List Int) (i : Int) : List Int := ps.set i.toNat (ps.getD i.toNat 0 + 1)
def bump (ps : List Int) (is : List Int) : List Int := is.foldl bump1 ps
def shareF (t : Int) (ws : List Int) : List Int := bump (baseF t ws.sum ws) ((ordF t ws.sum ws).take (leftF t ws.sum ws).toNat)

/-- Weights that are valid, of an amount that is one. -/
structure WsV (t : Int) (ws : List Int) : Prop where
  t0 : 0 ≤ t
  t1 : t ≤ 100000000
  n0 : 1 ≤ ws.length
  n1 : ws.length ≤ 16
  w : ∀ x ∈ ws, 1 ≤ x ∧ x ≤ 1000

theorem sum_bd : ∀ {ws : List Int}, (∀ x ∈ ws, 1 ≤ x ∧ x ≤ 1000) → (ws.length : Int) ≤ ws.sum ∧ ws.sum ≤ 1000 * ws.length
  | [], _ => by simp
  | x :: r, h => by
    have h1 := h x (by simp)
    have h2 := sum_bd (ws := r) (fun y hy => h y (by simp [hy]))
    rw [List.sum_cons, List.length_cons]; omega
theorem sum_step {ws : List Int} {k : Nat} {x : Int} (h : ws[k]? = some x) : (ws.take (k + 1)).sum = (ws.take k).sum + x := by
  rw [take_step h, List.sum_append]; simp
theorem sum_take_bd {ws : List Int} (h : ∀ x ∈ ws, 1 ≤ x ∧ x ≤ 1000) (k : Nat) : 0 ≤ (ws.take k).sum ∧ (ws.take k).sum ≤ 1000 * ws.length := by
  have := sum_bd (ws := ws.take k) (fun y hy => h y (List.mem_of_mem_take hy))
  have hl : (ws.take k).length ≤ ws.length := by rw [List.length_take]; exact Nat.min_le_right _ _
  omega
theorem WsV.S {t : Int} {ws : List Int} (h : WsV t ws) : 1 ≤ ws.sum ∧ ws.sum ≤ 16000 := by
  have := sum_bd h.w
  have := h.n0
  have := h.n1
  omega
theorem baseF_step {t S : Int} {ws : List Int} {k : Nat} {x : Int} (h : ws[k]? = some x) : (baseF t S (ws.take (k + 1))).sum = (baseF t S (ws.take k)).sum + t * x / S := by
  unfold baseF
  rw [take_step h, List.map_append, List.sum_append]; simp

/-- What is left over is S times less than the remainders together. -/
theorem left_mul {t S : Int} (hS : 0 < S) : ∀ ws : List Int, t * ws.sum - S * (baseF t S ws).sum = (ws.map (fun w => t * w % S)).sum
  | [] => by simp [baseF]
  | x :: r => by
    have ih := left_mul (t := t) hS r
    have e : S * (t * x / S) + t * x % S = t * x := Int.mul_ediv_add_emod (t * x) S
    simp only [baseF, List.map_cons, List.sum_cons] at ih ⊢
    rw [Int.mul_add, Int.mul_add]
    omega
theorem rem_sum {t S : Int} (hS : 0 < S) : ∀ ws : List Int, 0 ≤ (ws.map (fun w => t * w % S)).sum ∧ (ws.map (fun w => t * w % S)).sum ≤ ws.length * (S - 1)
  | [] => by simp
  | x :: r => by
    have ih := rem_sum hS r (t := t)
    have h1 := Int.emod_nonneg (t * x) (show S ≠ 0 by omega)
    have h2 := Int.emod_lt_of_pos (t * x) hS
    simp only [List.map_cons, List.sum_cons, List.length_cons]
    push_cast
    rw [Int.add_mul]
    omega
theorem left_bd {t : Int} {ws : List Int} (h : WsV t ws) : 0 ≤ leftF t ws.sum ws ∧ leftF t ws.sum ws < ws.length := by
  obtain ⟨s1, s2⟩ := h.S
  have h1 := left_mul (t := t) (S := ws.sum) (by omega) ws
  have h2 := rem_sum (t := t) (S := ws.sum) (by omega) ws
  have e : t * ws.sum - ws.sum * (baseF t ws.sum ws).sum = ws.sum * leftF t ws.sum ws := by unfold leftF; rw [Int.mul_sub, Int.mul_comm t]
  rw [e] at h1
  rw [← h1] at h2
  obtain ⟨h3, h4⟩ := h2
  have hn := h.n0
  constructor
  · by_cases hneg : leftF t ws.sum ws < 0
    · have : ws.sum * leftF t ws.sum ws < 0 := Int.mul_neg_of_pos_of_neg (by omega) hneg
      omega
    · omega
  · by_cases hge : (ws.length : Int) ≤ leftF t ws.sum ws
    · have h5 : ws.sum * (ws.length : Int) ≤ ws.sum * leftF t ws.sum ws := Int.mul_le_mul_of_nonneg_left hge (by omega)
      have h6 : (ws.length : Int) * (ws.sum - 1) = ws.sum * (ws.length : Int) - ws.length := by rw [Int.mul_sub, Int.mul_comm]; omega
      omega
    · omega
end Go.Proofs.YtbhndfphegflhaaGreat

/- Walks: money.Share of valid weights. -/
namespace Go.Proofs.YtbhndfphegflhaaGreat
open Go.RowKit

def inE (n : Int) : List Value := [.int .i64 n]
theorem inE_len (n : Int) : (inE n).length = 1 := rfl
theorem inE_one (x : Int) : ∀ u ∈ inE x, u.oneCell' = true := by
  intro u hu; simp only [inE, List.mem_cons, List.not_mem_nil, or_false] at hu; subst hu; rfl
abbrev Is (w : World) (B : Nat) (A : Option Addr) (n c : Nat) (xs : List Int) : Prop := Sl inE 1 w B A n c xs
theorem Is_at {w : World} {B : Nat} {A : Option Addr} {n c : Nat} {xs : List Int} (h : Is w B A n c xs) {k : Nat} (hk : k < n) :
    ∃ b off x, A = some ⟨b, off, none⟩ ∧ b < B ∧ xs[k]? = some x ∧ w.cell? ⟨b, off + k, none⟩ = some (.int .i64 x) := by
  obtain ⟨b, off, x, hA, hb, hx, hc⟩ := h.at_ hk
  exact ⟨b, off, x, hA, hb, hx, by simpa using hc 0 _ rfl⟩

def mnyS (n : Int) : Bool := decide (0 ≤ n) && decide (n ≤ 100000000)
theorem mrightS_any (n : Int) (w : World) :
    Calls Tryz.prog 122 #[.int .i64 n] w fun e w' => e = .returned (.bool (mnyS n)) ∧ w = w' := by
  go_enter Tryz.func122, Tryz.ntmps122
  by_cases h : 0 ≤ n
  · go_wp2
    go_ret
    exact ⟨ret_bool (by simp [mnyS, h]), rfl⟩
  · go_wp2
    go_ret
    exact ⟨ret_bool (by simp [mnyS]; omega), rfl⟩

/-- The comparing function of Share. -/
theorem share1_any (t S : Int) (ws : List Int) (b0 b1 b2 : Nat) (A : Option Addr) (n c : Nat) (x y : Int) (w : World) (h0 : w.cell? ⟨b0, 0, none⟩ = some (.int .i64 t)) (h1 : w.cell? ⟨b1, 0, none⟩ = some (.slice A n c)) (h2 : w.cell? ⟨b2, 0, none⟩ = some (.int .i64 S))
    (hs : Is w w.heap.size A n c ws) (ht : 0 ≤ t ∧ t ≤ 100000000) (hS : 1 ≤ S ∧ S ≤ 16000) (hw : ∀ x ∈ ws, 1 ≤ x ∧ x ≤ 1000) (hx : 0 ≤ x ∧ x < ws.length) (hy : 0 ≤ y ∧ y < ws.length) :
    Calls Tryz.prog 190 #[.int .i64 x, .int .i64 y, .pointer (some ⟨b0, 0, none⟩), .pointer (some ⟨b1, 0, none⟩), .pointer (some ⟨b2, 0, none⟩)] w fun e w' => e = .returned (.int .i64 (cfS t S ws x y)) ∧ ∃ q, w' = w.drewN q := by
  obtain rfl := hs.len
  obtain ⟨i, rfl⟩ := Int.eq_ofNat_of_zero_le hx.1
  obtain ⟨j, rfl⟩ := Int.eq_ofNat_of_zero_le hy.1
  have hi : i < ws.length := by omega
  have hj : j < ws.length := by omega
  obtain ⟨b, off, u, rfl, hb, hu, ci⟩ := Is_at hs hi
  obtain ⟨b', off', v, hA, hb', hv, cj⟩ := Is_at hs hj
  cases hA
  have hwu := hw u (List.mem_of_getElem? hu)
  have hwv := hw v (List.mem_of_getElem? hv)
  have e1 : remF t S ws (i : Int) = t * u % S := by unfold remF; rw [Int.toNat_natCast, List.getD_eq_getElem?_getD, hu]; rfl
  have e2 : remF t S ws (j : Int) = t * v % S := by unfold remF; rw [Int.toNat_natCast, List.getD_eq_getElem?_getD, hv]; rfl
  have e3 : cfS t S ws (i : Int) (j : Int) = t * v % S - t * u % S := by unfold cfS; rw [e1, e2]
  rw [e3]
  have p1 : 0 ≤ t * u ∧ t * u ≤ 100000000000 := ⟨Int.mul_nonneg ht.1 (by omega), by
    have := Int.mul_le_mul ht.2 hwu.2 (by omega) (by omega); omega⟩
  have p2 : 0 ≤ t * v ∧ t * v ≤ 100000000000 := ⟨Int.mul_nonneg ht.1 (by omega), by
    have := Int.mul_le_mul ht.2 hwv.2 (by omega) (by omega); omega⟩
  have w1 : IntKind.i64.wrap (t * u) = t * u := by rw [IntKind.wrap_i64]; omega
  have w2 : IntKind.i64.wrap (t * v) = t * v := by rw [IntKind.wrap_i64]; omega
  have m1 : (t * u).tmod S = t * u % S := Int.tmod_eq_emod_of_nonneg p1.1
  have m2 : (t * v).tmod S = t * v % S := Int.tmod_eq_emod_of_nonneg p2.1
  have r1 := Int.emod_nonneg (t * u) (show S ≠ 0 by omega)
  have r2 := Int.emod_lt_of_pos (t * u) (show 0 < S by omega)
  have r3 := Int.emod_nonneg (t * v) (show S ≠ 0 by omega)
  have r4 := Int.emod_lt_of_pos (t * v) (show 0 < S by omega)
  have w3 : IntKind.i64.wrap (t * u % S) = t * u % S := by rw [IntKind.wrap_i64]; omega
  have w4 : IntKind.i64.wrap (t * v % S) = t * v % S := by rw [IntKind.wrap_i64]; omega
  have w5 : IntKind.i64.wrap (t * v % S - t * u % S) = t * v % S - t * u % S := by rw [IntKind.wrap_i64]; omega
  have hS0 : ¬ S = 0 := by omega
  have hiz : (i : Int) < (ws.length : Int) := by omega
  have hjz : (j : Int) < (ws.length : Int) := by omega
  clear e1 e2 e3 hs hw hu hv hx hy hwu hwv p1 p2 r1 r2 r3 r4 ht hS
  go_enter Tryz.func190, Tryz.ntmps190
  go_wp2_with fail
  go_quiet (fail)
  go_wp2
  go_ret
  exact ⟨rfl, _, rfl⟩
end Go.Proofs.YtbhndfphegflhaaGreat

/- Walks: money.Share of valid weights, the body. -/
namespace Go.Proofs.YtbhndfphegflhaaGreat
open Go.RowKit

theorem int_info : (Tryz.prog.info? 3).map (fun i => (i.zero, i.size, i.bytes)) = some (some (.int .i64 0), 1, 8) := by kernel_rfl
theorem made_zeros (n : Nat) : madeCells #[Value.int .i64 0] n = ((List.replicate n (0 : Int)).map iv).toArray := by
  apply Array.ext
  · simp [madeCells]
  · intro i h1 h2
    simp [madeCells, iv, Nat.mod_one]
theorem set_zeros (B : List Int) (m : Nat) (v : Int) : (B ++ List.replicate (m + 1) 0).set B.length v = B ++ [v] ++ List.replicate m 0 := by
  rw [List.set_append_right _ _ (Nat.le_refl _), Nat.sub_self, List.replicate_succ, List.set_cons_zero]; simp
theorem baseF_len (t S : Int) (ws : List Int) : (baseF t S ws).length = ws.length := by simp [baseF]
theorem rangeI_len (n : Nat) : (rangeI n).length = n := by simp [rangeI]
theorem rangeI_succ (n : Nat) : rangeI (n + 1) = rangeI n ++ [(n : Int)] := by simp [rangeI, List.range_succ]
theorem rangeI_mem {n : Nat} {x : Int} (h : x ∈ rangeI n) : 0 ≤ x ∧ x < n := by
  simp only [rangeI, List.mem_map, List.mem_range] at h
  obtain ⟨i, hi, rfl⟩ := h
  simp; omega
theorem base1_bd {t S x : Int} (ht : 0 ≤ t ∧ t ≤ 100000000) (hS : 1 ≤ S) (hx : 1 ≤ x ∧ x ≤ 1000) : 0 ≤ t * x ∧ t * x ≤ 100000000000 ∧ 0 ≤ t * x / S ∧ t * x / S ≤ 100000000000 := by
  have p1 : 0 ≤ t * x := Int.mul_nonneg ht.1 (by omega)
  have p2 : t * x ≤ 100000000000 := by have := Int.mul_le_mul ht.2 hx.2 (by omega) (by omega); omega
  have p3 : 0 ≤ t * x / S := Int.ediv_nonneg p1 (by omega)
  have p4 : t * x / S ≤ t * x := Int.ediv_le_self S p1
  exact ⟨p1, p2, p3, by omega⟩
theorem baseF_bd {t S : Int} (ht : 0 ≤ t ∧ t ≤ 100000000) (hS : 1 ≤ S) : ∀ {ws : List Int}, (∀ x ∈ ws, 1 ≤ x ∧ x ≤ 1000) → (∀ y ∈ baseF t S ws, 0 ≤ y ∧ y ≤ 100000000000) ∧ 0 ≤ (baseF t S ws).sum ∧ (baseF t S ws).sum ≤ 100000000000 * ws.length
  | [], _ => by simp [baseF]
  | x :: r, h => by
    have ih := baseF_bd ht hS (ws := r) (fun y hy => h y (by simp [hy]))
    obtain ⟨_, _, p3, p4⟩ := base1_bd ht hS (h x (by simp))
    refine ⟨?_, ?_, ?_⟩
    · intro y hy
      simp only [baseF, List.map_cons, List.mem_cons] at hy
      rcases hy with rfl | hy
      · exact ⟨p3, p4⟩
      · exact ih.1 y hy
    · simp only [baseF, List.map_cons, List.sum_cons] at ih ⊢; omega
    · simp only [baseF, List.map_cons, List.sum_cons, List.length_cons] at ih ⊢; omega
theorem bump_step (ps is : List Int) (k : Nat) (x : Int) (h : is[k]? = some x) : bump ps (is.take (k + 1)) = bump1 (bump ps (is.take k)) x := by
  unfold bump; rw [take_step h, List.foldl_append]; rfl
theorem bump1_len (ps : List Int) (i : Int) : (bump1 ps i).length = ps.length := by simp [bump1]
theorem bump_len (ps : List Int) : ∀ is : List Int, (bump ps is).length = ps.length := by
  intro is
  induction is generalizing ps with
  | nil => rfl
  | cons x r ih => unfold bump at ih ⊢; rw [List.foldl_cons, ih, bump1_len]

theorem iv_at {B : List Int} {k : Nat} {x : Int} (h : B[k]? = some x) : (B.map iv).toArray[k]? = some (.int .i64 x) := by
  simp [h, iv]
theorem iv_set {B : List Int} {k : Nat} (v : Int) : (B.map iv).toArray.setIfInBounds k (.int .i64 v) = ((B.set k v).map iv).toArray := by
  rw [List.setIfInBounds_toArray, List.map_set]; rfl
theorem bump_bd (B : Int) : ∀ (is ps : List Int), (∀ y ∈ ps, 0 ≤ y ∧ y ≤ B) → ∀ y ∈ bump ps is, 0 ≤ y ∧ y ≤ B + is.length
  | [], ps, h => by simpa [bump] using h
  | i :: r, ps, h => by
    have h1 : ∀ y ∈ bump1 ps i, 0 ≤ y ∧ y ≤ B + 1 := by
      intro y hy
      unfold bump1 at hy
      rcases List.mem_or_eq_of_mem_set hy with hy | rfl
      · have := h y hy; omega
      · rw [List.getD_eq_getElem?_getD]
        cases he : ps[i.toNat]? with
        | none => 
          simp
          cases ps with
          | nil => simp at hy
          | cons q l => have := h q (by simp); omega
        | some q => have := h q (List.mem_of_getElem? he); simp; omega
    intro y hy
    have := bump_bd (B + 1) r (bump1 ps i) h1 y hy
    rw [List.length_cons]; push_cast; omega
theorem iv_inE (xs : List Int) : xs.map iv = xs.flatMap inE := by
  induction xs with
  | nil => rfl
  | cons x r ih => rw [List.map_cons, List.flatMap_cons, ih]; rfl
theorem zero_at {B : List Int} {k m : Nat} (hB : B.length = k) : ((B ++ List.replicate (m + 1) (0 : Int)).map iv).toArray[k]? = some (.int .i64 0) := by
  subst hB
  simp [iv]
theorem zero_set {B : List Int} {k m : Nat} (hB : B.length = k) (v : Int) : ((B ++ List.replicate (m + 1) (0 : Int)).map iv).toArray.setIfInBounds k (.int .i64 v) = ((B ++ [v] ++ List.replicate m 0).map iv).toArray := by
  subst hB
  rw [List.setIfInBounds_toArray, ← set_zeros B m v, List.map_set]; rfl
theorem two_a {W : World} {g k m : Nat} {t : TypeId} {B : List Int} (h : Box W g t ((B ++ List.replicate (m + 1) (0 : Int)).map iv).toArray) (hB : B.length = k) (v : Int) (u : Value) :
    Box ((W.setCell ⟨g, k, none⟩ (.int .i64 v)).setCell ⟨g + 1, k, none⟩ u) g t ((B ++ [v] ++ List.replicate m 0).map iv).toArray := by
  have h2 := (h.set_ k (.int .i64 v)).far (p := ⟨g + 1, k, none⟩) (by simp) u
  rw [zero_set hB] at h2
  exact h2
theorem two_b {W : World} {g k m : Nat} {t : TypeId} {B : List Int} (h : Box W (g + 1) t ((B ++ List.replicate (m + 1) (0 : Int)).map iv).toArray) (hB : B.length = k) (v : Int) (u : Value) :
    Box ((W.setCell ⟨g, k, none⟩ u).setCell ⟨g + 1, k, none⟩ (.int .i64 v)) (g + 1) t ((B ++ [v] ++ List.replicate m 0).map iv).toArray := by
  have h2 := (h.far (p := ⟨g, k, none⟩) (by simp) u).set_ k (.int .i64 v)
  rw [zero_set hB] at h2
  exact h2
theorem baseF_snoc {t S : Int} {ws : List Int} {k : Nat} {x : Int} (h : ws[k]? = some x) : baseF t S (ws.take (k + 1)) = baseF t S (ws.take k) ++ [t * x / S] := by
  unfold baseF; rw [take_step h, List.map_append]; rfl

set_option maxRecDepth 100000 in
set_option maxHeartbeats 8000000 in
theorem pshare_any (t : Int) (A : Option Addr) (n c : Nat) (ws : List Int) (w : World) (hs : Is w w.heap.size A n c ws) (hv : WsV t ws) :
    Calls Tryz.prog 168 #[.int .i64 t, .slice A n c] w fun e w' => ∃ v, e = .returned (.tuple #[v, .int .i64 0]) ∧ w'.ownsRow w.heap.size 3 1 v ws.length ((shareF t ws).flatMap inE) ∧ Below w.heap.size w w' := by
  obtain rfl := hs.len
  have hbig := hs.big
  have hle := hs.le
  obtain ⟨S, hS⟩ : ∃ S, S = ws.sum := ⟨_, rfl⟩
  have hSb := hv.S
  rw [← hS] at hSb
  obtain ⟨sb1, sb2⟩ := hSb
  have hm := fun W => mrightS_any t W
  rw [show mnyS t = true from by simp [mnyS, hv.t0, hv.t1]] at hm
  have HM := hide hm
  have HV := hide hv
  have n0 := hv.n0
  have n1 := hv.n1
  have hsl : ∀ W, Below w.heap.size w W → Is W w.heap.size A ws.length c ws := fun W hW => hs.below hW
  have HSL := hide hsl
  obtain ⟨W1, hW1⟩ : ∃ W1, W1 = ((w.alloc (.cells #[.int .i64 t] 3)).alloc (.cells #[.slice A ws.length c] 65)).alloc (.cells #[.int .i64 0] 3) := ⟨_, rfl⟩
  have B1 : Below w.heap.size w W1 := by
    rw [hW1]; exact (((Below.refl w.heap.size w).alloc (Nat.le_refl _) _).alloc (by simp) _).alloc (by simp; omega) _
  have X0 : Box W1 w.heap.size 3 #[.int .i64 t] := by rw [hW1]; exact ((Box.new w _ _).alloc _).alloc _
  have X1 : Box W1 (w.heap.size + 1) 65 #[.slice A ws.length c] := by
    have h := ((Box.new (w.alloc (.cells #[.int .i64 t] 3)) 65 #[.slice A ws.length c]).alloc (.cells #[.int .i64 0] 3))
    rw [World.size_alloc] at h; rw [hW1]; exact h
  have X2 : Box W1 (w.heap.size + 2) 3 #[.int .i64 0] := by
    have h := Box.new ((w.alloc (.cells #[.int .i64 t] 3)).alloc (.cells #[.slice A ws.length c] 65)) 3 #[.int .i64 0]
    simp only [World.size_alloc] at h; rw [hW1]; exact h
  have hz1 : W1.heap.size = w.heap.size + 3 := by rw [hW1]; simp
  have HB1 := hide B1
  have HX0 := hide X0
  have HX1 := hide X1
  have HX2 := hide X2
  have HZ1 := hide hz1
  have HW1 := hide hW1
  have HS := hide hS
  clear hs hv hm hsl hS B1 X0 X1 X2 hz1 hW1
  go_enter Tryz.func168, Tryz.ntmps168
  go_wp2
  rw [← HW1.out]
  go_loopw [18] (fun s18 wr => ∃ k : Nat, k ≤ ws.length ∧ s18 = .int .i64 k ∧ Below (w.heap.size + 2) W1 wr ∧ Box wr (w.heap.size + 2) 3 #[.int .i64 (ws.take k).sum]) (fun s18 _ => ws.length - (intOf s18).toNat)
  case atStart => exact ⟨0, Nat.zero_le _, rfl, Below.refl _ _, HX2.out⟩
  case round =>
    obtain ⟨k, hk, rfl, hb, hx⟩ := hrel
    have BR := hide hb
    have BX := hide hx
    have hzr := hb.size
    have q2 := hx.cell 0
    have f2 := hx.frz 0
    simp at q2
    obtain ⟨tb1, tb2⟩ := sum_take_bd HV.out.w k
    have hsb := HB1.out.trans (hb.mono (by omega))
    have HSB := hide hsb
    clear hb hx hsb HX2 HW1
    by_cases hlt : k < ws.length
    · obtain ⟨b, off, x, rfl, hbB, hx, c0⟩ := Is_at (HSL.out _ HSB.out) hlt
      have hxb := HV.out.w x (List.mem_of_getElem? hx)
      obtain ⟨xb1, xb2⟩ := hxb
      have hst := sum_step hx
      have HST := hide hst
      generalize hq : (ws.take k).sum = q at q2 tb1 tb2 hst
      have HQ := hide hq
      have tb3 : q ≤ 16000 := by omega
      have tb4 : q + x ≤ 16000 := by
        have h1 := sum_take_bd HV.out.w (k + 1)
        rw [hst] at h1
        omega
      clear hx hst hq tb2
      go_wp2
      go_roundw
      case rel =>
        refine ⟨k + 1, by omega, by go_num, BR.out.setCell (Nat.le_refl _) _, ?_⟩
        rw [HST.out, HQ.out]
        exact BX.out.set_ 0 _
      case measure => simp [intOf]; omega
    · obtain rfl : k = ws.length := by omega
      rw [List.take_length, ← HS.out] at q2
      have q0 := (HX0.out.below BR.out (by omega)).cell 0
      have q1 := (HX1.out.below BR.out (by omega)).cell 0
      simp at q0 q1
      have hS0 : (S == 0) = false := by simp; omega
      have hzz : W1.heap.size ≤ wr.heap.size := hzr
      have hmk := fun w => run_make_row' 65 3 (.int .i64 0) 8 Tryz.underlying65 int_info rfl .i64 .i64 ws.length (by omega) (by omega) w
      have G0 := hide (HSB.out)
      have hz0 : W1.heap.size ≤ wr.heap.size := hzr
      obtain ⟨W3, hW3⟩ : ∃ W3, W3 = (wr.alloc (.cells (madeCells #[Value.int .i64 0] ws.length) 3)).alloc (.cells (madeCells #[Value.int .i64 0] ws.length) 3) := ⟨_, rfl⟩
      have B3 : Below wr.heap.size wr W3 := by rw [hW3]; exact ((Below.refl _ wr).alloc (Nat.le_refl _) _).alloc (by simp) _
      have Y1 : Box W3 wr.heap.size 3 ((List.replicate ws.length (0 : Int)).map iv).toArray := by
        rw [hW3, ← made_zeros]; exact (Box.new wr _ _).alloc _
      have Y2 : Box W3 (wr.heap.size + 1) 3 ((List.replicate ws.length (0 : Int)).map iv).toArray := by
        have h := Box.new (wr.alloc (.cells (madeCells #[Value.int .i64 0] ws.length) 3)) 3 (madeCells #[Value.int .i64 0] ws.length)
        rw [World.size_alloc] at h
        rw [hW3]
        rw [made_zeros] at h ⊢
        exact h
      have HB3 := hide B3
      have HY1 := hide Y1
      have HY2 := hide Y2
      have HW3 := hide hW3
      have h16 : ¬ (16 : Int) < (ws.length : Int) := by omega
      have h1n : ¬ (ws.length : Int) < 1 := by omega
      clear B3 Y1 Y2 hW3
      have hz1 := HZ1.out
      have c0 := hide (show ∀ W, Below wr.heap.size wr W → W.cell? ⟨w.heap.size, 0, none⟩ = some (.int .i64 t) ∧ W.cell? ⟨w.heap.size + 1, 0, none⟩ = some (.slice A ws.length c) ∧ W.cell? ⟨w.heap.size + 2, 0, none⟩ = some (.int .i64 S) from fun W hW =>
        ⟨(hW.cell (p := ⟨w.heap.size, 0, none⟩) (show w.heap.size < wr.heap.size by omega)).trans q0, (hW.cell (p := ⟨w.heap.size + 1, 0, none⟩) (show w.heap.size + 1 < wr.heap.size by omega)).trans q1, (hW.cell (p := ⟨w.heap.size + 2, 0, none⟩) (show w.heap.size + 2 < wr.heap.size by omega)).trans q2⟩)
      go_wp2_with fail
      refine (HM.out _).mono ?_
      rintro e w2 ⟨rfl, rfl⟩
      have e0 : w.heap.size < wr.heap.size := by omega
      have e1 : w.heap.size + 1 < wr.heap.size := by omega
      go_wp2
      rw [← HW3.out]
      clear HW3 hmk q0 q1 q2 f2 tb1 tb2
      obtain ⟨g, hg⟩ : ∃ g, g = wr.heap.size := ⟨_, rfl⟩
      have HG := hide hg
      clear hg
      go_loopw [11, 60] (fun s11 s60 wl => ∃ (k : Nat) (z : Int), k ≤ ws.length ∧ s60 = .int .i64 k ∧ s11 = .int .i64 z ∧ z = t - (baseF t S (ws.take k)).sum ∧ Below wr.heap.size wr wl ∧
        Box wl wr.heap.size 3 ((baseF t S (ws.take k) ++ List.replicate (ws.length - k) 0).map iv).toArray ∧ Box wl (wr.heap.size + 1) 3 ((rangeI k ++ List.replicate (ws.length - k) 0).map iv).toArray) (fun _ s60 _ => ws.length - (intOf s60).toNat)
      case atStart => exact ⟨0, t, Nat.zero_le _, by go_num, rfl, by simp [baseF], HB3.out, by simpa [baseF] using HY1.out, by simpa [rangeI] using HY2.out⟩
      case round =>
        obtain ⟨k, z, hk, rfl, rfl, h11, hb, hx1, hx2⟩ := hrel
        have BL := hide hb
        have BX1 := hide hx1
        have BX2 := hide hx2
        obtain ⟨q0, q1, q2⟩ := c0.out _ hb
        have hzl := hb.size
        have hsb := G0.out.trans (hb.mono (by omega))
        have HSB2 := hide hsb
        clear hb hsb HY1 HY2 HB3
        obtain ⟨t0, t1⟩ : 0 ≤ t ∧ t ≤ 100000000 := ⟨HV.out.t0, HV.out.t1⟩
        by_cases hlt : k < ws.length
        · obtain ⟨b, off, x, hAe, hbB, hx, cx⟩ := Is_at (HSL.out _ HSB2.out) hlt
          subst hAe
          subst h11
          obtain ⟨m, hm⟩ : ∃ m, ws.length = k + 1 + m := ⟨ws.length - k - 1, by omega⟩
          obtain ⟨p1, p2, p3, p4⟩ := base1_bd ⟨t0, t1⟩ sb1 (HV.out.w x (List.mem_of_getElem? hx))
          have wx : IntKind.i64.wrap (t * x) = t * x := by rw [IntKind.wrap_i64]; omega
          have dx : (t * x).tdiv S = t * x / S := Int.tdiv_eq_ediv_of_nonneg p1
          have hst := baseF_step (t := t) (S := S) hx
          have hsn := baseF_snoc (t := t) (S := S) hx
          obtain ⟨_, v1, v2⟩ := baseF_bd (t := t) (S := S) ⟨t0, t1⟩ sb1 (ws := ws.take k) (fun y hy => HV.out.w y (List.mem_of_mem_take hy))
          have hl : (ws.take k).length = k := by rw [List.length_take]; omega
          have hbl : (baseF t S (ws.take k)).length = k := by rw [baseF_len, hl]
          rw [hl] at v2
          have em : ws.length - k = m + 1 := by omega
          have em2 : ws.length - (k + 1) = m := by omega
          rw [em] at hx1 hx2
          have y1 := (hx1.cell k).trans (zero_at hbl)
          have y2 := (hx2.cell k).trans (zero_at (rangeI_len k))
          have f1 := hx1.frz k
          have f2 := hx2.frz k
          have HX1' := hide hx1
          have HX2' := hide hx2
          have HSN := hide hsn
          have HST := hide hst
          have HBL := hide hbl
          have HE2 := hide em2
          generalize hq : (baseF t S (ws.take k)).sum = q at v1 v2 hst ⊢
          have HQ := hide hq
          generalize hd : t * x / S = d at p3 p4 dx hst
          have HD := hide hd
          have wd : IntKind.i64.wrap d = d := by rw [IntKind.wrap_i64]; omega
          have w3 : IntKind.i64.wrap (t - q) = t - q := by rw [IntKind.wrap_i64]; omega
          have w4 : IntKind.i64.wrap (t - q - d) = t - q - d := by rw [IntKind.wrap_i64]; omega
          have hS0' : ¬ S = 0 := by omega
          have hkz : (k : Int) < (ws.length : Int) := by omega
          clear hx1 hx2 hsn hst hbl em em2 hq hd BX1 BX2 p1 p2 p3 p4 v1 v2 hl hx
          go_wp2_with fail
          go_roundw
          case rel =>
            refine ⟨k + 1, _, by omega, by go_num, rfl, ?_, ?_, ?_, ?_⟩
            · rw [HST.out, HQ.out, HD.out]; go_num
            · exact (BL.out.setCell (Nat.le_refl _) _).setCell (Nat.le_succ _) _
            · rw [HE2.out, HSN.out, HD.out]; exact two_a HX1'.out HBL.out _ _
            · rw [HE2.out, rangeI_succ]; exact two_b HX2'.out (rangeI_len k) _ _
          case measure => simp [intOf]; omega
        · obtain rfl : k = ws.length := by omega
          rw [List.take_length, Nat.sub_self, List.replicate_zero, List.append_nil] at hx1
          rw [Nat.sub_self, List.replicate_zero, List.append_nil] at hx2
          rw [List.take_length, HS.out] at h11
          rw [HS.out] at hx1
          obtain ⟨l1, l2⟩ := left_bd HV.out
          obtain ⟨L, hL⟩ := Int.eq_ofNat_of_zero_le l1
          have h11' : z = (L : Int) := by rw [h11, ← hL]; rfl
          rw [hL] at l2
          subst h11'
          have HLq := hide hL
          have HX1' := hide hx1
          have HX2' := hide hx2
          have eg : ∀ args w, (callFunc 190 args).run Tryz.prog w = .ok (.enter 190 args) w := fun args w => by kernel_rfl
          have hgo := HG.out
          have hgl : g < wr.heap.size := by rw [hgo]; exact hx1.lt
          have HSO : Hid (Calls Tryz.prog 189 #[.slice (some ⟨g + 1, 0, none⟩) ws.length ws.length, .func (.func 190) #[] #[.pointer (some ⟨w.heap.size, 0, none⟩), .pointer (some ⟨w.heap.size + 1, 0, none⟩), .pointer (some ⟨w.heap.size + 2, 0, none⟩)]] wr fun e w' => e = .returned (.tuple #[]) ∧ SWi wr (g + 1) (ordF t ws.sum ws) w') := by
            rw [← hgo] at hx2
            have h := stable_any 190 #[.pointer (some ⟨w.heap.size, 0, none⟩), .pointer (some ⟨w.heap.size + 1, 0, none⟩), .pointer (some ⟨w.heap.size + 2, 0, none⟩)] (cfS t ws.sum ws) (fun x => 0 ≤ x ∧ x < ws.length) (g + 1) ws.length (rangeI ws.length) wr wr eg ?_ ⟨hx2, Below.refl _ _⟩ (fun x hx => rangeI_mem hx) (by rw [rangeI_len]; exact Nat.le_refl _) (by rw [rangeI_len]; omega)
            · rw [rangeI_len] at h; exact h
            · intro W x y hx hy hW
              obtain ⟨d0, d1, d2⟩ := c0.out W (BL.out.trans (hW.mono (by omega)))
              have hWW : Below w.heap.size w W := HSB2.out.trans (hW.mono (by omega))
              rw [← HS.out]
              exact share1_any t S ws _ _ _ A ws.length c x y W d0 d1 d2 ((HSL.out W hWW).more hWW.size) ⟨t0, t1⟩ ⟨sb1, sb2⟩ HV.out.w hx hy
          clear hx1 hx2 BX1 BX2 h11 hL
          rw [hgo] at HSO
          rw [HLq.out] at l1
          clear eg hgl hgo
          go_wp2_with fail
          refine HSO.out.mono ?_
          rintro e w2 ⟨rfl, hs2⟩
          have HS2 := hide hs2
          obtain ⟨ord, ho⟩ : ∃ o, o = ordF t ws.sum ws := ⟨_, rfl⟩
          obtain ⟨ps0, hp0⟩ : ∃ p, p = baseF t ws.sum ws := ⟨_, rfl⟩
          have hol : ord.length = ws.length := by rw [ho]; unfold ordF; rw [isort_len, rangeI_len]
          have hpl : ps0.length = ws.length := by rw [hp0, baseF_len]
          have hom : ∀ x ∈ ord, 0 ≤ x ∧ x < ws.length := fun x hx => by rw [ho] at hx; exact rangeI_mem (isort_mem.mp hx)
          have hpb : ∀ y ∈ ps0, 0 ≤ y ∧ y ≤ 100000000000 := by rw [hp0, ← HS.out]; exact (baseF_bd ⟨t0, t1⟩ sb1 HV.out.w).1
          rw [← ho] at hs2
          rw [← hp0] at HX1'
          have gX1 := HX1'.out.below hs2.old (Nat.lt_succ_self _)
          have gX2 := hs2.box
          have gB := HSB2.out.trans (hs2.old.mono (by omega))
          have HsB := hide gB
          have HY1 := hide gX1
          have HY2 := hide gX2
          have HOM := hide hom
          have HPB := hide hpb
          have HOL := hide hol
          have HPL := hide hpl
          have HO := hide ho
          have HP0 := hide hp0
          have hLn : L ≤ ws.length := by omega
          have hLz : (L : Int) ≤ (ws.length : Int) := by omega
          clear hs2 HS2 gX1 gX2 gB hom hpb hol hpl ho hp0 HSO HX1' HX2' q0 q1 q2 hzl
          go_wp2_with fail
          go_loopw [91] (fun s91 wl => ∃ k : Nat, k ≤ L ∧ s91 = .int .i64 k ∧ Below w.heap.size w wl ∧ Box wl g 3 ((bump ps0 (ord.take k)).map iv).toArray ∧ Box wl (g + 1) 3 (ord.map iv).toArray) (fun s91 _ => L - (intOf s91).toNat)
          case atStart => exact ⟨0, Nat.zero_le _, rfl, HsB.out, by rw [HG.out]; exact HY1.out, by rw [HG.out]; exact HY2.out⟩
          case round =>
            obtain ⟨k, hk, rfl, hb, hx1, hx2⟩ := hrel
            have hg := HG.out
            subst hg
            have BQ := hide hb
            have HX1' := hide hx1
            have HX2' := hide hx2
            clear hb HY1 HY2 HsB
            by_cases hlt : k < L
            · have hko : k < ord.length := by have := HOL.out; omega
              obtain ⟨x, hx⟩ : ∃ x, ord[k]? = some x := ⟨ord[k], List.getElem?_eq_getElem hko⟩
              obtain ⟨x0, x1⟩ := HOM.out x (List.mem_of_getElem? hx)
              obtain ⟨i, rfl⟩ := Int.eq_ofNat_of_zero_le x0
              have hin : i < ws.length := by omega
              have hil : i < (bump ps0 (ord.take k)).length := by rw [bump_len, HPL.out]; exact hin
              obtain ⟨y, hy⟩ : ∃ y, (bump ps0 (ord.take k))[i]? = some y := ⟨_, List.getElem?_eq_getElem hil⟩
              obtain ⟨y0, y1⟩ := bump_bd 100000000000 (ord.take k) ps0 HPB.out y (List.mem_of_getElem? hy)
              have htl : (ord.take k).length = k := by rw [List.length_take]; omega
              rw [htl] at y1
              have c2 := (hx2.cell k).trans (iv_at hx)
              have c1 := (hx1.cell i).trans (iv_at hy)
              have f1 := hx1.frz i
              have hst : bump ps0 (ord.take (k + 1)) = (bump ps0 (ord.take k)).set i (y + 1) := by
                rw [bump_step _ _ _ _ hx]
                unfold bump1
                rw [Int.toNat_natCast, List.getD_eq_getElem?_getD, hy]; rfl
              have HST := hide hst
              have hwy : IntKind.i64.wrap (y + 1) = y + 1 := by rw [IntKind.wrap_i64]; omega
              clear hst hx hy hx1 hx2 hil hko htl x1
              go_wp2_with fail
              go_roundw
              case rel =>
                refine ⟨k + 1, by omega, by go_num, BQ.out.setCell (by simp only []; omega) _, ?_, HX2'.out.far (by simp) _⟩
                rw [HST.out, ← iv_set]
                exact HX1'.out.set_ i _
              case measure => simp [intOf]; omega
            · obtain rfl : k = L := by omega
              clear hx1 hx2
              go_wp2
              go_ret2
              refine ⟨_, rfl, ?_, BQ.out⟩
              have h := HX1'.out
              rw [HO.out, HP0.out] at h
              have e : shareF t ws = bump (baseF t ws.sum ws) ((ordF t ws.sum ws).take k) := by unfold shareF; rw [HLq.out]; rfl
              rw [← e] at h
              have hl : (shareF t ws).length = ws.length := by rw [e, bump_len, baseF_len]
              exact h.own (k := 1) (by have := HSB.out.size; omega) (Nat.le_refl _) (by have : ws.length ≤ 16 := n1; show ws.length ≤ maxLen; unfold maxLen; omega) (by simp [hl]) (by rw [iv_inE, List.take_of_length_le]; rw [flat_len inE_len, hl]; exact Nat.le_refl _)
end Go.Proofs.YtbhndfphegflhaaGreat

/- Walks: order.Split; Ints. -/
namespace Go.Proofs.YtbhndfphegflhaaGreat
open Go.RowKit

def wsO (x : Od) : List Int := x.sh.map (·.weight)
/-- An amount divided among the funds of an order: the error and the parts. -/
def splitO (x : Od) (t : Int) : Int × List Int := if mnyS t = true then (0, shareF t (wsO x)) else (2, [])
abbrev Ino (w : World) (B : Nat) (v : Value) (xs : List Int) : Prop := w.ownsRow B 3 1 v xs.length (xs.flatMap inE)
def ResI (w : World) (r : Int × List Int) (e : Ending) (w' : World) : Prop :=
  ∃ v, e = .returned (.tuple #[v, .int .i64 r.1]) ∧ Ino w' w.heap.size v r.2 ∧ Below w.heap.size w w'
theorem ResI.nil {w w' : World} {er : Int} (h : Below w.heap.size w w') : ResI w (er, []) (.returned (.tuple #[.slice none 0 0, .int .i64 er])) w' := ⟨_, rfl, World.ownsRow_nil _ _ _ _, h⟩
theorem Ino_sl {w : World} {B : Nat} {v : Value} {xs : List Int} (h : Ino w B v xs) (hn : xs.length ≤ 140737488355328) : ∃ A c, v = .slice A xs.length c ∧ Is w w.heap.size A xs.length c xs := by
  have h' := h
  rcases h.2 with ⟨rfl, h0⟩ | ⟨g, cap, _, rfl, _⟩
  · refine ⟨none, 0, by rw [h0], ?_⟩
    unfold Ino at h'
    rw [h0] at h' ⊢
    exact Sl.of_own inE_len h' h0 (by omega)
  · exact ⟨_, cap, rfl, Sl.of_own inE_len h' rfl hn⟩
theorem in_sl1 {w : World} {g : Nat} {x : Int} (h : Box w g 3 #[.int .i64 x]) : Is w (g + 1) (some ⟨g, 0, none⟩) 1 1 [x] :=
  Sl.of_box (t := 3) inE_len (xs := [x]) (show Box w g 3 (([x] : List Int).flatMap inE).toArray from h) rfl (Nat.le_refl _) (by omega)
theorem shsOk_W : ∀ (xs P : List Sh), shsOk P xs = true → ∀ y ∈ xs, 1 ≤ y.weight ∧ y.weight ≤ 100
  | [], _, _, y, hy => by simp at hy
  | x :: r, P, h, y, hy => by
    rw [shsOk, Bool.and_eq_true, Bool.and_eq_true, Bool.and_eq_true] at h
    rcases List.mem_cons.1 hy with rfl | hy
    · exact winB_iff.1 h.1.1.2
    · exact shsOk_W r _ h.2 y hy
theorem sharesV_W {x : Od} (h : sharesV x.sh = true) : (1 ≤ x.sh.length ∧ x.sh.length ≤ 4) ∧ ∀ y ∈ wsO x, 1 ≤ y ∧ y ≤ 100 := by
  unfold sharesV lenB at h
  rw [Bool.and_eq_true, winB_iff] at h
  refine ⟨by omega, fun y hy => ?_⟩
  obtain ⟨z, hz, rfl⟩ := List.mem_map.1 hy
  exact shsOk_W _ _ h.2 z hz
theorem wsO_V {x : Od} {t : Int} (h : sharesV x.sh = true) (ht : mnyS t = true) : WsV t (wsO x) := by
  obtain ⟨h1, h2⟩ := sharesV_W h
  unfold mnyS at ht
  rw [Bool.and_eq_true, decide_eq_true_eq, decide_eq_true_eq] at ht
  have hl : (wsO x).length = x.sh.length := by simp [wsO]
  exact ⟨ht.1, ht.2, by omega, by omega, fun y hy => by have := h2 y hy; omega⟩
def wsT (x : Od) (k : Nat) : List Int := (x.sh.take k).map (·.weight)
theorem ws_step {x : Od} {k : Nat} {y : Sh} (h : x.sh[k]? = some y) : wsT x (k + 1) = wsT x k ++ [y.weight] := by
  unfold wsT; rw [take_step h, List.map_append]; rfl
theorem ws_all {x : Od} {k : Nat} (h : x.sh.length ≤ k) : wsT x k = wsO x := by
  unfold wsT wsO; rw [List.take_of_length_le h]
theorem ws_len {x : Od} {k : Nat} (h : k ≤ x.sh.length) : (wsT x k).length = k := by
  unfold wsT; rw [List.length_map, List.length_take]; omega
theorem shareF_len (t : Int) (ws : List Int) : (shareF t ws).length = ws.length := by unfold shareF; rw [bump_len, baseF_len]

set_option maxRecDepth 100000 in
set_option maxHeartbeats 2000000 in
theorem osplit_any (x : Od) (t : Int) (w : World) (hs : OdS w w.heap.size x) (hv : sharesV x.sh = true) :
    Calls Tryz.prog 119 #[odV x, .int .i64 t] w (ResI w (splitO x t)) := by
  obtain ⟨i0, hi0, hz0, hz1, hz2⟩ := info_parts int_info
  have HI := hide (And.intro hi0 (And.intro hz0 (And.intro hz1 hz2)))
  obtain ⟨⟨v1, v2⟩, _⟩ := sharesV_W hv
  have hlen := hs.len
  have hle := hs.le
  have hbig := hs.big
  have HBW := hide ((Below.refl w.heap.size w).alloc (Nat.le_refl _) (.cells (odC x) 35))
  have HBX := hide (Box.new w 35 (odC x))
  obtain ⟨_, d0, d1, d2, d3, d4, d5, d6, d7, d8, d9⟩ := od_box HBX.out (Below.refl _ _)
  have H1 := hide (fun W => mrightS_any t W)
  clear hi0 hz0 hz1 hz2 d0 d1 d2 d3 d4 d5 d6 d7 d8
  by_cases ht : mnyS t = true
  · have e1 : splitO x t = (0, shareF t (wsO x)) := by unfold splitO; rw [if_pos ht]
    rw [e1]
    have HV := hide (wsO_V hv ht)
    have hn4 : x.shn ≤ 4 := by omega
    rw [ht] at H1
    have HS := hide hs
    have HLEN := hide hlen
    clear hs hv ht e1 hlen v1 v2
    unfold odV
    go_enter Tryz.func119, Tryz.ntmps119
    go_wp2_with (go_at_call 122; refine (H1.out _).mono ?_; rintro e w' ⟨rfl, rfl⟩)
    go_loopw [6, 15] (fun v s15 wr => ∃ k : Nat, k ≤ x.shn ∧ s15 = .int .i64 k ∧ Ino wr w.heap.size v (wsT x k) ∧ Below w.heap.size w wr) (fun _ s15 _ => x.shn - (intOf s15).toNat)
    case atStart => exact ⟨0, Nat.zero_le _, rfl, World.ownsRow_nil _ _ _ _, HBW.out⟩
    case round =>
      obtain ⟨k, hk, rfl, ho, hb⟩ := hrel
      have HO := hide ho
      have HB := hide hb
      have hz := hb.size
      have hl : (wsT x k).length = k := ws_len (by have := HLEN.out; omega)
      have HL := hide hl
      clear ho hb hl d9
      by_cases hlt : k < x.shn
      · obtain ⟨b, off, y, hA, hbB, hy, c0, c1⟩ := Shs_at (HS.out.below HB.out) hlt
        have HST := hide (ws_step hy)
        have HSRC := hide (fun w' g (z : Int) (h : Box w' g 3 #[.int .i64 z]) => in_sl1 h)
        have hown2 : ∀ o o', ((wr.alloc o).alloc o').ownsRow w.heap.size 3 1 u6 (wsT x k).length ((wsT x k).flatMap inE) := fun o o' => (HO.out.alloc o).alloc o'
        have HO2 := hide hown2
        have hbn : ∀ u, Box ((wr.alloc (.cells (shC y) 86)).alloc (.cells #[u] 3)) (wr.heap.size + 1) 3 #[u] := by
          intro u; have := Box.new (wr.alloc (.cells (shC y) 86)) 3 #[u]; rwa [World.size_alloc] at this
        have HBN := hide hbn
        have hkz : (k : Int) < (x.shn : Int) := by omega
        rw [hA]
        have HA := hide hA
        clear hy hown2 hA hbn
        go_wp2_with (at_builtin; go_must (refine wpList_append_sl _ rfl _ _ 65 rfl w.heap.size 3 i0 _ 8 Tryz.underlying65 HI.out.1 HI.out.2.1 HI.out.2.2.1 HI.out.2.2.2 rfl (by decide) inE_len inE_one _ _ _ rfl (HO2.out _ _) _ 1 1 rfl (HSRC.out _ _ y.weight (HBN.out _)) (by rw [HL.out]; unfold maxLen; omega) (by rw [HL.out]; omega) (by simp; omega) ?_))
        intro v' w1 hown hg hat
        have H5 := hide hown
        have H6 := hide (((HB.out.alloc hz _).alloc (by simp; omega) _).grown hg (by simp; omega) (by intro q hq; exact (HO.out.lt q hq).1))
        clear hown hg hat
        go_wp2
        go_roundw
        case rel =>
          refine ⟨k + 1, by omega, by go_num, ?_, H6.out⟩
          unfold Ino
          rw [HST.out, List.flatMap_append, List.length_append]
          simpa using H5.out
        case measure => simp [intOf]; omega
      · have hkx : wsT x k = wsO x := ws_all (by have := HLEN.out; omega)
        have ho := HO.out
        rw [hkx] at ho
        have hwl : (wsO x).length = x.shn := by have := HLEN.out; simp [wsO]; omega
        obtain ⟨A1, c1, hv, hsl⟩ := Ino_sl ho (by omega)
        rw [hwl] at hv hsl
        subst hv
        have HP := hide (pshare_any t A1 _ c1 (wsO x) wr hsl HV.out)
        have HWL := hide hwl
        clear hkx ho hwl hsl HO HL
        go_wp2_with fail
        refine HP.out.mono ?_
        rintro e w3 ⟨v, rfl, hown, hb3⟩
        have H5 := hide hown
        have H6 := hide hb3
        clear hown hb3
        go_wp2
        go_ret2
        refine ⟨_, rfl, ?_, HB.out.trans (H6.out.mono hz)⟩
        have h := own_base H5.out hz
        unfold Ino
        rw [shareF_len]
        simpa [HWL.out] using h
  · have ht' : mnyS t = false := by simpa using ht
    have e1 : splitO x t = (2, []) := by unfold splitO; rw [if_neg ht]
    rw [e1]
    rw [ht'] at H1
    clear hs hv ht ht' e1
    unfold odV
    go_enter Tryz.func119, Tryz.ntmps119
    go_wp2_with (go_at_call 122; refine (H1.out _).mono ?_; rintro e w' ⟨rfl, rfl⟩)
    go_ret2
    exact ResI.nil HBW.out

end Go.Proofs.YtbhndfphegflhaaGreat

/- A row of ints; Ints of the reference; slices.Index of ints. -/
namespace Go.Proofs.YtbhndfphegflhaaGreat
open Go.RowKit

set_option maxHeartbeats 1000000 in
theorem index_any (A : Option Addr) (n c : Nat) (xs : List Int) (v : Int) (w : World) (B : Nat) (hs : Is w B A n c xs) :
    Calls Tryz.prog 185 #[.slice A n c, .int .i64 v] w fun e w' => e = .returned (.int .i64 (ix (fun y => v == y) xs)) ∧ w = w' := by
  have hle := hs.le
  have hbig := hs.big
  go_enter Tryz.func185, Tryz.ntmps185
  go_wp2
  go_loop [8] (fun i => ∃ k : Nat, k ≤ n ∧ i = .int .i64 k ∧ ix (fun y => v == y) xs = idxP (fun y => v == y) (xs.drop k) k) (fun i => n - (intOf i).toNat)
  case atStart => exact ⟨0, Nat.zero_le _, rfl, rfl⟩
  case round =>
    obtain ⟨k, hk, rfl, ha⟩ := hrel
    have HA := hide ha
    clear ha
    by_cases hlt : k < n
    · obtain ⟨b, off, x, rfl, hb, hx, c0⟩ := Is_at hs hlt
      have HX := hide (idxP_step (p := fun y => v == y) hx)
      clear hx
      by_cases hq : (v == x) = true
      · go_wp2
        go_ret
        exact ⟨ret_int (by rw [HA.out, HX.out, if_pos hq]), rfl⟩
      · have hq' : (v == x) = false := by simpa using hq
        have HN := hide hq
        clear hq
        go_wp2
        go_round
        case rel => exact ⟨k + 1, by omega, by go_num, by rw [HA.out, HX.out, if_neg HN.out]⟩
        case measure => simp [intOf]; omega
    · go_wp2
      go_ret
      exact ⟨ret_int (by rw [HA.out, idxP_end (by have := hs.len; omega)]), rfl⟩
end Go.Proofs.YtbhndfphegflhaaGreat

/- Dividing an amount: the parts that the sort picks are those that repeated picking of the greatest remainder takes. Plain. -/
namespace Go.Proofs.YtbhndfphegflhaaGreat

/-! ### the order of the sort -/
/-- a stands before b: a greater remainder, or the same and a smaller index. -/
def Rk (f : Int → Int) (a b : Int) : Prop := f b < f a ∨ (f a = f b ∧ a < b)
theorem insK_spec (f : Int → Int) (x : Int) (P : List Int) : ∀ j, j ≤ P.length → (∀ i, insK (fun a b => f b - f a) x P j ≤ i → i < j → f (P.getD i 0) < f x) ∧ (∀ i, i + 1 = insK (fun a b => f b - f a) x P j → f x ≤ f (P.getD i 0))
  | 0, _ => ⟨fun i _ h => by omega, fun i h => by simp [insK] at h⟩
  | j + 1, hj => by
    rw [insK]
    split
    · rename_i h
      obtain ⟨h1, h2⟩ := insK_spec f x P j (by omega)
      refine ⟨fun i h3 h4 => ?_, h2⟩
      by_cases hij : i = j
      · subst hij; omega
      · exact h1 i h3 (by omega)
    · rename_i h
      refine ⟨fun i h3 h4 => by omega, fun i h3 => ?_⟩
      obtain rfl : i = j := by omega
      omega
theorem insF_pw {f : Int → Int} {x : Int} {P : List Int} (hP : P.Pairwise (Rk f)) (hx : ∀ y ∈ P, y < x) : (insF (fun a b => f b - f a) x P).Pairwise (Rk f) := by
  obtain ⟨h1, h2⟩ := insK_spec f x P P.length (Nat.le_refl _)
  have hle := insK_le (fun a b => f b - f a) x P P.length
  unfold insF
  generalize insK (fun a b => f b - f a) x P P.length = k at h1 h2 hle
  rw [List.pairwise_append]
  have hsp := hP
  rw [← List.take_append_drop k P, List.pairwise_append] at hsp
  obtain ⟨p1, p2, p3⟩ := hsp
  have hd : ∀ y ∈ P.drop k, f y < f x := by
    intro y hy
    obtain ⟨i, hi⟩ := List.mem_iff_getElem?.1 hy
    rw [List.getElem?_drop] at hi
    have := h1 (k + i) (by omega) (List.getElem?_eq_some_iff.1 hi).1
    rwa [List.getD_eq_getElem?_getD, hi] at this
  have ht : ∀ y ∈ P.take k, f x ≤ f y := by
    intro y hy
    obtain ⟨i, hi⟩ := List.mem_iff_getElem?.1 hy
    have hik : i < k := by have := (List.getElem?_eq_some_iff.1 hi).1; simp at this; omega
    rw [List.getElem?_take, if_pos hik] at hi
    have hl := h2 (k - 1) (by omega)
    have hkl : P[k - 1]? = some (P[k - 1]'(by omega)) := List.getElem?_eq_getElem _
    rw [List.getD_eq_getElem?_getD, hkl] at hl
    by_cases he : i = k - 1
    · subst he
      rw [hi] at hkl
      cases hkl
      simpa using hl
    · have := List.pairwise_iff_getElem.1 hP i (k - 1) (by omega) (by omega) (by omega)
      obtain ⟨hi1, rfl⟩ := List.getElem?_eq_some_iff.1 hi
      simp at hl
      rcases this with h | ⟨h, _⟩ <;> omega
  refine ⟨p1, ?_, ?_⟩
  · rw [List.pairwise_cons]
    exact ⟨fun y hy => .inl (hd y hy), p2⟩
  · intro a ha b hb
    rcases List.mem_cons.1 hb with rfl | hb
    · have := ht a ha
      have h5 := hx a (List.mem_of_mem_take ha)
      unfold Rk; omega
    · exact p3 a ha b hb
theorem isort_pw (f : Int → Int) : ∀ n : Nat, (isort (fun a b => f b - f a) (rangeI n)).Pairwise (Rk f)
  | 0 => by simp [rangeI, isort]
  | n + 1 => by
    have e : rangeI (n + 1) = rangeI n ++ [(n : Int)] := by simp [rangeI, List.range_succ]
    rw [e, isort_snoc]
    refine insF_pw (isort_pw f n) (fun y hy => ?_)
    rw [isort_mem] at hy
    simp only [rangeI, List.mem_map, List.mem_range] at hy
    obtain ⟨i, hi, rfl⟩ := hy
    simp; omega
theorem ordF_pw (t S : Int) (ws : List Int) : (ordF t S ws).Pairwise (Rk (remF t S ws)) := isort_pw (remF t S ws) ws.length
theorem ordF_len (t S : Int) (ws : List Int) : (ordF t S ws).length = ws.length := by unfold ordF; rw [isort_len]; simp [rangeI]
theorem ordF_mem {t S : Int} {ws : List Int} {x : Int} : x ∈ ordF t S ws ↔ 0 ≤ x ∧ x < ws.length := by
  unfold ordF
  rw [isort_mem]
  simp only [rangeI, List.mem_map, List.mem_range]
  constructor
  · rintro ⟨i, hi, rfl⟩; simp; omega
  · rintro ⟨h1, h2⟩; exact ⟨x.toNat, by omega, by simp; omega⟩

/-! ### what is left of the remainders -/
def remsF (t S : Int) (ws : List Int) : List Int := ws.map (fun w => t * w % S)
def rsF (r : List Int) (js : List Int) : List Int := js.foldl (fun r j => r.set j.toNat (-1)) r
theorem rsF_len (js : List Int) : ∀ r : List Int, (rsF r js).length = r.length := by
  induction js with
  | nil => intro r; rfl
  | cons j js ih => intro r; unfold rsF at ih ⊢; rw [List.foldl_cons, ih]; simp
theorem rsF_get : ∀ (js r : List Int), (∀ j ∈ js, 0 ≤ j) → ∀ q : Nat, q < r.length → (rsF r js).getD q 0 = if (q : Int) ∈ js then -1 else r.getD q 0
  | [], r, _, q, _ => by simp [rsF]
  | j :: js, r, hj, q, hq => by
    have ih := rsF_get js (r.set j.toNat (-1)) (fun i hi => hj i (by simp [hi])) q (by simpa using hq)
    unfold rsF at ih ⊢
    rw [List.foldl_cons, ih]
    have h0 := hj j (by simp)
    by_cases h1 : (q : Int) ∈ js
    · simp [h1]
    · rw [if_neg h1]
      by_cases h2 : (q : Int) = j
      · have : j.toNat = q := by omega
        rw [if_pos (by simp [h2]), this, List.getD_eq_getElem?_getD, List.getElem?_set, if_pos rfl, if_pos (by omega)]; rfl
      · have : ¬ j.toNat = q := by omega
        rw [if_neg (by simp [h1, h2]), List.getD_eq_getElem?_getD, List.getElem?_set, if_neg this, ← List.getD_eq_getElem?_getD]
theorem rsF_step (r : List Int) (is : List Int) (k : Nat) (x : Int) (h : is[k]? = some x) : rsF r (is.take (k + 1)) = (rsF r (is.take k)).set x.toNat (-1) := by
  unfold rsF; rw [take_step h, List.foldl_append]; rfl
/-- b is the first of the greatest among the first n. -/
def Best (r : List Int) (n b : Nat) : Prop := b < n ∧ ∀ q, q < n → r.getD q 0 < r.getD b 0 ∨ (r.getD q 0 = r.getD b 0 ∧ b ≤ q)
theorem Best.one (r : List Int) : Best r 1 0 := by
  refine ⟨by omega, fun q hq => .inr ?_⟩
  obtain rfl : q = 0 := by omega
  exact ⟨rfl, Nat.le_refl _⟩
theorem Best.keep {r : List Int} {n b : Nat} (h : Best r n b) (hx : ¬ r.getD b 0 < r.getD n 0) : Best r (n + 1) b := by
  refine ⟨by have := h.1; omega, fun q hq => ?_⟩
  by_cases hqn : q = n
  · subst hqn; have := h.1; omega
  · exact h.2 q (by omega)
theorem Best.next {r : List Int} {n b : Nat} (h : Best r n b) (hx : r.getD b 0 < r.getD n 0) : Best r (n + 1) n := by
  refine ⟨by omega, fun q hq => ?_⟩
  by_cases hqn : q = n
  · subst hqn; exact .inr ⟨rfl, Nat.le_refl _⟩
  · rcases h.2 q (by omega) with h | ⟨h, _⟩ <;> omega
theorem remF_get {t S : Int} {ws : List Int} {q : Nat} (h : q < ws.length) : remF t S ws q = (remsF t S ws).getD q 0 := by
  unfold remF remsF
  rw [Int.toNat_natCast, List.getD_eq_getElem?_getD, List.getD_eq_getElem?_getD, List.getElem?_map, List.getElem?_eq_getElem h]; rfl
theorem best_ord {t S : Int} {ws : List Int} (hS : 0 < S) {j b : Nat} (hj : j < ws.length) (hb : Best (rsF (remsF t S ws) ((ordF t S ws).take j)) ws.length b) : (ordF t S ws)[j]? = some (b : Int) := by
  have hlo := ordF_len t S ws
  have hpw := ordF_pw t S ws
  have hmem : ∀ x, x ∈ ordF t S ws ↔ 0 ≤ x ∧ x < ws.length := fun x => ordF_mem
  generalize ordF t S ws = os at hlo hpw hmem hb ⊢
  obtain ⟨b1, b2⟩ := hb
  have hrl : (remsF t S ws).length = ws.length := by simp [remsF]
  have hpos : ∀ q : Nat, q < ws.length → 0 ≤ (remsF t S ws).getD q 0 := by
    intro q hq
    rw [List.getD_eq_getElem?_getD, List.getElem?_eq_getElem (by omega)]
    simp only [remsF, List.getElem_map, Option.getD_some]
    exact Int.emod_nonneg _ (by omega)
  have hget := fun q (hq : q < ws.length) => rsF_get (os.take j) (remsF t S ws) (fun x hx => ((hmem x).1 (List.mem_of_mem_take hx)).1) q (by omega)
  have hoj : os[j]? = some (os[j]'(by omega)) := List.getElem?_eq_getElem _
  obtain ⟨o, ho⟩ : ∃ o, o = os[j]'(by omega) := ⟨_, rfl⟩
  rw [← ho] at hoj
  obtain ⟨o1, o2⟩ := (hmem o).1 (List.mem_of_getElem? hoj)
  obtain ⟨on, rfl⟩ : ∃ on : Nat, o = on := ⟨o.toNat, by omega⟩
  have honl : on < ws.length := by omega
  have hpwi := List.pairwise_iff_getElem.1 hpw
  have hirr : ∀ x, ¬ Rk (remF t S ws) x x := by intro x h; unfold Rk at h; omega
  have hon : ¬ (on : Int) ∈ os.take j := by
    intro h
    obtain ⟨i, hi⟩ := List.mem_iff_getElem?.1 h
    have hij : i < j := by have := (List.getElem?_eq_some_iff.1 hi).1; simp at this; omega
    rw [List.getElem?_take, if_pos hij] at hi
    obtain ⟨hi1, hi2⟩ := List.getElem?_eq_some_iff.1 hi
    have := hpwi i j hi1 (by omega) hij
    rw [hi2, ← ho] at this
    exact hirr _ this
  have e1 := hget on honl
  rw [if_neg hon] at e1
  have e2 := hget b b1
  have hbo := b2 on honl
  rw [e1] at hbo
  have hp := hpos on honl
  by_cases hbt : (b : Int) ∈ os.take j
  · rw [if_pos hbt] at e2
    rw [e2] at hbo
    omega
  · rw [if_neg hbt] at e2
    rw [e2] at hbo
    have hbm : (b : Int) ∈ os := (hmem _).2 (by omega)
    obtain ⟨m, hm⟩ := List.mem_iff_getElem?.1 hbm
    obtain ⟨hm1, hm2⟩ := List.getElem?_eq_some_iff.1 hm
    rcases Nat.lt_trichotomy m j with h | h | h
    · exact absurd (List.mem_of_getElem? (i := m) (by rw [List.getElem?_take, if_pos h]; exact hm)) hbt
    · rw [← h]; exact hm
    · have := hpwi j m (by omega) hm1 h
      rw [hm2, ← ho] at this
      unfold Rk at this
      rw [remF_get b1, remF_get honl] at this
      omega
end Go.Proofs.YtbhndfphegflhaaGreat
