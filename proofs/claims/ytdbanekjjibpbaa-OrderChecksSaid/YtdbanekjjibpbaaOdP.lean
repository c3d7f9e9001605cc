/- Walks: the reference's Split; few, valid, one. -/
import Derived.Test.YtdbanekjjibpbaaShD
import Derived.Test.YtdbanekjjibpbaaOdE
namespace Go.Proofs.Ytdbanekjjibpbaa
open Go.RowKit

theorem mnyS_win (t : Int) : winB t 0 100000000 = mnyS t := rfl
set_option maxRecDepth 100000 in
set_option maxHeartbeats 2000000 in
theorem rsplit_any (x : Od) (t : Int) (w : World) (hs : OdS w w.heap.size x) (hv : sharesV x.sh = true) :
    Calls Try.prog 23 #[odV x, .int .i64 t] w (ResI w (splitO x t)) := by
  obtain ⟨i0, hi0, hz0, hz1, hz2⟩ := info_parts int_info
  have HI := hide (And.intro hi0 (And.intro hz0 (And.intro hz1 hz2)))
  obtain ⟨⟨v1, v2⟩, _⟩ := sharesV_W hv
  have hlen := hs.len
  have hle := hs.le
  have hbig := hs.big
  have HBW := hide ((Below.refl w.heap.size w).alloc (Nat.le_refl _) (.cells (odC x) 37))
  have HBX := hide (Box.new w 37 (odC x))
  have H1 := hide (fun W => r04right_any t W)
  rw [mnyS_win] at H1
  clear hi0 hz0 hz1 hz2
  by_cases ht : mnyS t = true
  · have e1 : splitO x t = (0, shareF t (wsO x)) := by unfold splitO; rw [if_pos ht]
    rw [e1]
    have HV := hide (wsO_V hv ht)
    have hn4 : x.shn ≤ 4 := by omega
    rw [ht] at H1
    have HS := hide hs
    have HLEN := hide hlen
    clear hs hv ht e1 hlen v1 v2
    unfold odV
    go_enter Try.func23, Try.ntmps23
    go_wp2_with (go_at_call 39; refine (H1.out _).mono ?_; rintro e w' ⟨rfl, rfl⟩)
    go_loopw [6, 7] (fun v s7 wr => ∃ k : Nat, k ≤ x.shn ∧ s7 = .int .i64 k ∧ Ino wr (w.heap.size + 1) v (wsT x k) ∧ Below (w.heap.size + 1) (w.alloc (.cells (odC x) 37)) wr) (fun _ s7 _ => x.shn - (intOf s7).toNat)
    case atStart => exact ⟨0, Nat.zero_le _, rfl, World.ownsRow_nil _ _ _ _, Below.refl _ _⟩
    case round =>
      obtain ⟨k, hk, rfl, ho, hb⟩ := hrel
      have hbw : Below w.heap.size w wr := below_call (o := .cells (odC x) 37) (by rw [World.size_alloc]; exact hb)
      have HO := hide ho
      have HB := hide hb
      clear HBW
      have HBW := hide hbw
      have hz : w.heap.size + 1 ≤ wr.heap.size := by have := hb.size; simpa using this
      obtain ⟨_, d0, d1, d2, d3, d4, d5, d6, d7, d8, d9⟩ := od_box HBX.out hb
      have hl : (wsT x k).length = k := ws_len (by have := HLEN.out; omega)
      have HL := hide hl
      clear ho hb hl hbw d0 d1 d2 d3 d4 d5 d6 d7 d8
      by_cases hlt : k < x.shn
      · obtain ⟨b, off, y, hA, hbB, hy, c0, c1⟩ := Shs_at (HS.out.below HBW.out) hlt
        have HST := hide (ws_step hy)
        have HSRC := hide (fun w' g (z : Int) (h : Box w' g 3 #[.int .i64 z]) => in_sl1 h)
        have hown2 : ∀ o, (wr.alloc o).ownsRow (w.heap.size + 1) 3 1 u6 (wsT x k).length ((wsT x k).flatMap inE) := fun o => HO.out.alloc o
        have HO2 := hide hown2
        have hkz : (k : Int) < (x.shn : Int) := by omega
        rw [hA] at d9
        have HA := hide hA
        clear hy hown2 hA
        go_wp2_with (at_builtin; go_must (refine wpList_append_sl _ rfl _ _ 41 rfl (w.heap.size + 1) 3 i0 _ 8 Try.underlying41 HI.out.1 HI.out.2.1 HI.out.2.2.1 HI.out.2.2.2 rfl (by decide) inE_len inE_one _ _ _ rfl (HO2.out _) _ 1 1 rfl (HSRC.out _ _ y.weight (Box.new _ _ _)) (by rw [HL.out]; unfold maxLen; omega) (by rw [HL.out]; omega) (by simp; omega) ?_))
        intro v' w1 hown hg hat
        have H5 := hide hown
        have H6 := hide ((HB.out.alloc (by simpa using hz) _).grown hg (by simp; omega) (by intro q hq; exact (HO.out.lt q hq).1))
        clear hown hg hat
        go_wp2
        go_roundw
        case rel =>
          refine ⟨k + 1, by omega, by go_num, ?_, H6.out⟩
          unfold Ino
          rw [HST.out, List.flatMap_append, List.length_append]
          simpa using H5.out
        case measure => simp [intOf]; omega
      · have hkx : wsT x k = wsO x := ws_all (by have := HLEN.out; omega)
        have ho := HO.out
        rw [hkx] at ho
        have hwl : (wsO x).length = x.shn := by have := HLEN.out; simp [wsO]; omega
        obtain ⟨A1, c1, hv, hsl⟩ := Ino_sl ho (by omega)
        rw [hwl] at hv hsl
        subst hv
        have HP := hide (rshare_any t A1 _ c1 (wsO x) wr hsl HV.out)
        have HWL := hide hwl
        clear hkx ho hwl hsl HO HL
        go_wp2_with fail
        refine HP.out.mono ?_
        rintro e w3 ⟨v, rfl, hown, hb3⟩
        have H5 := hide hown
        have H6 := hide hb3
        clear hown hb3
        go_wp2
        go_ret2
        exact ⟨_, rfl, own_base H5.out (by omega), HBW.out.trans (H6.out.mono (by omega))⟩
  · have ht' : mnyS t = false := by simpa using ht
    have e1 : splitO x t = (2, []) := by unfold splitO; rw [if_neg ht]
    rw [e1]
    rw [ht'] at H1
    clear hs hv ht ht' e1
    unfold odV
    go_enter Try.func23, Try.ntmps23
    go_wp2_with (go_at_call 39; refine (H1.out _).mono ?_; rintro e w' ⟨rfl, rfl⟩)
    go_ret2
    exact ResI.nil HBW.out

/-- At most 70 orders with at most 8 shares. -/
def fewO (xs : List Od) : Bool := decide (xs.length ≤ 70) && xs.all (fun x => decide (x.shn ≤ 8))
theorem all_step {xs : List Od} {k : Nat} {x : Od} (p : Od → Bool) (h : xs[k]? = some x) : (xs.drop k).all p = (p x && (xs.drop (k + 1)).all p) := by
  obtain ⟨hk, rfl⟩ := List.getElem?_eq_some_iff.1 h
  rw [List.drop_eq_getElem_cons hk, List.all_cons]
set_option maxHeartbeats 1000000 in
theorem few_any (A : Option Addr) (n c : Nat) (xs : List Od) (w : World) (B : Nat) (hs : Ods w B A n c xs) :
    Calls Try.prog 27 #[.slice A n c] w fun e w' => e = .returned (.bool (fewO xs)) ∧ w = w' := by
  obtain rfl := hs.len
  have hle := hs.le
  have hbig := hs.big
  have HS := hide hs
  clear hs
  by_cases h70 : xs.length ≤ 70
  · have hr : fewO xs = xs.all (fun x => decide (x.shn ≤ 8)) := by unfold fewO; simp [h70]
    have HR := hide hr
    clear hr
    go_enter Try.func27, Try.ntmps27
    go_wp2
    go_loop [3] (fun i => ∃ k : Nat, k ≤ xs.length ∧ i = .int .i64 k ∧ xs.all (fun x => decide (x.shn ≤ 8)) = (xs.drop k).all (fun x => decide (x.shn ≤ 8))) (fun i => xs.length - (intOf i).toNat)
    case atStart => exact ⟨0, Nat.zero_le _, rfl, rfl⟩
    case round =>
      obtain ⟨k, hk, rfl, ha⟩ := hrel
      have HA := hide ha
      clear ha
      by_cases hlt : k < xs.length
      · obtain ⟨b, off, x, rfl, hb, hx, c0, c1, c2, c3, c4, c5, c6, c7, c8, c9⟩ := Ods_at HS.out hlt
        have HX := hide (all_step (fun x => decide (x.shn ≤ 8)) hx)
        clear hx
        by_cases h8 : x.shn ≤ 8
        · have h8z : ¬ (8 : Int) < (x.shn : Int) := by omega
          go_wp2
          go_round
          case rel => exact ⟨k + 1, by omega, by go_num, by rw [HA.out, HX.out, decide_eq_true h8, Bool.true_and]⟩
          case measure => simp [intOf]; omega
        · have h8z : (8 : Int) < (x.shn : Int) := by omega
          go_wp2
          go_ret
          exact ⟨ret_bool (by rw [HR.out, HA.out, HX.out, decide_eq_false h8, Bool.false_and]), rfl⟩
      · go_wp2
        go_ret
        exact ⟨ret_bool (by rw [HR.out, HA.out, List.drop_eq_nil_of_le (by omega)]; rfl), rfl⟩
  · have hr : fewO xs = false := by unfold fewO; simp [h70]
    rw [hr]
    clear hr
    have h7 : (70 : Int) < (xs.length : Int) := by omega
    go_enter Try.func27, Try.ntmps27
    go_wp2
    go_ret
    exact ⟨rfl, rfl⟩
/-- At most 60 orders, and valid. -/
def validO (xs : List Od) : Bool := fewO xs && decide (xs.length ≤ 60) && decide (rightO xs = 0)
theorem fewO_8 {xs : List Od} (h : fewO xs = true) : ∀ x ∈ xs, x.shn ≤ 8 := by
  unfold fewO at h
  rw [Bool.and_eq_true, List.all_eq_true] at h
  exact fun x hx => by simpa using h.2 x hx
set_option maxHeartbeats 1000000 in
theorem valid_any (A : Option Addr) (n c : Nat) (xs : List Od) (w : World) (hs : Ods w w.heap.size A n c xs) (hss : ∀ x ∈ xs, x.shn ≤ 8 → OdS w w.heap.size x) :
    Calls Try.prog 11 #[.slice A n c] w fun e w' => e = .returned (.bool (validO xs)) ∧ Below w.heap.size w w' := by
  obtain rfl := hs.len
  have hbig := hs.big
  have HF := hide (few_any A _ c xs w _ hs)
  cases hf : fewO xs with
  | false =>
    have hr : validO xs = false := by unfold validO; rw [hf]; rfl
    rw [hr]
    rw [hf] at HF
    clear hr hf hs hss
    go_enter Try.func11, Try.ntmps11
    go_wp2_with (go_at_call 27; refine HF.out.mono ?_; rintro e w' ⟨rfl, rfl⟩)
    go_ret
    exact ⟨rfl, Below.refl _ _⟩
  | true =>
    have HR := hide (r39right_any A _ c xs w hs (fun x hx => hss x hx (fewO_8 hf x hx)))
    rw [hf] at HF
    by_cases h60 : xs.length ≤ 60
    · have h6 : (xs.length : Int) ≤ 60 := by omega
      have hr : validO xs = decide (rightO xs = 0) := by unfold validO; rw [hf]; simp [h60]
      rw [hr]
      have hd : decide (rightO xs = 0) = (rightO xs == 0) := by simp [BEq.beq]
      rw [hd]
      generalize rightO xs = r at HR
      clear hr hf hs hss hd
      go_enter Try.func11, Try.ntmps11
      go_wp2_with (first | (go_at_call 27; refine HF.out.mono ?_; rintro e w' ⟨rfl, rfl⟩) | (go_at_call 29; refine HR.out.mono ?_; rintro e w' ⟨rfl, hb⟩))
      go_ret
      exact ⟨rfl, hb⟩
    · have h6 : ¬ (xs.length : Int) ≤ 60 := by omega
      have hr : validO xs = false := by unfold validO; rw [hf]; simp [h60]
      rw [hr]
      clear hr hf hs hss HR
      go_enter Try.func11, Try.ntmps11
      go_wp2_with (go_at_call 27; refine HF.out.mono ?_; rintro e w' ⟨rfl, rfl⟩)
      go_ret
      exact ⟨rfl, Below.refl _ _⟩
end Go.Proofs.Ytdbanekjjibpbaa
