/- Walks: Cancel of the reference. Printed by gen_ho_rops.py. -/
import Derived.Test.YtgjhjabnnhhkbaaHoX
namespace Go.Proofs.Ytgjhjabnnhhkbaa
open Go.RowKit

theorem Hos_drew {w : World} {A : Option Addr} {n c : Nat} {xs : List Ho} (h : Hos w w.heap.size A n c xs) : Hos w.drew w.drew.heap.size A n c xs := (h.below (Below.refl w.heap.size w).drew).more (Nat.le_refl _)
theorem Hoo_drew {w : World} {B : Nat} {v : Value} {xs : List Ho} (h : Hoo w B v xs) : Hoo w.drew B v xs := h
def canL (xs : List Ho) (id : Int) : List Ho := xs.filter (fun y => y.id != id)
theorem canL_snoc {xs : List Ho} {k : Nat} {y : Ho} {id : Int} (h : xs[k]? = some y) : canL (xs.take (k + 1)) id = if (y.id != id) = true then canL (xs.take k) id ++ [y] else canL (xs.take k) id := by
  unfold canL
  rw [take_step h, List.filter_append, List.filter_cons, List.filter_nil]
  split <;> simp
theorem canL_len (xs : List Ho) (k : Nat) (id : Int) : (canL (xs.take k) id).length ≤ k :=
  Nat.le_trans (List.length_filter_le _ _) (by rw [List.length_take]; omega)
def cancR (xs : List Ho) (id : Int) : Int × List Ho × Ho := if (getH xs id).2 = true then (0, canL xs id, (getH xs id).1) else (9, [], ho0)
/-- In valid holds the reference takes away the same. -/
theorem cancR_eq {xs : List Ho} (hv : VldH xs) (id : Int) : cancR xs id = cancelH xs id := by
  rcases getH_cases xs id with ⟨h1, h2, _⟩ | ⟨i, x, h1, h2, h3, h4, h5⟩
  · unfold cancR cancelH; rw [h2, if_pos h1]; rfl
  · unfold cancR cancelH
    rw [if_neg (show ¬ atH xs id = -1 by omega), h4, h1, Int.toNat_natCast, if_pos rfl]
    have hi : i < xs.length := (List.getElem?_eq_some_iff.1 h2).1
    have e : canL xs id = xs.take i ++ xs.drop (i + 1) := by
      have hx : xs[i] = x := (List.getElem?_eq_some_iff.1 h2).2
      have hxs : xs = xs.take i ++ x :: xs.drop (i + 1) := by rw [← hx, ← List.drop_eq_getElem_cons hi, List.take_append_drop]
      have hf : canL (xs.take i ++ x :: xs.drop (i + 1)) id = (xs.take i).filter (fun y => y.id != id) ++ (xs.drop (i + 1)).filter (fun y => y.id != id) := by
        unfold canL
        rw [List.filter_append, List.filter_cons, if_neg (by simp [h3])]
      rw [← hxs] at hf
      rw [hf]
      congr 1
      · rw [List.filter_eq_self]
        intro y hy
        have := h5 y hy
        simpa using this
      · rw [List.filter_eq_self]
        intro y hy
        obtain ⟨j, hj⟩ := List.mem_iff_getElem?.1 hy
        rw [List.getElem?_drop] at hj
        have := chkHs_lt _ _ hv.chk i (i + 1 + j) x y (by omega) h2 hj
        simp; omega
    rw [e]

set_option maxRecDepth 100000 in
set_option maxHeartbeats 4000000 in
theorem rcancel_own (A : Option Addr) (n c : Nat) (xs : List Ho) (id : Int) (w : World) (hs : Hos w w.heap.size A n c xs) (hn : n ≤ 1000) :
    Calls Try.prog 36 #[.slice A n c, .int .i64 id] w (ResCo w (cancR xs id)) := by
  obtain ⟨i0, hi0, hz0, hz1, hz2⟩ := info_parts ho_info
  obtain rfl := hs.len
  have hle := hs.le
  have hbig := hs.big
  have hsl : ∀ W, Below w.heap.size w W → Hos W W.heap.size A xs.length c xs := fun W hW => (hs.below hW).more hW.size
  have HI := hide (And.intro hi0 (And.intro hz0 (And.intro hz1 hz2)))
  have B0 := hide ((Below.refl w.heap.size w).alloc (Nat.le_refl _) (.cells #[.int .i64 0, .int .i64 0, .int .i64 0, .int .i64 0, .int .i64 0, .int .i64 0, .int .i64 0, .int .i64 0, .int .i64 0, .int .i64 0, .int .i64 0] 47))
  have Z0 := hide (Below.refl (w.heap.size + 1) (w.alloc (.cells #[.int .i64 0, .int .i64 0, .int .i64 0, .int .i64 0, .int .i64 0, .int .i64 0, .int .i64 0, .int .i64 0, .int .i64 0, .int .i64 0, .int .i64 0] 47)))
  have X0 := hide (show Box (w.alloc (.cells #[.int .i64 0, .int .i64 0, .int .i64 0, .int .i64 0, .int .i64 0, .int .i64 0, .int .i64 0, .int .i64 0, .int .i64 0, .int .i64 0, .int .i64 0] 47)) w.heap.size 47 (hoC ho0) from Box.new w 47 #[.int .i64 0, .int .i64 0, .int .i64 0, .int .i64 0, .int .i64 0, .int .i64 0, .int .i64 0, .int .i64 0, .int .i64 0, .int .i64 0, .int .i64 0])
  have hf := hrget_any A xs.length c xs id (w.alloc (.cells #[.int .i64 0, .int .i64 0, .int .i64 0, .int .i64 0, .int .i64 0, .int .i64 0, .int .i64 0, .int .i64 0, .int .i64 0, .int .i64 0, .int .i64 0] 47)) (hsl _ B0.out)
  rcases getH_cases xs id with ⟨h1, h2, _⟩ | ⟨i, x, h1, h2, h3, h4, _⟩
  · have e1 : cancR xs id = (9, [], ho0) := by unfold cancR; rw [h2]; rfl
    rw [e1]
    rw [h2] at hf
    unfold hoV ho0 at hf
    have HF := hide hf
    clear hf hsl hs h1 h2 e1 hi0 hz0 hz1 hz2
    go_enter Try.func36, Try.ntmps36
    go_wp2_with fail
    refine HF.out.mono ?_
    rintro e w1 ⟨rfl, hb⟩
    obtain ⟨hc, hfz⟩ := bcell hb
    have hz : w.heap.size < w1.heap.size := by have := hb.size; simp at this; omega
    have HB := hide (below_call hb)
    have hal := fun (W : World) (o : Obj) (j : Nat) (h : w.heap.size < W.heap.size) => World.cell?_alloc_lt W o ⟨w.heap.size, j, none⟩ h
    clear hb
    go_wp2
    refine bodyPost_ret (v := .tuple #[.slice none 0 0, hoV ho0, .int .i64 9]) ?_ ?_ ?_
    · simp [results, Try.results36, go_sem, hal, hz, hc, hoV, ho0]
    · rfl
    · refine ⟨.slice none 0 0, rfl, World.ownsRow_nil _ _ _ _, ?_⟩
      first
        | exact (below_ho HB.out (Nat.le_refl _) _ _ _ _ _ _ _ _ _ _ _).alloc (by simp; omega) _
        | exact below_ho (HB.out.alloc (by omega) _) (Nat.le_refl _) _ _ _ _ _ _ _ _ _ _ _
  · have e1 : cancR xs id = (0, canL xs id, x) := by unfold cancR; rw [h4]; rfl
    rw [e1]
    rw [h4] at hf
    unfold hoV at hf
    simp only at hf
    have HF := hide hf
    have HS := hide hs
    clear hf hsl hs h1 h2 h3 h4 e1 hi0 hz0 hz1 hz2
    go_enter Try.func36, Try.ntmps36
    go_wp2_with fail
    refine HF.out.mono ?_
    rintro e w1 ⟨rfl, hb⟩
    have B1 := hide (B0.out.trans (hb.mono (by simp)))
    have X1 := hide (X0.out.below hb (by simp))
    have hz1 : w.heap.size < w1.heap.size := X1.out.lt
    have HBX := hide (Box.new w1 47 (hoC x))
    have BA := hide (B1.out.alloc (Nat.le_of_lt hz1) (.cells (hoC x) 47))
    have XA := hide (X1.out.alloc (.cells (hoC x) 47))
    clear hb HF
    go_wp2
    go_loopw [9, 10] (fun v s10 wr => ∃ k : Nat, k ≤ xs.length ∧ s10 = .int .i64 k ∧ Hoo wr (w1.heap.size + 1) v (canL (xs.take k) id) ∧ Below (w1.heap.size + 1) (w1.alloc (.cells (hoC x) 47)) wr) (fun _ s10 _ => xs.length - (intOf s10).toNat)
    case atStart => exact ⟨0, Nat.zero_le _, rfl, World.ownsRow_nil _ _ _ _, Below.refl _ _⟩
    case round =>
      obtain ⟨k, hk, rfl, ho, hb⟩ := hrel
      have hbw : Below w.heap.size w wr := BA.out.trans (hb.mono (by omega))
      have HO := hide ho
      have HB := hide hb
      have HBW := hide hbw
      have hz : w1.heap.size + 1 ≤ wr.heap.size := by have := hb.size; simpa using this
      have XR := hide (XA.out.below hb (by omega))
      obtain ⟨_, d0, d1, d2, d3, d4, d5, d6, d7, d8, d9, d10⟩ := ho_box HBX.out hb
      clear ho hb hbw
      have hlen := canL_len xs k id
      have HSRC := hide (fun w' z g (h : Box w' g 47 (hoC z)) => ho_sl1 h)
      by_cases hlt : k < xs.length
      · obtain ⟨b, off, y, rfl, hbB, hy, c0, c1, c2, c3, c4, c5, c6, c7, c8, c9, c10⟩ := Hos_at (HS.out.below HBW.out) hlt
        have hst := canL_snoc (id := id) hy
        clear hy d0 d1 d2 d3 d4 d5 d6 d7 d8 d9 d10
        by_cases hq : (y.id != id) = true
        · rw [if_pos hq] at hst
          have HST := hide hst
          clear hst
          have HO' := HO.out
          unfold Hoo at HO'
          generalize hcl : canL (xs.take k) id = zs at HO' HST hlen
          have HO1 := hide HO'
          have hown2 : ∀ o, (wr.alloc o).ownsRow (w1.heap.size + 1) 47 11 u9 zs.length (zs.flatMap hoE) := fun o => HO1.out.alloc o
          have HO2 := hide hown2
          generalize hzl : zs.length = m at HO2 hlen
          have HZL := hide hzl
          clear HO' hown2 hcl hzl
          go_wp2_with (at_builtin; go_must (refine wpList_append_sl _ rfl _ _ 22 rfl (w1.heap.size + 1) 47 i0 _ 88 Try.underlying22 HI.out.1 HI.out.2.1 HI.out.2.2.1 HI.out.2.2.2 rfl (by decide) hoE_len hoE_one _ _ _ rfl (HO2.out _) _ 1 1 rfl (HSRC.out _ y _ (Box.new _ _ _)) (by unfold maxLen; omega) (by omega) (by simp; omega) ?_))
          intro v' w4 hown hg hat
          have H1 := hide hown
          have H2 := hide ((HB.out.alloc (by simpa using hz) _).grown hg (by simp; omega) (by intro q hq; exact (HO1.out.lt q hq).1))
          clear hown hg hat
          go_wp2
          go_roundw
          case rel =>
            refine ⟨k + 1, by omega, by go_num, ?_, H2.out⟩
            unfold Hoo
            rw [HST.out, List.flatMap_append, List.length_append, HZL.out]
            simpa using H1.out
          case measure => simp [intOf]; omega
        · rw [if_neg hq] at hst
          have HST := hide hst
          have hq' : (y.id != id) = false := by simpa using hq
          clear hst hq
          go_wp2
          go_roundw
          case rel =>
            refine ⟨k + 1, by omega, by go_num, ?_, HB.out⟩
            rw [HST.out]
            exact HO.out
          case measure => simp [intOf]; omega
      · have hkx : xs.take k = xs := List.take_of_length_le (by omega)
        have HOw := HO.out
        rw [hkx] at HOw hlen
        generalize hys : canL xs id = ys at HOw hlen
        have HYS := hide hys
        clear hys
        have ho2 := Hoo_far_cells (b := w.heap.size) (by intro e; have := (HOw.lt _ e).1; omega) (hoE x) 0 _ HOw
        obtain ⟨A1, q1, hv, hsl⟩ := Hoo_sl ho2 (by omega)
        subst hv
        have HS2 := hide (own_base ho2 (show w.heap.size ≤ w1.heap.size + 1 by omega))
        have HB3 := hide (below_setCells (Nat.le_refl _) (hoE x) 0 _ HBW.out)
        have r0 := XR.out.cell 0; have r1 := XR.out.cell 1; have r2 := XR.out.cell 2; have r3 := XR.out.cell 3; have r4 := XR.out.cell 4; have r5 := XR.out.cell 5; have r6 := XR.out.cell 6; have r7 := XR.out.cell 7; have r8 := XR.out.cell 8; have r9 := XR.out.cell 9; have r10 := XR.out.cell 10
        (try simp [ho0] at r0 r1 r2 r3 r4 r5 r6 r7 r8 r9 r10)
        have hfz := fun j => XR.out.frz j
        clear ho2 hsl HOw hkx hlen
        go_wp2_with fail
        go_region_with fail
        all_goals
          go_wp2
          refine bodyPost_ret (v := .tuple #[.slice A1 ys.length q1, hoV x, .int .i64 0]) ?_ ?_ ?_
          · simp [results, Try.results36, go_sem, r0, r1, r2, r3, r4, r5, r6, r7, r8, r9, r10, hoV]
          · rfl
          · refine ⟨_, rfl, ?_, HB3.out.drew⟩
            show Hoo _ _ _ (canL xs id)
            rw [HYS.out]
            exact Hoo_drew HS2.out
end Go.Proofs.Ytgjhjabnnhhkbaa
