/- Walks: put, the reference's with. Printed by gen_ho_b.py. -/
import Derived.Test.YtgjhjabnnhhkbaaHoF
import Derived.Test.YtgjhjabnnhhkbaaStep
namespace Go.Proofs.Ytgjhjabnnhhkbaa
open Go.RowKit

/-- What a change of holds hands back: the error and the holds. -/
def ResH (w : World) (r : Int × List Ho) (e : Ending) (w' : World) : Prop :=
  ∃ A n c, e = .returned (.tuple #[.slice A n c, .int .i64 r.1]) ∧ Hos w' w'.heap.size A n c r.2 ∧ Below w.heap.size w w'
theorem ResH.nil {w w' : World} {er : Int} (h : Below w.heap.size w w') : ResH w (er, []) (.returned (.tuple #[.slice none 0 0, .int .i64 er])) w' := ⟨none, 0, 0, rfl, Sl.none_, h⟩
theorem ho_sl1 {w : World} {g : Nat} {x : Ho} (h : Box w g 47 (hoC x)) : Hos w (g + 1) (some ⟨g, 0, none⟩) 1 1 [x] :=
  Sl.of_box (t := 47) hoE_len (xs := [x]) (show Box w g 47 (([x] : List Ho).flatMap hoE).toArray from h) rfl (Nat.le_refl _) (by omega)

/-- put: a copy in which one element is replaced. -/
theorem hput_any (A : Option Addr) (n c i : Nat) (x : Ho) (xs : List Ho) (w : World) (hs : Hos w w.heap.size A n c xs) (hn : n ≤ 1000) (hi : i < n) :
    Calls Try.prog 49 #[.slice A n c, .int .i64 i, hoV x] w fun e w' => ∃ v, e = .returned v ∧ Hoo w' w.heap.size v (xs.set i x) ∧ Below w.heap.size w w' := by
  obtain rfl := hs.len
  have hcl := fun o => ho_clone A xs.length c xs (w.alloc o) ((hs.alloc (Nat.le_refl _) o).more (by simp)) hn
  have HC := hide hcl
  clear hcl hs
  unfold hoV
  go_enter Try.func49, Try.ntmps49
  go_wp2_with fail
  refine (HC.out _).mono ?_
  rintro e w1 ⟨v, rfl, hown, hb⟩
  obtain ⟨bx, r0, r1, r2, r3, r4, r5, r6, r7, r8, r9, r10⟩ := ho_box (x := x) (Box.new w 47 (hoC x)) (hb.mono (by simp))
  rcases own_box hown with ⟨_, h0⟩ | ⟨g, cap, cur, rfl, hbg, hB, hnc, hcm, hcs, htk⟩
  · omega
  · have hcl : ∀ j, i * 11 ≤ j → j < (i + 1) * 11 → ∃ u, w1.cell? ⟨g, j, none⟩ = some u := fun j _ h2 => by
      rw [hB.cell, Array.getElem?_eq_getElem (by omega)]; exact ⟨_, rfl⟩
    obtain ⟨u0, q0⟩ := hcl (i * 11) (by omega) (by omega)
    obtain ⟨u1, q1⟩ := hcl (i * 11 + 1) (by omega) (by omega)
    obtain ⟨u2, q2⟩ := hcl (i * 11 + 2) (by omega) (by omega)
    obtain ⟨u3, q3⟩ := hcl (i * 11 + 3) (by omega) (by omega)
    obtain ⟨u4, q4⟩ := hcl (i * 11 + 4) (by omega) (by omega)
    obtain ⟨u5, q5⟩ := hcl (i * 11 + 5) (by omega) (by omega)
    obtain ⟨u6, q6⟩ := hcl (i * 11 + 6) (by omega) (by omega)
    obtain ⟨u7, q7⟩ := hcl (i * 11 + 7) (by omega) (by omega)
    obtain ⟨u8, q8⟩ := hcl (i * 11 + 8) (by omega) (by omega)
    obtain ⟨u9, q9⟩ := hcl (i * 11 + 9) (by omega) (by omega)
    obtain ⟨u10, q10⟩ := hcl (i * 11 + 10) (by omega) (by omega)
    have hfz := fun j => hB.frz j
    have HO := hide hown
    have hbg' : w.heap.size ≤ g := by simp at hbg; omega
    have hin : i < xs.length := hi
    clear bx hcl htk hcs hB hown
    go_wp2
    go_ret
    refine ⟨_, rfl, ?_, below_setCells hbg' (hoE x) (i * 11) _ (below_call hb)⟩
    have := own_setk hoE_len HO.out rfl hi x
    unfold Hoo
    rw [List.length_set]
    exact own_base this (by simp)

/-- The orders in which x replaces those with its ID. -/
def withH (xs : List Ho) (x : Ho) : List Ho := xs.map (fun y => if (y.id == x.id) = true then x else y)
theorem withH_snoc {xs : List Ho} {k : Nat} {x y : Ho} (h : xs[k]? = some y) : withH (xs.take (k + 1)) x = withH (xs.take k) x ++ [if (y.id == x.id) = true then x else y] := by
  unfold withH
  rw [take_step h, List.map_append]; rfl

set_option maxHeartbeats 1000000 in
theorem hrwith_any (A : Option Addr) (n c : Nat) (xs : List Ho) (x : Ho) (w : World) (hs : Hos w w.heap.size A n c xs) (hn : n ≤ 1000) :
    Calls Try.prog 52 #[.slice A n c, hoV x] w fun e w' => ∃ v, e = .returned v ∧ Hoo w' w.heap.size v (withH xs x) ∧ Below w.heap.size w w' := by
  obtain ⟨i0, hi, hz0, hz1, hz2⟩ := info_parts ho_info
  obtain rfl := hs.len
  have hle := hs.le
  have hbig := hs.big
  have HS := hide hs
  have HI := hide (And.intro hi (And.intro hz0 (And.intro hz1 hz2)))
  have HBX := hide (Box.new w 47 (hoC x))
  clear hs hi hz0 hz1 hz2
  unfold hoV
  go_enter Try.func52, Try.ntmps52
  go_wp2
  go_loopw [5, 6] (fun v s6 wr => ∃ k : Nat, k ≤ xs.length ∧ s6 = .int .i64 k ∧ Hoo wr (w.heap.size + 1) v (withH (xs.take k) x) ∧ Below (w.heap.size + 1) (w.alloc (.cells (hoC x) 47)) wr) (fun _ s6 _ => xs.length - (intOf s6).toNat)
  case atStart => exact ⟨0, Nat.zero_le _, rfl, World.ownsRow_nil _ _ _ _, Below.refl _ _⟩
  case round =>
    obtain ⟨k, hk, rfl, ho, hb⟩ := hrel
    have hbw : Below w.heap.size w wr := below_call (o := .cells (hoC x) 47) (by rw [World.size_alloc]; exact hb)
    have HO := hide ho
    have HB := hide hb
    have HBW := hide hbw
    have hz : w.heap.size + 1 ≤ wr.heap.size := by have := hb.size; simpa using this
    obtain ⟨_, d0, d1, d2, d3, d4, d5, d6, d7, d8, d9, d10⟩ := ho_box HBX.out hb
    clear ho hb hbw
    by_cases hlt : k < xs.length
    · obtain ⟨b, off, y, rfl, hbB, hy, c0, c1, c2, c3, c4, c5, c6, c7, c8, c9, c10⟩ := Hos_at (HS.out.below HBW.out) hlt
      have hst := withH_snoc (x := x) hy
      have hlen : (withH (xs.take k) x).length = k := by unfold withH; rw [List.length_map, List.length_take]; omega
      have HLEN := hide hlen
      have hsrc : ∀ w' z g, Box w' g 47 (hoC z) → Hos w' (g + 1) (some ⟨g, 0, none⟩) 1 1 [z] := fun w' z g h => ho_sl1 h
      have HSRC := hide hsrc
      have hown2 : ∀ m o, ((wr.drewN m).alloc o).ownsRow (w.heap.size + 1) 47 11 u5 (withH (xs.take k) x).length ((withH (xs.take k) x).flatMap hoE) := fun m o => (show (wr.drewN m).ownsRow _ _ _ _ _ _ from HO.out).alloc o
      have HO2 := hide hown2
      have HBD := hide (fun m => below_drewN HB.out m)
      by_cases hp : (y.id == x.id) = true
      · rw [if_pos hp] at hst
        have HST := hide hst
        clear hy hst hsrc hown2 hlen
        go_wp2_with fail
        go_quiet (fail)
        go_wp2_with (at_builtin; go_must (refine wpList_append_sl _ rfl _ _ 22 rfl (w.heap.size + 1) 47 i0 _ 88 Try.underlying22 HI.out.1 HI.out.2.1 HI.out.2.2.1 HI.out.2.2.2 rfl (by decide) hoE_len hoE_one _ _ _ rfl (HO2.out _ _) _ 1 1 rfl (HSRC.out _ x _ (Box.new _ _ _)) (by rw [HLEN.out]; unfold maxLen; omega) (by rw [HLEN.out]; omega) (by simp; omega) ?_))
        intro v' w1 hown hg hat
        have H1 := hide hown
        have H2 := hide (((HBD.out _).alloc (by simpa using hz) _).grown hg (by simp; omega) (by intro q hq; exact (HO.out.lt q hq).1))
        clear hown hg hat
        go_wp2
        go_roundw
        case rel =>
          refine ⟨k + 1, by omega, by go_num, ?_, H2.out⟩
          unfold Hoo
          rw [HST.out, List.flatMap_append, List.length_append]
          exact H1.out
        case measure => simp [intOf]; omega
      · have hpf : (y.id == x.id) = false := by simpa using hp
        rw [if_neg hp] at hst
        have HST := hide hst
        clear hy hst hsrc hown2 hlen hp
        go_wp2_with fail
        go_quiet (fail)
        go_wp2_with (at_builtin; go_must (refine wpList_append_sl _ rfl _ _ 22 rfl (w.heap.size + 1) 47 i0 _ 88 Try.underlying22 HI.out.1 HI.out.2.1 HI.out.2.2.1 HI.out.2.2.2 rfl (by decide) hoE_len hoE_one _ _ _ rfl (HO2.out _ _) _ 1 1 rfl (HSRC.out _ y _ (Box.new _ _ _)) (by rw [HLEN.out]; unfold maxLen; omega) (by rw [HLEN.out]; omega) (by simp; omega) ?_))
        intro v' w1 hown hg hat
        have H1 := hide hown
        have H2 := hide (((HBD.out _).alloc (by simpa using hz) _).grown hg (by simp; omega) (by intro q hq; exact (HO.out.lt q hq).1))
        clear hown hg hat
        go_wp2
        go_roundw
        case rel =>
          refine ⟨k + 1, by omega, by go_num, ?_, H2.out⟩
          unfold Hoo
          rw [HST.out, List.flatMap_append, List.length_append]
          exact H1.out
        case measure => simp [intOf]; omega
    · go_wp2
      go_ret
      refine ⟨u5, rfl, ?_, HBW.out⟩
      have := HO.out
      rw [List.take_of_length_le (by omega)] at this
      exact own_base this (by omega)
end Go.Proofs.Ytgjhjabnnhhkbaa
