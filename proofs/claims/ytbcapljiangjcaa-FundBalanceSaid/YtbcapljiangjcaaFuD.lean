/- Walks: '==' of two funds; Same; changed. -/
import Derived.Test.YtbcapljiangjcaaFuC
namespace Go.Proofs.Ytbcapljiangjcaa
open Go.RowKit

theorem fu_struct : Try.prog.underlying 26 = some (.struct (Try.prog.fieldsOf 26)) := by kernel_rfl
theorem fu_stood : Try.prog.stoodInHeld 26 = false := by kernel_rfl

theorem fu_eq (x y : Fu) (w : World) : (Op.equalIn 10000 26 (fuV x) (fuV y)).run Try.prog w = .ok (decide (x = y)) w := by
  obtain ⟨a0, a1, a2, a3, a4⟩ := x
  obtain ⟨b0, b1, b2, b3, b4⟩ := y
  have u3 := Try.underlying3
  simp only [fuV]
  rw [show (10000 : Nat) = 9999 + 1 from rfl, run_equalIn_agg w 9999 26 _ _ fu_struct fu_stood]
  simp only [Program.fieldsOf, Try.underlying26]
  go_simp
  by_cases h0 : a0 = b0 <;> by_cases h1 : a1 = b1 <;> by_cases h2 : a2 = b2 <;> by_cases h3 : a3 = b3 <;> by_cases h4 : a4 = b4 <;> simp [h0, h1, h2, h3, h4]

theorem fu_neq (x y : Fu) (w : World) : (binOp .neq 26 (fuV x) (fuV y)).run Try.prog w = .ok (.bool (!decide (x = y))) w := by
  have h := fu_eq x y w
  unfold fuV at h ⊢
  rw [run_neq_struct, h]; rfl
theorem fu_eql (x y : Fu) (w : World) : (binOp .eql 26 (fuV x) (fuV y)).run Try.prog w = .ok (.bool (decide (x = y))) w := by
  have h := fu_eq x y w
  unfold fuV at h ⊢
  rw [run_eql_struct, h]; rfl
theorem fu_guard : Try.prog.eqGuardType Try.prog.depth 26 = false := by kernel_rfl

set_option maxHeartbeats 400000 in
theorem same_any (A A' : Option Addr) (n c n' c' : Nat) (xs ys : List Fu) (w : World) (hs : Fs w w.heap.size A n c xs) (ht : Fs w w.heap.size A' n' c' ys) :
    Calls Try.prog 23 #[.slice A n c, .slice A' n' c'] w fun e w' => e = .returned (.bool (decide (xs = ys))) ∧ Below w.heap.size w w' := by
  have hbig := hs.big
  have hbig' := ht.big
  have HS := hide hs
  have HT := hide ht
  clear hs ht
  by_cases hnn : n = n'
  · subst hnn
    have hgd := fu_guard
    go_enter Try.func23, Try.ntmps23
    go_wp2
    go_loopw [5] (fun i wr => ∃ k : Nat, k ≤ n ∧ i = .int .i64 k ∧ Below w.heap.size w wr ∧ xs.take k = ys.take k) (fun i _ => n - (intOf i).toNat)
    case atStart => exact ⟨0, Nat.zero_le _, rfl, Below.refl _ _, rfl⟩
    case round =>
      obtain ⟨k, hk, rfl, hb, ha⟩ := hrel
      have HA := hide ha
      have HB := hide hb
      clear ha hb
      by_cases hlt : k < n
      · obtain ⟨b, off, x, rfl, hbB, hx, c0, c1, c2, c3, c4⟩ := Fs_at (HS.out.below HB.out) hlt
        obtain ⟨b', off', y, rfl, hbB', hy, d0, d1, d2, d3, d4⟩ := Fs_at (HT.out.below HB.out) hlt
        have HX := hide hx
        have HY := hide hy
        clear hx hy
        have hkk : (k : Int) < (n : Int) := by omega
        have hq := fun w => fu_neq x y w
        by_cases hxy : x = y
        · subst hxy
          simp only [decide_true, Bool.not_true] at hq
          unfold fuV at hq
          go_wp2
          go_quiet (fail)
          go_wp2
          go_roundw
          case rel =>
            refine ⟨k + 1, by omega, by go_num, below_drewN HB.out _, ?_⟩
            obtain ⟨h1, h2⟩ := List.getElem?_eq_some_iff.1 HX.out
            obtain ⟨h3, h4⟩ := List.getElem?_eq_some_iff.1 HY.out
            rw [List.take_succ_eq_append_getElem h1, List.take_succ_eq_append_getElem h3, HA.out, h2, h4]
          case measure => simp [intOf]; omega
        · have hd : decide (x = y) = false := by simpa using hxy
          simp only [hd, Bool.not_false] at hq
          have HXY := hide hxy
          clear hxy hd
          unfold fuV at hq
          go_wp2
          go_quiet (fail)
          go_wp2
          go_ret
          refine ⟨ret_bool ?_, below_drewN HB.out _⟩
          have : xs ≠ ys := by
            intro e
            have h1 := HX.out
            rw [e, HY.out] at h1
            exact HXY.out (Option.some.inj h1).symm
          simp [this]
      · go_wp2
        go_ret
        refine ⟨ret_bool ?_, HB.out⟩
        have h1 := HS.out.len
        have h2 := HT.out.len
        have h3 := HA.out
        rw [List.take_of_length_le (by omega), List.take_of_length_le (by omega)] at h3
        simp [h3]
  · have hne : ((n : Int) == (n' : Int)) = false := by simp; omega
    go_enter Try.func23, Try.ntmps23
    go_wp2
    go_ret
    refine ⟨ret_bool ?_, Below.refl _ _⟩
    have : xs ≠ ys := by
      intro e; have h1 := HS.out.len; have h2 := HT.out.len; subst e; omega
    simp [this]

/-- What 'changed' makes of a fund. -/
def chg (b e s : Int) (x : Fu) : Fu := { x with budget := x.budget + b, enc := x.enc + e, spent := x.spent + s }

set_option maxHeartbeats 400000 in
theorem changed_any (A : Option Addr) (n c : Nat) (xs : List Fu) (i : Nat) (x : Fu) (db de ds : Int) (w : World) (hs : Fs w w.heap.size A n c xs) (hn : n ≤ 1000) (hx : xs[i]? = some x)
    (hb : I64 (x.budget + db)) (he : I64 (x.enc + de)) (hsp : I64 (x.spent + ds)) :
    Calls Try.prog 46 #[.slice A n c, .int .i64 i, .int .i64 db, .int .i64 de, .int .i64 ds] w fun e w' => ∃ v, e = .returned v ∧ Fo w' w.heap.size v (xs.set i (chg db de ds x)) ∧ Below w.heap.size w w' := by
  obtain ⟨i0, hi, hz0, hz1, hz2⟩ := info_parts fu_info
  have hbig := hs.big
  have hin : i < n := by have := (List.getElem?_eq_some_iff.1 hx).1; have := hs.len; omega
  obtain ⟨hb1, hb2⟩ := hb
  obtain ⟨he1, he2⟩ := he
  obtain ⟨hs1, hs2⟩ := hsp
  have HX := hide hx
  have HS := hide hs
  clear hs hx
  go_enter Try.func46, Try.ntmps46
  go_wp2_with (at_builtin; go_must (refine wpList_append_sl _ rfl _ _ 22 rfl w.heap.size 26 i0 _ 40 Try.underlying22 hi hz0 hz1 hz2 rfl (by decide) fuE_len fuE_one _ 0 [] rfl (World.ownsRow_made w #[] 0 (Nat.le_refl _) (Nat.zero_le _) rfl) A n c rfl (HS.out.alloc (Nat.le_refl _) _) (by unfold maxLen; omega) (by omega) (by simp) ?_))
  intro v1 w1 hown hg hat
  have hbel : Below w.heap.size w w1 := ((Below.refl _ w).alloc (Nat.le_refl _) _).grown hg (by simp) (by intro k hk; simp [Value.ownBlock] at hk; omega)
  have hl := HS.out.len
  obtain ⟨g, cap, hv, hgb, hgl⟩ := hown.form (by omega)
  subst hv
  have hc := fu_cells (own_cell fuE_len hown hl HX.out)
  obtain ⟨c0, c1, c2, c3, c4⟩ := hc
  have hfz := fun j => hown.frozenAt j
  have HO := hide hown
  have HG := hide hbel
  have HL := hide hl
  clear hown hg hat hbel hl
  go_wp2
  go_ret
  refine ⟨_, rfl, ?_, ((HG.out.setCell hgb _).setCell hgb _).setCell hgb _⟩
  have h1 := own_set fuE_len HO.out (j := 2) (y := { x with budget := x.budget + db }) HX.out (by omega) rfl
  have h2 := own_set fuE_len h1 (j := 3) (y := { x with budget := x.budget + db, enc := x.enc + de }) (set_get HX.out) (by omega) rfl
  rw [List.set_set] at h2
  have h3 := own_set fuE_len h2 (j := 4) (y := chg db de ds x) (set_get HX.out) (by omega) rfl
  rw [List.set_set] at h3
  have hl : (xs.set i (chg db de ds x)).length = n := by rw [List.length_set]; exact HL.out
  unfold Fo
  rw [hl]
  exact h3
end Go.Proofs.Ytbcapljiangjcaa
