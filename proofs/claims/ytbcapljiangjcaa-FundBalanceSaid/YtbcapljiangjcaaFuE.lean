/- Walks: change and what is handed to it. -/
import Derived.Test.YtbcapljiangjcaaFuD
import Derived.RegionTactic
import Derived.Deep.RegionWith
import Derived.ChangeAlike
namespace Go.Proofs.Ytbcapljiangjcaa
open Go.RowKit

theorem madd_any (a b : Int) (w : World) (hb : I64 b) :
    Calls Try.prog 44 #[.int .i64 a, .int .i64 b] w fun e w' => e = .returned (if mny a && mny b && mny (a + b) then .tuple #[.int .i64 (a + b), .int .i64 0] else .tuple #[.int .i64 0, .int .i64 2]) ∧ w = w' := by
  obtain ⟨hb1, hb2⟩ := hb
  by_cases h1 : mny a = true
  · by_cases h2 : mny b = true
    · have h1' : 0 ≤ a ∧ a ≤ 100000000 := by simpa [mny] using h1
      have h2' : 0 ≤ b ∧ b ≤ 100000000 := by simpa [mny] using h2
      obtain ⟨p1, p2⟩ := h1'
      obtain ⟨p3, p4⟩ := h2'
      have m1 := mright_any a
      have m2 := mright_any b
      have m3 := mright_any (a + b)
      rw [h1] at m1
      rw [h2] at m2
      have M1 := hide m1
      have M2 := hide m2
      rw [h1, h2]
      clear m1 m2 h1 h2
      by_cases h3 : mny (a + b) = true
      · rw [h3] at m3 ⊢
        have M3 := hide m3
        clear m3 h3
        go_enter Try.func44, Try.ntmps44
        go_wp2_with fail
        refine (M1.out _).mono ?_
        rintro e w1 ⟨rfl, rfl⟩
        go_wp2_with fail
        refine (M2.out _).mono ?_
        rintro e w1 ⟨rfl, rfl⟩
        go_wp2_with fail
        refine (M3.out _).mono ?_
        rintro e w1 ⟨rfl, rfl⟩
        go_wp2
        go_ret2
        exact ⟨rfl, rfl⟩
      · have h3' : mny (a + b) = false := by simpa using h3
        rw [h3'] at m3 ⊢
        have M3 := hide m3
        clear m3 h3 h3'
        go_enter Try.func44, Try.ntmps44
        go_wp2_with fail
        refine (M1.out _).mono ?_
        rintro e w1 ⟨rfl, rfl⟩
        go_wp2_with fail
        refine (M2.out _).mono ?_
        rintro e w1 ⟨rfl, rfl⟩
        go_wp2_with fail
        refine (M3.out _).mono ?_
        rintro e w1 ⟨rfl, rfl⟩
        go_wp2
        go_ret2
        exact ⟨rfl, rfl⟩
    · have h2' : mny b = false := by simpa using h2
      have m1 := mright_any a
      have m2 := mright_any b
      rw [h1] at m1
      rw [h2'] at m2
      have M1 := hide m1
      have M2 := hide m2
      rw [h1, h2']
      clear m1 m2 h1 h2 h2'
      go_enter Try.func44, Try.ntmps44
      go_wp2_with fail
      refine (M1.out _).mono ?_
      rintro e w1 ⟨rfl, rfl⟩
      go_wp2_with fail
      refine (M2.out _).mono ?_
      rintro e w1 ⟨rfl, rfl⟩
      go_wp2
      go_ret2
      exact ⟨rfl, rfl⟩
  · have h1' : mny a = false := by simpa using h1
    have m1 := mright_any a
    rw [h1'] at m1
    have M1 := hide m1
    rw [h1']
    clear m1 h1 h1'
    go_enter Try.func44, Try.ntmps44
    go_wp2_with fail
    refine (M1.out _).mono ?_
    rintro e w1 ⟨rfl, rfl⟩
    go_wp2
    go_ret2
    exact ⟨rfl, rfl⟩

/-- What Encumber's function makes of a fund: the error code and the fund. -/
def encF (am : Int) (x : Fu) : Int × Fu :=
  if mny am = false then (2, x) else if freeF x < am then (17, x) else (0, { x with enc := x.enc + am })

/-- Row g of W is a row of n funds that reads as ys. -/
abbrev Rw (W : World) (base g n cap : Nat) (ys : List Fu) : Prop := W.ownsRow base 26 5 (.slice (some ⟨g, 0, none⟩) n cap) n (ys.flatMap fuE) ∧ ys.length = n

theorem Rw_cells {W : World} {base g n cap : Nat} {ys : List Fu} (h : Rw W base g n cap ys) {i : Nat} {x : Fu} (hx : ys[i]? = some x) :
    (W.cell? ⟨g, i * 5, none⟩ = some (.int .i64 x.id) ∧ W.cell? ⟨g, i * 5 + 1, none⟩ = some (.int .i64 x.parent) ∧ W.cell? ⟨g, i * 5 + 2, none⟩ = some (.int .i64 x.budget)
      ∧ W.cell? ⟨g, i * 5 + 3, none⟩ = some (.int .i64 x.enc) ∧ W.cell? ⟨g, i * 5 + 4, none⟩ = some (.int .i64 x.spent)) ∧ ∀ j, W.frozen? ⟨g, j, none⟩ = false :=
  ⟨fu_cells (own_cell fuE_len h.1 h.2 hx), fun j => h.1.frozenAt j⟩
theorem Rw_lt {W : World} {base g n cap : Nat} {ys : List Fu} (h : Rw W base g n cap ys) : base ≤ g ∧ g < W.heap.size := h.1.lt g rfl
theorem Rw_below {W w' : World} {base g n cap : Nat} {ys : List Fu} (h : Rw W base g n cap ys) (hb : Below W.heap.size W w') : Rw w' base g n cap ys :=
  ⟨h.1.kept (row := none) ⟨hb.os, hb.tape, hb.output, hb.size, fun k hk _ => hb.block k hk⟩ (.inr (by simp [Value.ownBlock])), h.2⟩
theorem Rw_drewN {W : World} {base g n cap : Nat} {ys : List Fu} (h : Rw W base g n cap ys) (m : Nat) : Rw (W.drewN m) base g n cap ys := h

theorem Rw_set {W : World} {base g n cap : Nat} {ys : List Fu} (h : Rw W base g n cap ys) {i j : Nat} {x y : Fu} {u : Value} (hx : ys[i]? = some x) (hj : j < 5) (he : fuE y = (fuE x).set j u) :
    Rw (W.setCell ⟨g, i * 5 + j, none⟩ u) base g n cap (ys.set i y) := ⟨own_set fuE_len h.1 hx hj he, by rw [List.length_set]; exact h.2⟩
theorem set_same {α : Type} {ys : List α} {i : Nat} {x : α} (h : ys[i]? = some x) : ys.set i x = ys := by
  obtain ⟨hi, rfl⟩ := List.getElem?_eq_some_iff.1 h
  exact List.set_getElem_self hi

set_option maxHeartbeats 400000 in
theorem enc1_any (base g n cap i a : Nat) (ys : List Fu) (x : Fu) (am : Int) (W : World) (hr : Rw W base g n cap ys) (hx : ys[i]? = some x) (hm : FuM x) (hba : base ≤ W.heap.size)
    (hc : W.cell? ⟨a, 0, none⟩ = some (.int .i64 am)) :
    Calls Try.prog 48 #[.pointer (some ⟨g, i * 5, none⟩), .pointer (some ⟨a, 0, none⟩)] W fun e w' => e = .returned (.int .i64 (encF am x).1) ∧ Rw w' base g n cap (ys.set i (encF am x).2) ∧ Below base W w' := by
  have hm1 := mright_any am
  obtain ⟨⟨c0, c1, c2, c3, c4⟩, hfz⟩ := Rw_cells hr hx
  obtain ⟨hgb, hgl⟩ := Rw_lt hr
  have HX := hide hx
  have HR := hide hr
  have HM := hide hm
  have HE := hide (set_same hx)
  clear hr hx hm
  by_cases h1 : mny am = true
  · rw [h1] at hm1
    have h1' : 0 ≤ am ∧ am ≤ 100000000 := by simpa [mny] using h1
    obtain ⟨p1, p2⟩ := h1'
    have hf := fun w => free_any x w HM.out.b HM.out.e HM.out.s
    unfold fuV at hf
    have HF := hide hf
    have M1 := hide hm1
    have f0 := Grn.cell hc
    have f1 := Grn.cell c0
    have f2 := Grn.cell c1
    have f3 := Grn.cell c2
    have f4 := Grn.cell c3
    have f5 := Grn.cell c4
    have g3 := fun j => Grn.frz hgl (hfz j)
    clear hf hm1
    by_cases h2 : freeF x < am
    · have he : encF am x = (17, x) := by simp [encF, h1, h2]
      rw [he]
      unfold freeF at h2
      clear he h1
      go_enter Try.func48, Try.ntmps48
      go_wp2_with fail
      refine (M1.out _).mono ?_
      rintro e w1 ⟨rfl, rfl⟩
      go_wp2_with fail
      refine wp_region_grn (by kernel_rfl) (by kernel_rfl) ?_
      repeat (go_big_quiet_step ((go_at_call 39; exact Calls_grn (HF.out _))))
      refine wpQuiet_nil ?_
      rintro _ ⟨⟨w2, hb2⟩, rfl⟩
      go_wp2
      go_ret
      exact ⟨rfl, by rw [HE.out]; exact Rw_below HR.out hb2, hb2.mono hba⟩
    · have he : encF am x = (0, { x with enc := x.enc + am }) := by simp [encF, h1, h2]
      rw [he]
      unfold freeF at h2
      clear he h1
      have e1 := HM.out.e.1
      have e2 := HM.out.e.2
      go_enter Try.func48, Try.ntmps48
      go_wp2_with fail
      refine (M1.out _).mono ?_
      rintro e w1 ⟨rfl, rfl⟩
      go_wp2_with fail
      refine wp_region_grn (by kernel_rfl) (by kernel_rfl) ?_
      repeat (go_big_quiet_step ((go_at_call 39; exact Calls_grn (HF.out _))))
      refine wpQuiet_nil ?_
      rintro _ ⟨p, rfl⟩
      have k0 := f0 p
      have k3 := f4 p
      have kf := fun j => g3 j p
      go_wp2
      go_region
      go_wp2
      go_ret
      exact ⟨rfl, Rw_set (j := 3) (Rw_below HR.out p.h) HX.out (by omega) rfl, (p.h.mono hba).drew.setCell hgb _⟩
  · have h1' : mny am = false := by simpa using h1
    rw [h1'] at hm1
    have he : encF am x = (2, x) := by simp [encF, h1']
    rw [he]
    have M1 := hide hm1
    clear hm1 h1 h1' he
    go_enter Try.func48, Try.ntmps48
    go_wp2_with fail
    refine (M1.out _).mono ?_
    rintro e w1 ⟨rfl, rfl⟩
    go_wp2
    go_ret
    exact ⟨rfl, by rw [HE.out]; exact HR.out, Below.refl _ _⟩

def relF (am : Int) (x : Fu) : Int × Fu :=
  if mny am = false then (2, x) else if x.enc < am then (17, x) else (0, { x with enc := x.enc - am })

set_option maxHeartbeats 400000 in
theorem rel1_any (base g n cap i a : Nat) (ys : List Fu) (x : Fu) (am : Int) (W : World) (hr : Rw W base g n cap ys) (hx : ys[i]? = some x) (hm : FuM x)
    (hc : W.cell? ⟨a, 0, none⟩ = some (.int .i64 am)) :
    Calls Try.prog 49 #[.pointer (some ⟨g, i * 5, none⟩), .pointer (some ⟨a, 0, none⟩)] W fun e w' => e = .returned (.int .i64 (relF am x).1) ∧ Rw w' base g n cap (ys.set i (relF am x).2) ∧ Below base W w' := by
  have hm1 := mright_any am
  obtain ⟨⟨c0, c1, c2, c3, c4⟩, hfz⟩ := Rw_cells hr hx
  obtain ⟨hgb, hgl⟩ := Rw_lt hr
  have HX := hide hx
  have HR := hide hr
  have HM := hide hm
  have HE := hide (set_same hx)
  clear hr hx hm
  by_cases h1 : mny am = true
  · rw [h1] at hm1
    have h1' : 0 ≤ am ∧ am ≤ 100000000 := by simpa [mny] using h1
    obtain ⟨p1, p2⟩ := h1'
    have M1 := hide hm1
    clear hm1
    have e1 := HM.out.e.1
    have e2 := HM.out.e.2
    by_cases h2 : x.enc < am
    · have he : relF am x = (17, x) := by simp [relF, h1, h2]
      rw [he]
      clear he h1
      go_enter Try.func49, Try.ntmps49
      go_wp2_with fail
      refine (M1.out _).mono ?_
      rintro e w1 ⟨rfl, rfl⟩
      go_wp2_with fail
      go_quiet (fail)
      go_wp2
      go_ret
      exact ⟨rfl, by rw [HE.out]; exact Rw_drewN HR.out _, below_drewN (Below.refl _ _) _⟩
    · have he : relF am x = (0, { x with enc := x.enc - am }) := by simp [relF, h1, h2]
      rw [he]
      clear he h1
      go_enter Try.func49, Try.ntmps49
      go_wp2_with fail
      refine (M1.out _).mono ?_
      rintro e w1 ⟨rfl, rfl⟩
      go_wp2_with fail
      go_quiet (fail)
      go_wp2
      go_region
      go_wp2
      go_ret
      exact ⟨rfl, Rw_set (j := 3) (Rw_drewN HR.out _) HX.out (by omega) rfl, (below_drewN (Below.refl _ _) _).drew.setCell hgb _⟩
  · have h1' : mny am = false := by simpa using h1
    rw [h1'] at hm1
    have he : relF am x = (2, x) := by simp [relF, h1']
    rw [he]
    have M1 := hide hm1
    clear hm1 h1 h1' he
    go_enter Try.func49, Try.ntmps49
    go_wp2_with fail
    refine (M1.out _).mono ?_
    rintro e w1 ⟨rfl, rfl⟩
    go_wp2
    go_ret
    exact ⟨rfl, by rw [HE.out]; exact HR.out, Below.refl _ _⟩

def budF (am : Int) (x : Fu) : Int × Fu :=
  if mny am && mny (x.budget + am) then (0, { x with budget := x.budget + am }) else (2, { x with budget := 0 })

set_option maxHeartbeats 400000 in
theorem bud1_any (base g n cap i a : Nat) (ys : List Fu) (x : Fu) (am : Int) (W : World) (hr : Rw W base g n cap ys) (hx : ys[i]? = some x) (hm : FuM x) (ham : I64 am)
    (hc : W.cell? ⟨a, 0, none⟩ = some (.int .i64 am)) :
    Calls Try.prog 43 #[.pointer (some ⟨g, i * 5, none⟩), .pointer (some ⟨a, 0, none⟩)] W fun e w' => e = .returned (.int .i64 (budF am x).1) ∧ Rw w' base g n cap (ys.set i (budF am x).2) ∧ Below base W w' := by
  have hm1 := fun w => madd_any x.budget am w ham
  obtain ⟨⟨c0, c1, c2, c3, c4⟩, hfz⟩ := Rw_cells hr hx
  obtain ⟨hgb, hgl⟩ := Rw_lt hr
  have HX := hide hx
  have HR := hide hr
  have hxb : mny x.budget = true := by have := hm.b; simp [mny, this]
  rw [hxb, Bool.true_and] at hm1
  clear hr hx hm hxb c0 c1 c3 c4
  by_cases h1 : (mny am && mny (x.budget + am)) = true
  · rw [if_pos h1] at hm1
    have he : budF am x = (0, { x with budget := x.budget + am }) := by unfold budF; rw [if_pos h1]
    rw [he]
    have M1 := hide hm1
    clear hm1 h1 he
    go_enter Try.func43, Try.ntmps43
    go_wp2_with fail
    go_quiet ((go_at_call 44; exact Calls.quiet_of_same ((M1.out _).mono fun _ _ h => ⟨h.1, h.2.symm⟩)))
    go_wp2
    go_ret
    exact ⟨rfl, Rw_set (j := 2) (Rw_drewN HR.out _) HX.out (by omega) rfl, (below_drewN (Below.refl _ _) _).setCell hgb _⟩
  · rw [if_neg h1] at hm1
    have he : budF am x = (2, { x with budget := 0 }) := by unfold budF; rw [if_neg h1]
    rw [he]
    have M1 := hide hm1
    clear hm1 h1 he
    go_enter Try.func43, Try.ntmps43
    go_wp2_with fail
    go_quiet ((go_at_call 44; exact Calls.quiet_of_same ((M1.out _).mono fun _ _ h => ⟨h.1, h.2.symm⟩)))
    go_wp2
    go_ret
    exact ⟨rfl, Rw_set (j := 2) (Rw_drewN HR.out _) HX.out (by omega) rfl, (below_drewN (Below.refl _ _) _).setCell hgb _⟩

def spdF (re am : Int) (x : Fu) : Int × Fu :=
  if mny re = false || mny am = false then (2, x) else if x.enc < re ∨ freeF x + re < am then (17, x) else (0, { x with enc := x.enc - re, spent := x.spent + am })


set_option maxHeartbeats 400000 in
theorem spd1_any (base g n cap i a a2 : Nat) (ys : List Fu) (x : Fu) (re am : Int) (W : World) (hr : Rw W base g n cap ys) (hx : ys[i]? = some x) (hm : FuM x) (hba : base ≤ W.heap.size)
    (hc : W.cell? ⟨a, 0, none⟩ = some (.int .i64 re)) (hc2 : W.cell? ⟨a2, 0, none⟩ = some (.int .i64 am)) :
    Calls Try.prog 50 #[.pointer (some ⟨g, i * 5, none⟩), .pointer (some ⟨a, 0, none⟩), .pointer (some ⟨a2, 0, none⟩)] W fun e w' => e = .returned (.int .i64 (spdF re am x).1) ∧ Rw w' base g n cap (ys.set i (spdF re am x).2) ∧ Below base W w' := by
  have hm1 := mright_any re
  have hm2 := mright_any am
  obtain ⟨⟨c0, c1, c2, c3, c4⟩, hfz⟩ := Rw_cells hr hx
  obtain ⟨hgb, hgl⟩ := Rw_lt hr
  have HX := hide hx
  have HR := hide hr
  have HM := hide hm
  have HE := hide (set_same hx)
  clear hr hx hm
  by_cases h1 : mny re = true
  · rw [h1] at hm1
    have h1' : 0 ≤ re ∧ re ≤ 100000000 := by simpa [mny] using h1
    obtain ⟨p1, p2⟩ := h1'
    have M1 := hide hm1
    clear hm1
    by_cases h2 : mny am = true
    · rw [h2] at hm2
      have h2' : 0 ≤ am ∧ am ≤ 100000000 := by simpa [mny] using h2
      obtain ⟨p3, p4⟩ := h2'
      have hf := fun w => free_any x w HM.out.b HM.out.e HM.out.s
      unfold fuV at hf
      have HF := hide hf
      have M2 := hide hm2
      have f0 := Grn.cell hc
      have f00 := Grn.cell hc2
      have f1 := Grn.cell c0
      have f2 := Grn.cell c1
      have f3 := Grn.cell c2
      have f4 := Grn.cell c3
      have f5 := Grn.cell c4
      have g3 := fun j => Grn.frz hgl (hfz j)
      have e1 := HM.out.e.1
      have e2 := HM.out.e.2
      have b1 := HM.out.b.1
      have b2 := HM.out.b.2
      have s1 := HM.out.s.1
      have s2 := HM.out.s.2
      clear hf hm2
      by_cases h3 : x.enc < re
      · have he : spdF re am x = (17, x) := by simp [spdF, h1, h2, h3]
        rw [he]
        clear he h1 h2
        go_enter Try.func50, Try.ntmps50
        go_wp2_with fail
        refine (M1.out _).mono ?_
        rintro e w1 ⟨rfl, rfl⟩
        go_wp2_with fail
        refine (M2.out _).mono ?_
        rintro e w1 ⟨rfl, rfl⟩
        go_wp2_with fail
        refine wp_region_grn (by kernel_rfl) (by kernel_rfl) ?_
        repeat (go_big_quiet_step ((go_at_call 39; exact Calls_grn (HF.out _))))
        refine wpQuiet_nil ?_
        rintro _ ⟨p, rfl⟩
        go_wp2
        go_ret
        exact ⟨rfl, by rw [HE.out]; exact Rw_below HR.out p.h, p.h.mono hba⟩
      · have hd : decide (x.enc < re) = false := by simpa using h3
        by_cases h4 : freeF x + re < am
        · have he : spdF re am x = (17, x) := by simp [spdF, h1, h2, h4]
          rw [he]
          unfold freeF at h4
          clear he h1 h2
          go_enter Try.func50, Try.ntmps50
          go_wp2_with fail
          refine (M1.out _).mono ?_
          rintro e w1 ⟨rfl, rfl⟩
          go_wp2_with fail
          refine (M2.out _).mono ?_
          rintro e w1 ⟨rfl, rfl⟩
          go_wp2_with fail
          refine wp_region_grn (by kernel_rfl) (by kernel_rfl) ?_
          repeat (go_big_quiet_step ((go_at_call 39; exact Calls_grn (HF.out _))))
          refine wpQuiet_nil ?_
          rintro _ ⟨p, rfl⟩
          go_wp2
          go_ret
          exact ⟨rfl, by rw [HE.out]; exact Rw_below HR.out p.h, p.h.mono hba⟩
        · have he : spdF re am x = (0, { x with enc := x.enc - re, spent := x.spent + am }) := by simp [spdF, h1, h2, h3, h4]
          rw [he]
          unfold freeF at h4
          have hd2 : decide (x.budget - x.enc - x.spent + re < am) = false := by simpa using h4
          clear he h1 h2
          go_enter Try.func50, Try.ntmps50
          go_wp2_with fail
          refine (M1.out _).mono ?_
          rintro e w1 ⟨rfl, rfl⟩
          go_wp2_with fail
          refine (M2.out _).mono ?_
          rintro e w1 ⟨rfl, rfl⟩
          go_wp2_with fail
          refine wp_region_grn (by kernel_rfl) (by kernel_rfl) ?_
          repeat (go_big_quiet_step ((go_at_call 39; exact Calls_grn (HF.out _))))
          refine wpQuiet_nil ?_
          rintro _ ⟨p, rfl⟩
          have k0 := f0 p
          have k00 := f00 p
          have k3 := f4 p
          have k4 := f5 p
          have kf := fun j => g3 j p
          go_wp2
          go_region
          go_wp2
          go_region
          go_wp2
          go_ret
          have r1 := Rw_set (j := 3) (y := { x with enc := x.enc - re }) (u := .int .i64 (x.enc - re)) (Rw_below HR.out p.h) HX.out (by omega) rfl
          have r2 := Rw_set (j := 4) (y := { x with enc := x.enc - re, spent := x.spent + am }) (u := .int .i64 (x.spent + am)) r1 (set_get HX.out) (by omega) rfl
          rw [List.set_set] at r2
          exact ⟨rfl, r2, ((p.h.mono hba).drew.setCell hgb _).drew.setCell hgb _⟩
    · have h2' : mny am = false := by simpa using h2
      rw [h2'] at hm2
      have he : spdF re am x = (2, x) := by simp [spdF, h2']
      rw [he]
      have M2 := hide hm2
      clear hm2 h1 h2 h2' he
      go_enter Try.func50, Try.ntmps50
      go_wp2_with fail
      refine (M1.out _).mono ?_
      rintro e w1 ⟨rfl, rfl⟩
      go_wp2_with fail
      refine (M2.out _).mono ?_
      rintro e w1 ⟨rfl, rfl⟩
      go_wp2
      go_ret
      exact ⟨rfl, by rw [HE.out]; exact HR.out, Below.refl _ _⟩
  · have h1' : mny re = false := by simpa using h1
    rw [h1'] at hm1
    have he : spdF re am x = (2, x) := by simp [spdF, h1']
    rw [he]
    have M1 := hide hm1
    clear hm1 h1 h1' he
    go_enter Try.func50, Try.ntmps50
    go_wp2_with fail
    refine (M1.out _).mono ?_
    rintro e w1 ⟨rfl, rfl⟩
    go_wp2
    go_ret
    exact ⟨rfl, by rw [HE.out]; exact HR.out, Below.refl _ _⟩

end Go.Proofs.Ytbcapljiangjcaa
