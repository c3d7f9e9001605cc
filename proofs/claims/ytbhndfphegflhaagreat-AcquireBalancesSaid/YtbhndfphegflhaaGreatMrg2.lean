/- Texts laid together by merge.py: FuD, FuE, FuF, FuG, FuH, FuH2, FuI, FuJ. -/
import Derived.Test.YtbhndfphegflhaaGreatMrg1
import Derived.RegionTactic
import Derived.Deep.RegionWith
import Derived.ChangeAlike
set_option linter.unusedSimpArgs false
set_option linter.unusedVariables false
/- Walks: '==' of two funds; Same; changed. -/
namespace Go.Proofs.YtbhndfphegflhaaGreat
open Go.RowKit

theorem fu_struct : Tryz.prog.underlying 57 = some (.struct (Tryz.prog.fieldsOf 57)) := by kernel_rfl
theorem fu_stood : Tryz.prog.stoodInHeld 57 = false := by kernel_rfl

theorem fu_eq (x y : Fu) (w : World) : (Op.equalIn 10000 57 (fuV x) (fuV y)).run Tryz.prog w = .ok (decide (x = y)) w := by
  obtain ⟨a0, a1, a2, a3, a4⟩ := x
  obtain ⟨b0, b1, b2, b3, b4⟩ := y
  have u3 := Tryz.underlying3
  simp only [fuV]
  rw [show (10000 : Nat) = 9999 + 1 from rfl, run_equalIn_agg w 9999 57 _ _ fu_struct fu_stood]
  simp only [Program.fieldsOf, Tryz.underlying57]
  go_simp
  by_cases h0 : a0 = b0 <;> by_cases h1 : a1 = b1 <;> by_cases h2 : a2 = b2 <;> by_cases h3 : a3 = b3 <;> by_cases h4 : a4 = b4 <;> simp [h0, h1, h2, h3, h4]

theorem fu_neq (x y : Fu) (w : World) : (binOp .neq 57 (fuV x) (fuV y)).run Tryz.prog w = .ok (.bool (!decide (x = y))) w := by
  have h := fu_eq x y w
  unfold fuV at h ⊢
  rw [run_neq_struct, h]; rfl
theorem fu_eql (x y : Fu) (w : World) : (binOp .eql 57 (fuV x) (fuV y)).run Tryz.prog w = .ok (.bool (decide (x = y))) w := by
  have h := fu_eq x y w
  unfold fuV at h ⊢
  rw [run_eql_struct, h]; rfl
theorem fu_guard : Tryz.prog.eqGuardType Tryz.prog.depth 57 = false := by kernel_rfl

/-- What 'changed' makes of a fund. -/
def chg (b e s : Int) (x : Fu) : Fu := { x with budget := x.budget + b, enc := x.enc + e, spent := x.spent + s }

set_option maxHeartbeats 400000 in
theorem changed_any (A : Option Addr) (n c : Nat) (xs : List Fu) (i : Nat) (x : Fu) (db de ds : Int) (w : World) (hs : Fs w w.heap.size A n c xs) (hn : n ≤ 1000) (hx : xs[i]? = some x)
    (hb : I64 (x.budget + db)) (he : I64 (x.enc + de)) (hsp : I64 (x.spent + ds)) :
    Calls Tryz.prog 124 #[.slice A n c, .int .i64 i, .int .i64 db, .int .i64 de, .int .i64 ds] w fun e w' => ∃ v, e = .returned v ∧ Fo w' w.heap.size v (xs.set i (chg db de ds x)) ∧ Below w.heap.size w w' := by
  obtain ⟨i0, hi, hz0, hz1, hz2⟩ := info_parts fu_info
  have hbig := hs.big
  have hin : i < n := by have := (List.getElem?_eq_some_iff.1 hx).1; have := hs.len; omega
  obtain ⟨hb1, hb2⟩ := hb
  obtain ⟨he1, he2⟩ := he
  obtain ⟨hs1, hs2⟩ := hsp
  have HX := hide hx
  have HS := hide hs
  clear hs hx
  go_enter Tryz.func124, Tryz.ntmps124
  go_wp2_with (at_builtin; go_must (refine wpList_append_sl _ rfl _ _ 22 rfl w.heap.size 57 i0 _ 40 Tryz.underlying22 hi hz0 hz1 hz2 rfl (by decide) fuE_len fuE_one _ 0 [] rfl (World.ownsRow_made w #[] 0 (Nat.le_refl _) (Nat.zero_le _) rfl) A n c rfl (HS.out.alloc (Nat.le_refl _) _) (by unfold maxLen; omega) (by omega) (by simp) ?_))
  intro v1 w1 hown hg hat
  have hbel : Below w.heap.size w w1 := ((Below.refl _ w).alloc (Nat.le_refl _) _).grown hg (by simp) (by intro k hk; simp [Value.ownBlock] at hk; omega)
  have hl := HS.out.len
  obtain ⟨g, cap, hv, hgb, hgl⟩ := hown.form (by omega)
  subst hv
  have hc := fu_cells (own_cell fuE_len hown hl HX.out)
  obtain ⟨c0, c1, c2, c3, c4⟩ := hc
  have hfz := fun j => hown.frozenAt j
  have HO := hide hown
  have HG := hide hbel
  have HL := hide hl
  clear hown hg hat hbel hl
  go_wp2
  go_ret
  refine ⟨_, rfl, ?_, ((HG.out.setCell hgb _).setCell hgb _).setCell hgb _⟩
  have h1 := own_set fuE_len HO.out (j := 2) (y := { x with budget := x.budget + db }) HX.out (by omega) rfl
  have h2 := own_set fuE_len h1 (j := 3) (y := { x with budget := x.budget + db, enc := x.enc + de }) (set_get HX.out) (by omega) rfl
  rw [List.set_set] at h2
  have h3 := own_set fuE_len h2 (j := 4) (y := chg db de ds x) (set_get HX.out) (by omega) rfl
  rw [List.set_set] at h3
  have hl : (xs.set i (chg db de ds x)).length = n := by rw [List.length_set]; exact HL.out
  unfold Fo
  rw [hl]
  exact h3
end Go.Proofs.YtbhndfphegflhaaGreat

/- Walks: change and what is handed to it. -/
namespace Go.Proofs.YtbhndfphegflhaaGreat
open Go.RowKit

theorem madd_any (a b : Int) (w : World) (hb : I64 b) :
    Calls Tryz.prog 138 #[.int .i64 a, .int .i64 b] w fun e w' => e = .returned (if mny a && mny b && mny (a + b) then .tuple #[.int .i64 (a + b), .int .i64 0] else .tuple #[.int .i64 0, .int .i64 2]) ∧ w = w' := by
  obtain ⟨hb1, hb2⟩ := hb
  by_cases h1 : mny a = true
  · by_cases h2 : mny b = true
    · have h1' : 0 ≤ a ∧ a ≤ 100000000 := by simpa [mny] using h1
      have h2' : 0 ≤ b ∧ b ≤ 100000000 := by simpa [mny] using h2
      obtain ⟨p1, p2⟩ := h1'
      obtain ⟨p3, p4⟩ := h2'
      have m1 := mright_any a
      have m2 := mright_any b
      have m3 := mright_any (a + b)
      rw [h1] at m1
      rw [h2] at m2
      have M1 := hide m1
      have M2 := hide m2
      rw [h1, h2]
      clear m1 m2 h1 h2
      by_cases h3 : mny (a + b) = true
      · rw [h3] at m3 ⊢
        have M3 := hide m3
        clear m3 h3
        go_enter Tryz.func138, Tryz.ntmps138
        go_wp2_with fail
        refine (M1.out _).mono ?_
        rintro e w1 ⟨rfl, rfl⟩
        go_wp2_with fail
        refine (M2.out _).mono ?_
        rintro e w1 ⟨rfl, rfl⟩
        go_wp2_with fail
        refine (M3.out _).mono ?_
        rintro e w1 ⟨rfl, rfl⟩
        go_wp2
        go_ret2
        exact ⟨rfl, rfl⟩
      · have h3' : mny (a + b) = false := by simpa using h3
        rw [h3'] at m3 ⊢
        have M3 := hide m3
        clear m3 h3 h3'
        go_enter Tryz.func138, Tryz.ntmps138
        go_wp2_with fail
        refine (M1.out _).mono ?_
        rintro e w1 ⟨rfl, rfl⟩
        go_wp2_with fail
        refine (M2.out _).mono ?_
        rintro e w1 ⟨rfl, rfl⟩
        go_wp2_with fail
        refine (M3.out _).mono ?_
        rintro e w1 ⟨rfl, rfl⟩
        go_wp2
        go_ret2
        exact ⟨rfl, rfl⟩
    · have h2' : mny b = false := by simpa using h2
      have m1 := mright_any a
      have m2 := mright_any b
      rw [h1] at m1
      rw [h2'] at m2
      have M1 := hide m1
      have M2 := hide m2
      rw [h1, h2']
      clear m1 m2 h1 h2 h2'
      go_enter Tryz.func138, Tryz.ntmps138
      go_wp2_with fail
      refine (M1.out _).mono ?_
      rintro e w1 ⟨rfl, rfl⟩
      go_wp2_with fail
      refine (M2.out _).mono ?_
      rintro e w1 ⟨rfl, rfl⟩
      go_wp2
      go_ret2
      exact ⟨rfl, rfl⟩
  · have h1' : mny a = false := by simpa using h1
    have m1 := mright_any a
    rw [h1'] at m1
    have M1 := hide m1
    rw [h1']
    clear m1 h1 h1'
    go_enter Tryz.func138, Tryz.ntmps138
    go_wp2_with fail
    refine (M1.out _).mono ?_
    rintro e w1 ⟨rfl, rfl⟩
    go_wp2
    go_ret2
    exact ⟨rfl, rfl⟩

/-- What Encumber's function makes of a fund: the error code and the fund. -/
def encF (am : Int) (x : Fu) : Int × Fu :=
  if mny am = false then (2, x) else if freeF x < am then (17, x) else (0, { x with enc := x.enc + am })

/-- Row g of W is a row of n funds that reads as ys. -/
abbrev Rw (W : World) (base g n cap : Nat) (ys : List Fu) : Prop := W.ownsRow base 57 5 (.slice (some ⟨g, 0, none⟩) n cap) n (ys.flatMap fuE) ∧ ys.length = n

theorem Rw_cells {W : World} {base g n cap : Nat} {ys : List Fu} (h : Rw W base g n cap ys) {i : Nat} {x : Fu} (hx : ys[i]? = some x) :
    (W.cell? ⟨g, i * 5, none⟩ = some (.int .i64 x.id) ∧ W.cell? ⟨g, i * 5 + 1, none⟩ = some (.int .i64 x.parent) ∧ W.cell? ⟨g, i * 5 + 2, none⟩ = some (.int .i64 x.budget)
      ∧ W.cell? ⟨g, i * 5 + 3, none⟩ = some (.int .i64 x.enc) ∧ W.cell? ⟨g, i * 5 + 4, none⟩ = some (.int .i64 x.spent)) ∧ ∀ j, W.frozen? ⟨g, j, none⟩ = false :=
  ⟨fu_cells (own_cell fuE_len h.1 h.2 hx), fun j => h.1.frozenAt j⟩
theorem Rw_lt {W : World} {base g n cap : Nat} {ys : List Fu} (h : Rw W base g n cap ys) : base ≤ g ∧ g < W.heap.size := h.1.lt g rfl
theorem Rw_below {W w' : World} {base g n cap : Nat} {ys : List Fu} (h : Rw W base g n cap ys) (hb : Below W.heap.size W w') : Rw w' base g n cap ys :=
  ⟨h.1.kept (row := none) ⟨hb.os, hb.tape, hb.output, hb.size, fun k hk _ => hb.block k hk⟩ (.inr (by simp [Value.ownBlock])), h.2⟩
theorem Rw_drewN {W : World} {base g n cap : Nat} {ys : List Fu} (h : Rw W base g n cap ys) (m : Nat) : Rw (W.drewN m) base g n cap ys := h

theorem Rw_set {W : World} {base g n cap : Nat} {ys : List Fu} (h : Rw W base g n cap ys) {i j : Nat} {x y : Fu} {u : Value} (hx : ys[i]? = some x) (hj : j < 5) (he : fuE y = (fuE x).set j u) :
    Rw (W.setCell ⟨g, i * 5 + j, none⟩ u) base g n cap (ys.set i y) := ⟨own_set fuE_len h.1 hx hj he, by rw [List.length_set]; exact h.2⟩
theorem set_same {α : Type} {ys : List α} {i : Nat} {x : α} (h : ys[i]? = some x) : ys.set i x = ys := by
  obtain ⟨hi, rfl⟩ := List.getElem?_eq_some_iff.1 h
  exact List.set_getElem_self hi

set_option maxHeartbeats 400000 in
theorem enc1_any (base g n cap i a : Nat) (ys : List Fu) (x : Fu) (am : Int) (W : World) (hr : Rw W base g n cap ys) (hx : ys[i]? = some x) (hm : FuM x) (hba : base ≤ W.heap.size)
    (hc : W.cell? ⟨a, 0, none⟩ = some (.int .i64 am)) :
    Calls Tryz.prog 121 #[.pointer (some ⟨g, i * 5, none⟩), .pointer (some ⟨a, 0, none⟩)] W fun e w' => e = .returned (.int .i64 (encF am x).1) ∧ Rw w' base g n cap (ys.set i (encF am x).2) ∧ Below base W w' := by
  have hm1 := mright_any am
  obtain ⟨⟨c0, c1, c2, c3, c4⟩, hfz⟩ := Rw_cells hr hx
  obtain ⟨hgb, hgl⟩ := Rw_lt hr
  have HX := hide hx
  have HR := hide hr
  have HM := hide hm
  have HE := hide (set_same hx)
  clear hr hx hm
  by_cases h1 : mny am = true
  · rw [h1] at hm1
    have h1' : 0 ≤ am ∧ am ≤ 100000000 := by simpa [mny] using h1
    obtain ⟨p1, p2⟩ := h1'
    have hf := fun w => free_any x w HM.out.b HM.out.e HM.out.s
    unfold fuV at hf
    have HF := hide hf
    have M1 := hide hm1
    have f0 := Grn.cell hc
    have f1 := Grn.cell c0
    have f2 := Grn.cell c1
    have f3 := Grn.cell c2
    have f4 := Grn.cell c3
    have f5 := Grn.cell c4
    have g3 := fun j => Grn.frz hgl (hfz j)
    clear hf hm1
    by_cases h2 : freeF x < am
    · have he : encF am x = (17, x) := by simp [encF, h1, h2]
      rw [he]
      unfold freeF at h2
      clear he h1
      go_enter Tryz.func121, Tryz.ntmps121
      go_wp2_with fail
      refine (M1.out _).mono ?_
      rintro e w1 ⟨rfl, rfl⟩
      go_wp2_with fail
      refine wp_region_grn (by kernel_rfl) (by kernel_rfl) ?_
      repeat (go_big_quiet_step ((go_at_call 88; exact Calls_grn (HF.out _))))
      refine wpQuiet_nil ?_
      rintro _ ⟨⟨w2, hb2⟩, rfl⟩
      go_wp2
      go_ret
      exact ⟨rfl, by rw [HE.out]; exact Rw_below HR.out hb2, hb2.mono hba⟩
    · have he : encF am x = (0, { x with enc := x.enc + am }) := by simp [encF, h1, h2]
      rw [he]
      unfold freeF at h2
      clear he h1
      have e1 := HM.out.e.1
      have e2 := HM.out.e.2
      go_enter Tryz.func121, Tryz.ntmps121
      go_wp2_with fail
      refine (M1.out _).mono ?_
      rintro e w1 ⟨rfl, rfl⟩
      go_wp2_with fail
      refine wp_region_grn (by kernel_rfl) (by kernel_rfl) ?_
      repeat (go_big_quiet_step ((go_at_call 88; exact Calls_grn (HF.out _))))
      refine wpQuiet_nil ?_
      rintro _ ⟨p, rfl⟩
      have k0 := f0 p
      have k3 := f4 p
      have kf := fun j => g3 j p
      go_wp2
      go_region
      go_wp2
      go_ret
      exact ⟨rfl, Rw_set (j := 3) (Rw_below HR.out p.h) HX.out (by omega) rfl, (p.h.mono hba).drew.setCell hgb _⟩
  · have h1' : mny am = false := by simpa using h1
    rw [h1'] at hm1
    have he : encF am x = (2, x) := by simp [encF, h1']
    rw [he]
    have M1 := hide hm1
    clear hm1 h1 h1' he
    go_enter Tryz.func121, Tryz.ntmps121
    go_wp2_with fail
    refine (M1.out _).mono ?_
    rintro e w1 ⟨rfl, rfl⟩
    go_wp2
    go_ret
    exact ⟨rfl, by rw [HE.out]; exact HR.out, Below.refl _ _⟩

def relF (am : Int) (x : Fu) : Int × Fu :=
  if mny am = false then (2, x) else if x.enc < am then (17, x) else (0, { x with enc := x.enc - am })

def budF (am : Int) (x : Fu) : Int × Fu :=
  if mny am && mny (x.budget + am) then (0, { x with budget := x.budget + am }) else (2, { x with budget := 0 })

set_option maxHeartbeats 400000 in
theorem bud1_any (base g n cap i a : Nat) (ys : List Fu) (x : Fu) (am : Int) (W : World) (hr : Rw W base g n cap ys) (hx : ys[i]? = some x) (hm : FuM x) (ham : I64 am)
    (hc : W.cell? ⟨a, 0, none⟩ = some (.int .i64 am)) :
    Calls Tryz.prog 137 #[.pointer (some ⟨g, i * 5, none⟩), .pointer (some ⟨a, 0, none⟩)] W fun e w' => e = .returned (.int .i64 (budF am x).1) ∧ Rw w' base g n cap (ys.set i (budF am x).2) ∧ Below base W w' := by
  have hm1 := fun w => madd_any x.budget am w ham
  obtain ⟨⟨c0, c1, c2, c3, c4⟩, hfz⟩ := Rw_cells hr hx
  obtain ⟨hgb, hgl⟩ := Rw_lt hr
  have HX := hide hx
  have HR := hide hr
  have hxb : mny x.budget = true := by have := hm.b; simp [mny, this]
  rw [hxb, Bool.true_and] at hm1
  clear hr hx hm hxb c0 c1 c3 c4
  by_cases h1 : (mny am && mny (x.budget + am)) = true
  · rw [if_pos h1] at hm1
    have he : budF am x = (0, { x with budget := x.budget + am }) := by unfold budF; rw [if_pos h1]
    rw [he]
    have M1 := hide hm1
    clear hm1 h1 he
    go_enter Tryz.func137, Tryz.ntmps137
    go_wp2_with fail
    go_quiet ((go_at_call 138; exact Calls.quiet_of_same ((M1.out _).mono fun _ _ h => ⟨h.1, h.2.symm⟩)))
    go_wp2
    go_ret
    exact ⟨rfl, Rw_set (j := 2) (Rw_drewN HR.out _) HX.out (by omega) rfl, (below_drewN (Below.refl _ _) _).setCell hgb _⟩
  · rw [if_neg h1] at hm1
    have he : budF am x = (2, { x with budget := 0 }) := by unfold budF; rw [if_neg h1]
    rw [he]
    have M1 := hide hm1
    clear hm1 h1 he
    go_enter Tryz.func137, Tryz.ntmps137
    go_wp2_with fail
    go_quiet ((go_at_call 138; exact Calls.quiet_of_same ((M1.out _).mono fun _ _ h => ⟨h.1, h.2.symm⟩)))
    go_wp2
    go_ret
    exact ⟨rfl, Rw_set (j := 2) (Rw_drewN HR.out _) HX.out (by omega) rfl, (below_drewN (Below.refl _ _) _).setCell hgb _⟩

def spdF (re am : Int) (x : Fu) : Int × Fu :=
  if mny re = false || mny am = false then (2, x) else if x.enc < re ∨ freeF x + re < am then (17, x) else (0, { x with enc := x.enc - re, spent := x.spent + am })


end Go.Proofs.YtbhndfphegflhaaGreat

/- Walks: change, Encumber, Release, Spend, Budget, and the reference's. -/
namespace Go.Proofs.YtbhndfphegflhaaGreat
open Go.RowKit

/-- What changing one fund by F makes of a list: the error code, and the list (empty where there is an error). -/
def chR (F : Fu → Int × Fu) (xs : List Fu) (id : Int) : Int × List Fu :=
  if atF xs id < 0 then (9, []) else if (F (getF xs id).1).1 = 0 then (0, xs.set (atF xs id).toNat (F (getF xs id).1).2) else ((F (getF xs id).1).1, [])

theorem chR_none {F : Fu → Int × Fu} {xs : List Fu} {id : Int} (h : atF xs id = -1) : chR F xs id = (9, []) := by simp [chR, h]
theorem chR_ok {F : Fu → Int × Fu} {xs : List Fu} {id : Int} {i : Nat} {x : Fu} (h : atF xs id = i) (hg : getF xs id = (x, true)) (h0 : (F x).1 = 0) : chR F xs id = (0, xs.set i (F x).2) := by
  unfold chR; rw [h, hg, if_neg (by omega), if_pos h0]; rfl
theorem chR_err {F : Fu → Int × Fu} {xs : List Fu} {id : Int} {i : Nat} {x : Fu} (h : atF xs id = i) (hg : getF xs id = (x, true)) (h0 : (F x).1 ≠ 0) : chR F xs id = ((F x).1, []) := by
  unfold chR; rw [h, hg, if_neg (by omega), if_neg h0]

/-- What is asked of the function that is handed to change. -/
def Mut (gc : Nat) (lb : Array Value) (F : Fu → Int × Fu) (w : World) : Prop :=
  ∀ (W : World) (base g n cap i : Nat) (ys : List Fu) (x : Fu), Below w.heap.size w W → w.heap.size ≤ base → base ≤ W.heap.size → Rw W base g n cap ys → ys[i]? = some x → FuM x →
    Calls Tryz.prog gc (#[.pointer (some ⟨g, i * 5, none⟩)] ++ lb) W fun e w' => e = .returned (.int .i64 (F x).1) ∧ Rw w' base g n cap (ys.set i (F x).2) ∧ Below base W w'

set_option maxHeartbeats 400000 in
theorem change_any (gc : Nat) (lb : Array Value) (F : Fu → Int × Fu) (eg : ∀ args w, (callFunc gc args).run Tryz.prog w = .ok (.enter gc args) w)
    (A : Option Addr) (n c : Nat) (xs : List Fu) (id : Int) (w : World) (hs : Fs w w.heap.size A n c xs) (hn : n ≤ 1000) (hm : ∀ x ∈ xs, FuM x) (hF : Mut gc lb F w) :
    Calls Tryz.prog 120 #[.slice A n c, .int .i64 id, .func (.func gc) #[] lb] w fun e w' => ∃ v, e = .returned (.tuple #[v, .int .i64 (chR F xs id).1]) ∧ Fo w' w.heap.size v (chR F xs id).2 ∧ Below w.heap.size w w' := by
  obtain rfl := hs.len
  have hp := place_any A xs.length c xs id w hs
  have hle := hs.le
  have hbig := hs.big
  have HS := hide hs
  have HM := hide hm
  have HF := hide hF
  clear hs hm hF
  rcases getF_at (xs := xs) (id := id) with ⟨h1, h2⟩ | ⟨i, x, h1, h2, h3, h4⟩
  · rw [chR_none h1]
    rw [h1] at hp
    have HP := hide hp
    clear hp h1 h2
    go_enter Tryz.func120, Tryz.ntmps120
    go_wp2_with fail
    refine HP.out.mono ?_
    rintro e w1 ⟨rfl, hb⟩
    go_wp2
    go_ret2
    exact ⟨_, rfl, World.ownsRow_nil _ _ _ _, hb⟩
  · have hi : i < xs.length := (List.getElem?_eq_some_iff.1 h2).1
    rw [h1] at hp
    have HP := hide hp
    have HX := hide h2
    have hcl := fun (w1 : World) (hb : Below w.heap.size w w1) => clone_any A xs.length c xs w1 ((HS.out.below hb).more hb.size) hn
    have HC := hide hcl
    have HE := hide (And.intro h1 h4)
    clear hp hcl h1 h2 h3 h4
    by_cases h0 : (F x).1 = 0
    · rw [chR_ok HE.out.1 HE.out.2 h0]
      have H0 := hide h0
      clear h0
      go_enter Tryz.func120, Tryz.ntmps120
      go_wp2_with fail
      refine HP.out.mono ?_
      rintro e w1 ⟨rfl, hb⟩
      have hz1 := hb.size
      go_wp2_with fail
      refine (HC.out _ hb).mono ?_
      rintro e w2 ⟨v, rfl, hown, hb2⟩
      have hz2 := hb2.size
      obtain ⟨g, cap, hv, hgb, hgl⟩ := hown.form (by omega)
      subst hv
      have hr : Rw w2 w1.heap.size g xs.length cap xs := ⟨hown, rfl⟩
      have hcall := HF.out w2 w1.heap.size g xs.length cap i xs x (hb.trans (hb2.mono hb.size)) hb.size hb2.size hr HX.out (HM.out x (List.mem_of_getElem? HX.out))
      rw [H0.out] at hcall
      have HCALL := hide hcall
      have HR := hide hr
      clear hr hcall hown
      go_wp2_with fail
      refine HCALL.out.mono ?_
      rintro e w3 ⟨rfl, hr3, hb3⟩
      go_wp2
      go_ret2
      refine ⟨_, rfl, ?_, hb.trans ((hb2.mono hz1).trans (hb3.mono hz1))⟩
      unfold Fo
      rw [hr3.2]
      exact own_base hr3.1 hz1
    · rw [chR_err HE.out.1 HE.out.2 h0]
      generalize hF1 : (F x).1 = er at h0 ⊢
      have H0 := hide hF1
      have he0 : (er == 0) = false := by simpa using h0
      have he1 : (er != 0) = true := by simpa using h0
      clear h0 hF1
      go_enter Tryz.func120, Tryz.ntmps120
      go_wp2_with fail
      refine HP.out.mono ?_
      rintro e w1 ⟨rfl, hb⟩
      have hz1 := hb.size
      go_wp2_with fail
      refine (HC.out _ hb).mono ?_
      rintro e w2 ⟨v, rfl, hown, hb2⟩
      have hz2 := hb2.size
      obtain ⟨g, cap, hv, hgb, hgl⟩ := hown.form (by omega)
      subst hv
      have hr : Rw w2 w1.heap.size g xs.length cap xs := ⟨hown, rfl⟩
      have hcall := HF.out w2 w1.heap.size g xs.length cap i xs x (hb.trans (hb2.mono hb.size)) hb.size hb2.size hr HX.out (HM.out x (List.mem_of_getElem? HX.out))
      rw [H0.out] at hcall
      have HCALL := hide hcall
      have HR := hide hr
      clear hr hcall hown
      go_wp2_with fail
      refine HCALL.out.mono ?_
      rintro e w3 ⟨rfl, hr3, hb3⟩
      go_wp2
      go_ret2
      exact ⟨_, rfl, World.ownsRow_nil _ _ _ _, hb.trans ((hb2.mono hz1).trans (hb3.mono hz1))⟩

theorem e_enc1 : ∀ args w, (callFunc 121 args).run Tryz.prog w = .ok (.enter 121 args) w := enters_of Tryz.func121 (by kernel_rfl) rfl
theorem penc_any (A : Option Addr) (n c : Nat) (xs : List Fu) (id am : Int) (w : World) (hs : Fs w w.heap.size A n c xs) (hn : n ≤ 1000) (hm : ∀ x ∈ xs, FuM x) :
    Calls Tryz.prog 63 #[.slice A n c, .int .i64 id, .int .i64 am] w fun e w' => ∃ v, e = .returned (.tuple #[v, .int .i64 (chR (encF am) xs id).1]) ∧ Fo w' w.heap.size v (chR (encF am) xs id).2 ∧ Below w.heap.size w w' := by
  have hb0 : Below w.heap.size w (w.alloc (.cells #[.int .i64 am] 3)) := (Below.refl _ _).alloc (Nat.le_refl _) _
  have HB := hide hb0
  have HS := hide ((hs.below hb0).more hb0.size)
  have HM := hide hm
  clear hs hm hb0
  go_enter Tryz.func63, Tryz.ntmps63
  go_wp2_with fail
  refine (change_any 121 _ (encF am) e_enc1 A n c xs id _ HS.out hn HM.out (fun W base g n' cap i ys x hb h1 h2 hr hx hm => ?_)).mono ?_
  · exact enc1_any base g n' cap i w.heap.size ys x am W hr hx hm h2 ((hb.cell (p := ⟨w.heap.size, 0, none⟩) (by simp)).trans (by simp [go_sem]))
  rintro e w' ⟨v, rfl, hown, hb'⟩
  have hz := HB.out.size
  go_wp2
  go_ret2
  exact ⟨_, rfl, own_base hown hz, HB.out.trans (hb'.mono hz)⟩

theorem e_bud1 : ∀ args w, (callFunc 137 args).run Tryz.prog w = .ok (.enter 137 args) w := enters_of Tryz.func137 (by kernel_rfl) rfl
theorem pbud_any (A : Option Addr) (n c : Nat) (xs : List Fu) (id am : Int) (w : World) (hs : Fs w w.heap.size A n c xs) (hn : n ≤ 1000) (hm : ∀ x ∈ xs, FuM x) (ham : I64 am) :
    Calls Tryz.prog 91 #[.slice A n c, .int .i64 id, .int .i64 am] w fun e w' => ∃ v, e = .returned (.tuple #[v, .int .i64 (chR (budF am) xs id).1]) ∧ Fo w' w.heap.size v (chR (budF am) xs id).2 ∧ Below w.heap.size w w' := by
  have hb0 : Below w.heap.size w (w.alloc (.cells #[.int .i64 am] 3)) := (Below.refl _ _).alloc (Nat.le_refl _) _
  have HB := hide hb0
  have HS := hide ((hs.below hb0).more hb0.size)
  have HM := hide hm
  clear hs hm hb0
  go_enter Tryz.func91, Tryz.ntmps91
  go_wp2_with fail
  refine (change_any 137 _ (budF am) e_bud1 A n c xs id _ HS.out hn HM.out (fun W base g n' cap i ys x hb h1 h2 hr hx hm => ?_)).mono ?_
  · exact bud1_any base g n' cap i w.heap.size ys x am W hr hx hm ham ((hb.cell (p := ⟨w.heap.size, 0, none⟩) (by simp)).trans (by simp [go_sem]))
  rintro e w' ⟨v, rfl, hown, hb'⟩
  have hz := HB.out.size
  go_wp2
  go_ret2
  exact ⟨_, rfl, own_base hown hz, HB.out.trans (hb'.mono hz)⟩

end Go.Proofs.YtbhndfphegflhaaGreat

/- Walks: the reference's Encumber, Release, Spend, Budget. -/
namespace Go.Proofs.YtbhndfphegflhaaGreat
open Go.RowKit

set_option maxHeartbeats 400000 in
theorem renc_any (A : Option Addr) (n c : Nat) (xs : List Fu) (id am : Int) (w : World) (hs : Fs w w.heap.size A n c xs) (hn : n ≤ 1000) (hm : ∀ x ∈ xs, FuM x) :
    Calls Tryz.prog 65 #[.slice A n c, .int .i64 id, .int .i64 am] w fun e w' => ∃ v, e = .returned (.tuple #[v, .int .i64 (chR (encF am) xs id).1]) ∧ Fo w' w.heap.size v (chR (encF am) xs id).2 ∧ Below w.heap.size w w' := by
  obtain rfl := hs.len
  have hp := at_any A xs.length c xs id w _ hs
  have hm1 := amount_any am
  have hf := rfree_any A xs.length c xs id w hs hm
  have hbig := hs.big
  have HS := hide hs
  have HM := hide hm
  clear hs hm
  rcases getF_at (xs := xs) (id := id) with ⟨h1, h2⟩ | ⟨i, x, h1, h2, h3, h4⟩
  · rw [chR_none h1]
    rw [h1] at hp
    have HP := hide hp
    clear hp h1 h2 hf hm1
    go_enter Tryz.func65, Tryz.ntmps65
    go_wp2_with fail
    refine HP.out.mono ?_
    rintro e w1 ⟨rfl, rfl⟩
    go_wp2
    go_ret2
    exact ⟨_, rfl, World.ownsRow_nil _ _ _ _, Below.refl _ _⟩
  · have hx : FuM x := HM.out x (List.mem_of_getElem? h2)
    rw [h1] at hp
    rw [h4] at hf
    simp only at hf
    have HP := hide hp
    have HX := hide h2
    have HF := hide hf
    have HE := hide (And.intro h1 h4)
    clear hp h1 h2 h3 h4 hf
    by_cases h5 : mny am = true
    · rw [h5] at hm1
      have h5' : 0 ≤ am ∧ am ≤ 100000000 := by simpa [mny] using h5
      have M1 := hide hm1
      by_cases h6 : freeF x < am
      · have he : encF am x = (17, x) := by simp [encF, h5, h6]
        rw [chR_err HE.out.1 HE.out.2 (by simp [he]), he]
        clear hm1 he h5
        go_enter Tryz.func65, Tryz.ntmps65
        go_wp2_with fail
        refine HP.out.mono ?_
        rintro e w1 ⟨rfl, rfl⟩
        go_wp2_with fail
        refine (M1.out _).mono ?_
        rintro e w1 ⟨rfl, rfl⟩
        go_wp2_with fail
        refine HF.out.mono ?_
        rintro e w1 ⟨rfl, hb⟩
        go_wp2
        go_ret2
        exact ⟨_, rfl, World.ownsRow_nil _ _ _ _, hb⟩
      · have he : encF am x = (0, chg 0 am 0 x) := by simp [encF, h5, h6, chg]
        rw [chR_ok HE.out.1 HE.out.2 (by simp [he]), he]
        have hch := fun w1 (hb : Below w.heap.size w w1) => changed_any A xs.length c xs i x 0 am 0 w1 ((HS.out.below hb).more hb.size) hn HX.out (by have := hx.b; unfold I64; omega) (by have := hx.e; unfold I64; omega) (by have := hx.s; unfold I64; omega)
        have HC := hide hch
        clear hm1 he h5 hch hx
        go_enter Tryz.func65, Tryz.ntmps65
        go_wp2_with fail
        refine HP.out.mono ?_
        rintro e w1 ⟨rfl, rfl⟩
        go_wp2_with fail
        refine (M1.out _).mono ?_
        rintro e w1 ⟨rfl, rfl⟩
        go_wp2_with fail
        refine HF.out.mono ?_
        rintro e w1 ⟨rfl, hb⟩
        go_wp2_with fail
        refine (HC.out _ hb).mono ?_
        rintro e w2 ⟨v, rfl, hown, hb2⟩
        have hz := hb.size
        go_wp2
        go_ret2
        exact ⟨_, rfl, own_base hown hz, hb.trans (hb2.mono hz)⟩
    · have h5' : mny am = false := by simpa using h5
      rw [h5'] at hm1
      have he : encF am x = (2, x) := by simp [encF, h5']
      rw [chR_err HE.out.1 HE.out.2 (by simp [he]), he]
      have M1 := hide hm1
      clear hm1 he h5 h5'
      go_enter Tryz.func65, Tryz.ntmps65
      go_wp2_with fail
      refine HP.out.mono ?_
      rintro e w1 ⟨rfl, rfl⟩
      go_wp2_with fail
      refine (M1.out _).mono ?_
      rintro e w1 ⟨rfl, rfl⟩
      go_wp2
      go_ret2
      exact ⟨_, rfl, World.ownsRow_nil _ _ _ _, Below.refl _ _⟩

set_option maxHeartbeats 400000 in
theorem rbud_any (A : Option Addr) (n c : Nat) (xs : List Fu) (id am : Int) (w : World) (hs : Fs w w.heap.size A n c xs) (hn : n ≤ 1000) (hm : ∀ x ∈ xs, FuM x) :
    Calls Tryz.prog 92 #[.slice A n c, .int .i64 id, .int .i64 am] w fun e w' => ∃ v, e = .returned (.tuple #[v, .int .i64 (chR (budF am) xs id).1]) ∧ Fo w' w.heap.size v (chR (budF am) xs id).2 ∧ Below w.heap.size w w' := by
  obtain rfl := hs.len
  have hp := at_any A xs.length c xs id w _ hs
  have hm1 := amount_any am
  have hbig := hs.big
  have hle := hs.le
  have HS := hide hs
  have HM := hide hm
  clear hs hm
  rcases getF_at (xs := xs) (id := id) with ⟨h1, h2⟩ | ⟨i, x, h1, h2, h3, h4⟩
  · rw [chR_none h1]
    rw [h1] at hp
    have HP := hide hp
    clear hp h1 h2
    go_enter Tryz.func92, Tryz.ntmps92
    go_wp2_with fail
    refine HP.out.mono ?_
    rintro e w1 ⟨rfl, rfl⟩
    go_wp2
    go_ret2
    exact ⟨_, rfl, World.ownsRow_nil _ _ _ _, Below.refl _ _⟩
  · have hx : FuM x := HM.out x (List.mem_of_getElem? h2)
    rw [h1] at hp
    have HP := hide hp
    have HX := hide h2
    have HE := hide (And.intro h1 h4)
    have hi : i < xs.length := (List.getElem?_eq_some_iff.1 h2).1
    obtain ⟨b, off, y, rfl, hbB, hy, c0, c1, c2, c3, c4⟩ := Fs_at HS.out hi
    obtain rfl : x = y := by rw [hy] at h2; exact (Option.some.inj h2).symm
    clear hp h1 h2 h3 hy
    have hm2 := amount_any (x.budget + am)
    have hxb := hx.b
    by_cases h5 : mny am = true
    · rw [h5] at hm1
      have h5' : 0 ≤ am ∧ am ≤ 100000000 := by simpa [mny] using h5
      obtain ⟨p1, p2⟩ := h5'
      obtain ⟨p3, p4⟩ := hxb
      have M1 := hide hm1
      by_cases h6 : mny (x.budget + am) = true
      · rw [h6] at hm2
        have he : budF am x = (0, chg am 0 0 x) := by simp [budF, h5, h6, chg]
        rw [chR_ok HE.out.1 HE.out.2 (by simp [he]), he]
        have M2 := hide hm2
        have hch := changed_any (some ⟨b, off, none⟩) xs.length c xs i x am 0 0 w HS.out hn HX.out (by have := hx.b; unfold I64; omega) (by have := hx.e; unfold I64; omega) (by have := hx.s; unfold I64; omega)
        have HC := hide hch
        clear hch
        clear hm1 hm2 he h5 h4 hx h6
        go_enter Tryz.func92, Tryz.ntmps92
        go_wp2_with fail
        refine (HP.out).mono ?_
        rintro e w1 ⟨rfl, rfl⟩
        go_wp2_with fail
        refine (M1.out _).mono ?_
        rintro e w1 ⟨rfl, rfl⟩
        go_wp2_with fail
        refine (M2.out _).mono ?_
        rintro e w1 ⟨rfl, rfl⟩
        go_wp2_with fail
        refine (HC.out).mono ?_
        rintro e w2 ⟨v, rfl, hown, hb2⟩
        go_wp2
        go_ret2
        exact ⟨_, rfl, hown, hb2⟩
      · have h6' : mny (x.budget + am) = false := by simpa using h6
        rw [h6'] at hm2
        have he : (budF am x).1 = 2 := by simp [budF, h5, h6']
        rw [chR_err HE.out.1 HE.out.2 (by simp [he]), he]
        have M2 := hide hm2
        clear hm1 hm2 he h5 h4 h6 h6'
        go_enter Tryz.func92, Tryz.ntmps92
        go_wp2_with fail
        refine (HP.out).mono ?_
        rintro e w1 ⟨rfl, rfl⟩
        go_wp2_with fail
        refine (M1.out _).mono ?_
        rintro e w1 ⟨rfl, rfl⟩
        go_wp2_with fail
        refine (M2.out _).mono ?_
        rintro e w1 ⟨rfl, rfl⟩
        go_wp2
        go_ret2
        exact ⟨_, rfl, World.ownsRow_nil _ _ _ _, Below.refl _ _⟩
    · have h5' : mny am = false := by simpa using h5
      rw [h5'] at hm1
      have he : (budF am x).1 = 2 := by simp [budF, h5']
      rw [chR_err HE.out.1 HE.out.2 (by simp [he]), he]
      have M1 := hide hm1
      clear hm1 he h5 h5' h4 hm2
      go_enter Tryz.func92, Tryz.ntmps92
      go_wp2_with fail
      refine (HP.out).mono ?_
      rintro e w1 ⟨rfl, rfl⟩
      go_wp2_with fail
      refine (M1.out _).mono ?_
      rintro e w1 ⟨rfl, rfl⟩
      go_wp2
      go_ret2
      exact ⟨_, rfl, World.ownsRow_nil _ _ _ _, Below.refl _ _⟩

end Go.Proofs.YtbhndfphegflhaaGreat

/- Walks: Transfer, and the reference's. -/
namespace Go.Proofs.YtbhndfphegflhaaGreat
open Go.RowKit

theorem idxP_map {α : Type} (p : α → Bool) : ∀ (xs ys : List α) (k : Int), xs.map p = ys.map p → idxP p xs k = idxP p ys k
  | [], [], _, _ => rfl
  | [], _ :: _, _, h => by simp at h
  | _ :: _, [], _, h => by simp at h
  | x :: r, y :: s, k, h => by
    simp only [List.map_cons, List.cons.injEq] at h
    rw [idxP, idxP, h.1, idxP_map p r s (k + 1) h.2]
theorem atF_set {xs : List Fu} {k : Nat} {x y : Fu} (hx : xs[k]? = some x) (he : y.id = x.id) (id : Int) : atF (xs.set k y) id = atF xs id := by
  unfold atF ix
  apply idxP_map
  rw [List.map_set, he]
  exact set_same (by rw [List.getElem?_map, hx]; rfl)

/-- What Transfer makes of a list: the error code, and the list. -/
def trR (xs : List Fu) (fr to am : Int) : Int × List Fu :=
  if atF xs fr < 0 ∨ atF xs to < 0 then (9, []) else if fr = to then (1, []) else if mny am = false then (2, []) else if freeF (getF xs fr).1 < am then (17, [])
  else if mny ((getF xs to).1.budget + am) = false then (2, [])
  else (0, (xs.set (atF xs fr).toNat (chg (-am) 0 0 (getF xs fr).1)).set (atF xs to).toNat (chg am 0 0 (getF xs to).1))

theorem id_idx {xs : List Fu} {a b : Int} {i k : Nat} {x y : Fu} (h1 : atF xs a = i) (h2 : xs[i]? = some x) (h3 : x.id = a) (k1 : atF xs b = k) (k2 : xs[k]? = some y) (k3 : y.id = b) : (i = k ↔ a = b) := by
  constructor
  · rintro rfl; rw [h2] at k2; cases k2; rw [← h3, ← k3]
  · rintro rfl; rw [h1] at k1; omega

end Go.Proofs.YtbhndfphegflhaaGreat

/- Walks: Transfer. -/
namespace Go.Proofs.YtbhndfphegflhaaGreat
open Go.RowKit


end Go.Proofs.YtbhndfphegflhaaGreat

/- Walks: parents, Within, loop. -/
namespace Go.Proofs.YtbhndfphegflhaaGreat
open Go.RowKit Go.Maps

theorem wf64 {a : Int} (h : I64 a) : (Lit.int .i64 a).wf = true := by
  obtain ⟨h1, h2⟩ := h
  exact WalkArith.wf_i64 (by omega)

/-- The parent of the last fund with an ID; 0 if there is none. -/
def upF (xs : List Fu) : Int → Int := xs.foldl (fun f x => fun y => if y = x.id then x.parent else f y) (fun _ => 0)
theorem upF_snoc (xs : List Fu) (x : Fu) (y : Int) : upF (xs ++ [x]) y = if y = x.id then x.parent else upF xs y := by
  simp [upF, List.foldl_append]
theorem upF_step {xs : List Fu} {k : Nat} {x : Fu} (h : xs[k]? = some x) (y : Int) : upF (xs.take (k + 1)) y = if y = x.id then x.parent else upF (xs.take k) y := by
  obtain ⟨hk, rfl⟩ := List.getElem?_eq_some_iff.1 h
  rw [List.take_succ_eq_append_getElem hk, upF_snoc]

theorem zero_int (w : World) : (zeroValue 3).run Tryz.prog w = .ok (.int .i64 0) w := by kernel_rfl
theorem zero_fund (w : World) : (zeroValue 57).run Tryz.prog w = .ok (fuV fu0) w := by kernel_rfl

set_option maxHeartbeats 400000 in
theorem parents_any (A : Option Addr) (n c : Nat) (xs : List Fu) (w : World) (hs : Fs w w.heap.size A n c xs) (hw : ∀ x ∈ xs, I64 x.id) :
    Calls Tryz.prog 181 #[.slice A n c] w fun e w' => ∃ b, e = .returned (.map (some b)) ∧ w.heap.size ≤ b ∧ MapI Tryz.prog 3 w' b n (.int .i64 0) (fun y => .int .i64 (upF xs y)) ∧ Below w.heap.size w w' := by
  have hle := hs.le
  have hbig := hs.big
  have HS := hide hs
  have HW := hide hw
  clear hs hw
  have hmm := @run_makeMap Tryz.prog
  go_enter Tryz.func181, Tryz.ntmps181
  go_wp2
  go_loopw [9] (fun i wr => ∃ k : Nat, k ≤ n ∧ i = .int .i64 k ∧ MapI Tryz.prog 3 wr w.heap.size k (.int .i64 0) (fun y => .int .i64 (upF (xs.take k) y)) ∧ Below w.heap.size w wr) (fun i _ => n - (intOf i).toNat)
  case atStart => exact ⟨0, Nat.zero_le _, rfl, MapI.made _ _ _ _, (Below.refl _ _).alloc (Nat.le_refl _) _⟩
  case round =>
    obtain ⟨k, hk, rfl, hmap, hb⟩ := hrel
    have HB := hide hb
    have HM := hide hmap
    have hz := hb.size
    clear hb hmap
    by_cases hlt : k < n
    · obtain ⟨b, off, x, rfl, hbB, hx, c0, c1, c2, c3, c4⟩ := Fs_at (HS.out.below HB.out) hlt
      have HX := hide hx
      have hwf := wf64 (HW.out x (List.mem_of_getElem? hx))
      have HWF := hide hwf
      clear hx hwf
      go_wp2_with (at_mapUpdate; go_must (refine wpList_updateI _ rfl _ _ _ 89 rfl 3 3 Tryz.underlying3 Tryz.underlying89 (.int .i64 0) w.heap.size k _ rfl (HM.out.alloc _) (by unfold maxLen; omega) _ _ rfl rfl HWF.out ?_))
      intro w1 hm1 hg1
      have HM1 := hide hm1
      have hb1 := (HB.out.alloc hz (.cells #[.int .i64 x.id, .int .i64 x.parent, .int .i64 x.budget, .int .i64 x.enc, .int .i64 x.spent] 57)).grown hg1 (by simp; omega) (fun j hj => by cases hj; exact Nat.le_refl _)
      have HB1 := hide hb1
      clear hm1 hg1 hb1
      go_wp2
      go_roundw
      case rel =>
        refine ⟨k + 1, by omega, by go_num, HM1.out.congr (fun y _ => ?_), HB1.out⟩
        rw [upF_step HX.out]
        by_cases e : y = x.id <;> simp [e]
      case measure => simp [intOf]; omega
    · obtain rfl : k = n := by omega
      go_wp2
      go_ret
      refine ⟨_, rfl, Nat.le_refl _, HM.out.congr (fun y _ => ?_), HB.out⟩
      rw [List.take_of_length_le (by have := HS.out.len; omega)]

/-- Whether a fund is another one or below it, looking at most f steps up. -/
def wiR (xs : List Fu) : Nat → Int → Int → Bool
  | 0, _, _ => false
  | f + 1, id, top => if id = top then true else if (getF xs id).2 = true then wiR xs f (getF xs id).1.parent top else false

set_option maxHeartbeats 400000 in
theorem within_any (A : Option Addr) (n c : Nat) (xs : List Fu) (id top : Int) (w : World) (B : Nat) (hs : Fs w B A n c xs) :
    Calls Tryz.prog 84 #[.slice A n c, .int .i64 id, .int .i64 top] w fun e w' => e = .returned (.bool (wiR xs (n + 1) id top)) ∧ w = w' := by
  have hle := hs.le
  have hbig := hs.big
  have HS := hide hs
  clear hs
  go_enter Tryz.func84, Tryz.ntmps84
  go_wp2
  go_loop [1, 7] (fun d i => ∃ (k : Nat) (id' : Int), k ≤ n + 1 ∧ i = .int .i64 k ∧ d = .int .i64 id' ∧ wiR xs (n + 1) id top = wiR xs (n + 1 - k) id' top) (fun _ i => n + 1 - (intOf i).toNat)
  case atStart => exact ⟨0, id, Nat.zero_le _, rfl, rfl, rfl⟩
  case round =>
    obtain ⟨k, id', hk, rfl, rfl, ha⟩ := hrel
    have HA := hide ha
    clear ha
    by_cases hlt : k ≤ n
    · have e1 : n + 1 - k = (n - k) + 1 := by omega
      by_cases hit : id' = top
      · have hit' : (id' == top) = true := by simpa using hit
        have HI := hide hit
        clear hit
        go_wp2
        go_ret
        exact ⟨ret_bool (by rw [HA.out, e1, wiR, if_pos HI.out]), rfl⟩
      · have hit' : (id' == top) = false := by simpa using hit
        have HI := hide hit
        clear hit
        have hp := fun w1 (_ : w = w1) => at_any A n c xs id' w _ HS.out
        rcases getF_at (xs := xs) (id := id') with ⟨h1, h2⟩ | ⟨i, x, h1, h2, h3, h4⟩
        · rw [h1] at hp
          have HP := hide hp
          have HG := hide h2
          clear hp h1 h2
          go_wp2_with fail
          refine (HP.out _ rfl).mono ?_
          rintro e w1 ⟨rfl, rfl⟩
          go_wp2
          go_ret
          exact ⟨ret_bool (by rw [HA.out, e1, wiR, if_neg HI.out, HG.out, if_neg (by decide)]), rfl⟩
        · rw [h1] at hp
          have hi : i < n := by have := (List.getElem?_eq_some_iff.1 h2).1; have := HS.out.len; omega
          obtain ⟨b, off, y, rfl, hbB, hy, c0, c1, c2, c3, c4⟩ := Fs_at HS.out hi
          obtain rfl : x = y := by rw [hy] at h2; exact (Option.some.inj h2).symm
          have HP := hide hp
          have HG := hide h4
          clear hp h1 h2 h3 h4 hy c0 c2 c3 c4
          go_wp2_with fail
          refine (HP.out _ rfl).mono ?_
          rintro e w1 ⟨rfl, rfl⟩
          go_wp2
          go_round
          case rel => exact ⟨k + 1, x.parent, by omega, by go_num, rfl, by rw [HA.out, e1, wiR, if_neg HI.out, HG.out, if_pos rfl, show n + 1 - (k + 1) = n - k from by omega]⟩
          case measure => simp [intOf]; omega
    · go_wp2
      go_ret
      exact ⟨ret_bool (by rw [HA.out, show n + 1 - k = 0 from by omega]; rfl), rfl⟩

/-- The program's way up: f steps at most until 0; true if it is not reached. -/
def lpR (up : Int → Int) : Nat → Int → Bool
  | 0, id => decide (id ≠ 0)
  | f + 1, id => if id = 0 then false else lpR up f (up id)
end Go.Proofs.YtbhndfphegflhaaGreat

/- Walks: loop. -/
namespace Go.Proofs.YtbhndfphegflhaaGreat
open Go.RowKit Go.Maps

theorem upF_in : ∀ (xs : List Fu) (f : Int → Int) (P : Int → Prop), (∀ y, P (f y)) → (∀ x ∈ xs, P x.parent) → ∀ y, P (xs.foldl (fun f x => fun y => if y = x.id then x.parent else f y) f y)
  | [], _, _, hf, _, y => hf y
  | x :: r, f, P, hf, hx, y => by
    rw [List.foldl_cons]
    refine upF_in r _ P (fun z => ?_) (fun z hz => hx z (by simp [hz])) y
    by_cases e : z = x.id
    · simp only [e, if_true]; exact hx x (by simp)
    · simp only [e, if_false]; exact hf z
theorem upF_I64 {xs : List Fu} (h : ∀ x ∈ xs, FuW x) (y : Int) : I64 (upF xs y) :=
  upF_in xs _ I64 (fun _ => ⟨by omega, by omega⟩) (fun x hx => (h x hx).parent) y

def loopR (xs : List Fu) : Bool := xs.any (fun f => lpR (upF xs) (xs.length + 1) f.parent)

theorem any_stepF {α : Type} {p : α → Bool} {xs : List α} {k : Nat} {x : α} (h : xs[k]? = some x) : (xs.drop k).any p = (p x || (xs.drop (k + 1)).any p) := by
  obtain ⟨hk, rfl⟩ := List.getElem?_eq_some_iff.1 h
  rw [List.drop_eq_getElem_cons hk, List.any_cons]

set_option maxHeartbeats 400000 in
theorem loop_any (A : Option Addr) (n c : Nat) (xs : List Fu) (w : World) (hs : Fs w w.heap.size A n c xs) (hw : ∀ x ∈ xs, FuW x) :
    Calls Tryz.prog 153 #[.slice A n c] w fun e w' => e = .returned (.bool (loopR xs)) ∧ Below w.heap.size w w' := by
  obtain rfl := hs.len
  have hle := hs.le
  have hbig := hs.big
  have hpar := parents_any A xs.length c xs w hs (fun x hx => (hw x hx).id)
  have hup := upF_I64 hw
  have HS := hide hs
  have HW := hide hw
  have HP := hide hpar
  have HU := hide hup
  clear hs hw hpar hup
  go_enter Tryz.func153, Tryz.ntmps153
  go_wp2_with fail
  refine HP.out.mono ?_
  rintro e w1 ⟨mb, rfl, hmb, hmap, hb1⟩
  have HM := hide hmap
  have HB1 := hide hb1
  have hz1 := hb1.size
  have hml := hmap.lt
  clear hmap hb1
  go_wp2
  go_loopw [12] (fun i wr => ∃ k : Nat, k ≤ xs.length ∧ i = .int .i64 k ∧ Below w1.heap.size w1 wr ∧ loopR xs = (xs.drop k).any (fun f => lpR (upF xs) (xs.length + 1) f.parent)) (fun i _ => xs.length - (intOf i).toNat)
  case atStart => exact ⟨0, Nat.zero_le _, rfl, Below.refl _ _, rfl⟩
  case round =>
    obtain ⟨k, hk, rfl, hb, ha⟩ := hrel
    have HA := hide ha
    have HB := hide hb
    have hz := hb.size
    clear ha hb
    by_cases hlt : k < xs.length
    · obtain ⟨b, off, x, rfl, hbB, hx, c0, c1, c2, c3, c4⟩ := Fs_at (HS.out.below (HB1.out.trans (HB.out.mono hz1))) hlt
      have hxw := HW.out x (List.mem_of_getElem? hx)
      have HX := hide (any_stepF (p := fun f => lpR (upF xs) (xs.length + 1) f.parent) hx)
      have hxp := hxw.parent
      have HXP := hide hxp
      clear hx hxw hxp
      go_wp2
      have hmw : MapI Tryz.prog 3 (wr.alloc (.cells #[.int .i64 x.id, .int .i64 x.parent, .int .i64 x.budget, .int .i64 x.enc, .int .i64 x.spent] 57)) mb xs.length (.int .i64 0) (fun y => .int .i64 (upF xs y)) := (HM.out.below HB.out hml).alloc _
      have hbw := HB.out.alloc hz (.cells #[.int .i64 x.id, .int .i64 x.parent, .int .i64 x.budget, .int .i64 x.enc, .int .i64 x.spent] 57)
      clear c0 c1 c2 c3 c4
      obtain ⟨wo, hwo⟩ : ∃ wo : World, wo = wr.alloc (.cells #[.int .i64 x.id, .int .i64 x.parent, .int .i64 x.budget, .int .i64 x.enc, .int .i64 x.spent] 57) := ⟨_, rfl⟩
      rw [← hwo] at hmw hbw ⊢
      clear hwo
      have HMW := hide hmw
      have HBW := hide hbw
      clear hmw hbw
      go_loop [6, 7] (fun d s => ∃ (j : Nat) (id' : Int), j ≤ xs.length + 1 ∧ s = .int .i64 j ∧ d = .int .i64 id' ∧ I64 id' ∧ lpR (upF xs) (xs.length + 1) x.parent = lpR (upF xs) (xs.length + 1 - j) id') (fun _ s => xs.length + 1 - (intOf s).toNat)
      case atStart => exact ⟨0, x.parent, by omega, rfl, rfl, HXP.out, rfl⟩
      case round =>
        obtain ⟨j, id', hj, rfl, rfl, hid, hl⟩ := hrel
        have HL := hide hl
        have HI := hide hid
        clear hl hid
        by_cases h0 : id' = 0
        · subst h0
          go_wp2
          go_roundw
          case rel => 
            refine ⟨k + 1, by omega, by go_num, HBW.out, ?_⟩
            rw [HA.out, HX.out, HL.out]
            cases hjj : xs.length + 1 - j <;> simp [lpR]
          case measure => simp [intOf]; omega
        · have h0' : (id' == 0) = false := by simpa using h0
          have h0'' : (id' != 0) = true := by simpa using h0
          have H0 := hide h0
          clear h0
          by_cases hjn : xs.length < j
          · go_wp2
            go_ret
            refine ⟨ret_bool ?_, HB1.out.trans (HBW.out.mono hz1)⟩
            rw [HA.out, HX.out, HL.out, show xs.length + 1 - j = 0 from by omega]
            simp [lpR, H0.out]
          · go_wp2_with (at_lookup; go_must (refine wpList_lookupI _ rfl _ _ 89 rfl 3 3 Tryz.underlying3 Tryz.underlying89 (.int .i64 0) (zero_int _) mb _ _ rfl HMW.out _ rfl (wf64 HI.out) ?_))
            go_round
            case rel =>
              refine ⟨j + 1, upF xs id', by omega, by go_num, rfl, HU.out id', ?_⟩
              rw [HL.out, show xs.length + 1 - j = (xs.length + 1 - (j + 1)) + 1 from by omega, lpR, if_neg H0.out]
            case measure => simp [intOf]; omega
    · go_wp2
      go_ret
      exact ⟨ret_bool (by rw [HA.out, List.drop_eq_nil_of_le (by omega)]; rfl), HB1.out.trans (HB.out.mono hz1)⟩
end Go.Proofs.YtbhndfphegflhaaGreat
