/- Texts laid together: what was cut out of others: IuKit, ShKit, SeKit, AqOpen. -/
import Derived.Test.YtbhndfphegflhaaGreatMrg3
import Derived.Test.YtbhndfphegflhaaGreatMrg0
import Derived.Test.YtbhndfphegflhaaGreatProg
import Derived.Shelf.Abstract
import Derived.Test.YtbhndfphegflhaaGreatMrg4
import Derived.Test.YtbhndfphegflhaaGreatMrg10
import Derived.Test.YtbhndfphegflhaaGreatMrg13
set_option linter.unusedSimpArgs false
set_option linter.unusedVariables false
namespace Go.Proofs.YtbhndfphegflhaaGreat
open Go.RowKit
section
def iu0 : Iu := ⟨0, 0, 0, 0, 0, 0⟩
theorem iu_guard : Tryz.prog.eqGuardType Tryz.prog.depth 122 = false := by kernel_rfl
/-- slices.IndexFunc: whatever predicate that lays only blocks of its own. -/
theorem iu_indexFunc (g : Nat) (lb : Array Value) (p : Iu → Bool) (eg : ∀ args w, (callFunc g args).run Tryz.prog w = .ok (.enter g args) w)
    (A : Option Addr) (n c : Nat) (xs : List Iu) (w : World) (hs : Ius w w.heap.size A n c xs)
    (hp : ∀ W x, x ∈ xs → Below w.heap.size w W → Calls Tryz.prog g (#[iuV x] ++ lb) W fun e w' => e = .returned (.bool (p x)) ∧ Below W.heap.size W w') :
    Calls Tryz.prog 174 #[.slice A n c, .func (.func g) #[] lb] w fun e w' => e = .returned (.int .i64 (ix p xs)) ∧ Below w.heap.size w w' := by
  have hle := hs.le
  have hbig := hs.big
  have HP := hide hp
  clear hp
  go_enter Tryz.func174, Tryz.ntmps174
  go_wp2
  go_loopw [5, 8] (fun _ s8 wr => ∃ k : Nat, k ≤ n ∧ s8 = .int .i64 k ∧ Below w.heap.size w wr ∧ ix p xs = idxP p (xs.drop k) k) (fun _ s8 _ => n - (intOf s8).toNat)
  case atStart => exact ⟨0, Nat.zero_le _, rfl, Below.refl _ _, rfl⟩
  case round =>
    obtain ⟨k, hk, rfl, hb, ha⟩ := hrel
    have HA := hide ha
    have HB := hide hb
    clear ha hb
    by_cases hlt : k < n
    · obtain ⟨b, off, x, rfl, hbB, hx, c0, c1, c2, c3, c4, c5⟩ := Ius_at (hs.below HB.out) hlt
      have HX := hide (idxP_step (p := p) hx)
      have hcall := HP.out wr x (List.mem_of_getElem? hx) HB.out
      have HS := hide hs
      clear hx hs
      unfold iuV at hcall
      generalize hq : p x = q at hcall
      have HQ := hide hq
      clear hq
      cases q with
      | true =>
        go_wp2_with (go_at_fn g; refine hcall.mono ?_; rintro e w' ⟨rfl, hb'⟩)
        go_ret
        exact ⟨ret_int (by rw [HA.out, HX.out, if_pos HQ.out]), HB.out.trans (hb'.mono HB.out.size)⟩
      | false =>
        go_wp2_with (go_at_fn g; refine hcall.mono ?_; rintro e w' ⟨rfl, hb'⟩)
        go_roundw
        case rel => exact ⟨k + 1, by omega, by go_num, HB.out.trans (hb'.mono HB.out.size), by rw [HA.out, HX.out, if_neg (by rw [HQ.out]; decide)]⟩
        case measure => simp [intOf]; omega
    · go_wp2
      go_ret
      exact ⟨ret_int (by rw [HA.out, idxP_end (by have := hs.len; omega)]), HB.out⟩
theorem iu_containsFunc (g : Nat) (lb : Array Value) (p : Iu → Bool) (eg : ∀ args w, (callFunc g args).run Tryz.prog w = .ok (.enter g args) w)
    (A : Option Addr) (n c : Nat) (xs : List Iu) (w : World) (hs : Ius w w.heap.size A n c xs)
    (hp : ∀ W x, x ∈ xs → Below w.heap.size w W → Calls Tryz.prog g (#[iuV x] ++ lb) W fun e w' => e = .returned (.bool (p x)) ∧ Below W.heap.size W w') :
    Calls Tryz.prog 176 #[.slice A n c, .func (.func g) #[] lb] w fun e w' => e = .returned (.bool (decide (0 ≤ ix p xs))) ∧ Below w.heap.size w w' := by
  have HP := hide hp
  have HS := hide hs
  clear hp hs
  go_enter Tryz.func176, Tryz.ntmps176
  go_wp2_with (go_at_call 174; refine (iu_indexFunc g lb p eg A n c xs _ HS.out HP.out).mono ?_; rintro e w' ⟨rfl, hb'⟩)
  go_ret
  exact ⟨rfl, hb'⟩

theorem iu_clone (A : Option Addr) (n c : Nat) (xs : List Iu) (w : World) (hs : Ius w w.heap.size A n c xs) (hn : n ≤ 1000) :
    Calls Tryz.prog 143 #[.slice A n c] w fun e w' => ∃ v, e = .returned v ∧ Iuo w' w.heap.size v xs ∧ Below w.heap.size w w' := by
  obtain ⟨i0, hi, hz0, hz1, hz2⟩ := info_parts iu_info
  have HS := hide hs
  have hnl := hs.nl
  clear hs
  cases A with
  | none =>
    have hx : xs = [] := by
      have h1 := HS.out.len; have h2 := HS.out.nl rfl; have h3 := HS.out.le
      exact List.eq_nil_of_length_eq_zero (by omega)
    subst hx
    clear hnl
    have q22 : ∀ (w : World) (a : Option Addr) (n c n' c' : Nat), (binOp .eql 74 (.slice a n c) (.slice none n' c')).run Tryz.prog w = .ok (.bool a.isNone) w := fun w a n c n' c' => Lib.run_eql_slice_nil w _ _ a n c n' c' Tryz.underlying74
    go_enter Tryz.func143, Tryz.ntmps143
    go_wp2
    go_ret
    exact ⟨_, rfl, World.ownsRow_nil _ _ _ _, Below.refl _ _⟩
  | some ad =>
    clear hnl
    have q22 : ∀ (w : World) (a : Option Addr) (n c n' c' : Nat), (binOp .eql 74 (.slice a n c) (.slice none n' c')).run Tryz.prog w = .ok (.bool a.isNone) w := fun w a n c n' c' => Lib.run_eql_slice_nil w _ _ a n c n' c' Tryz.underlying74
    go_enter Tryz.func143, Tryz.ntmps143
    go_wp2_with (at_builtin; go_must (refine wpList_append_sl _ rfl _ _ 74 rfl w.heap.size 122 i0 _ 48 Tryz.underlying74 hi hz0 hz1 hz2 rfl (by decide) iuE_len iuE_one _ 0 [] rfl (World.ownsRow_made w #[] 0 (Nat.le_refl _) (Nat.zero_le _) rfl) (some ad) n c rfl (HS.out.alloc (Nat.le_refl _) _) (by unfold maxLen; omega) (by omega) (by simp) ?_))
    intro v' w1 hown hg hat
    go_wp2
    go_ret
    refine ⟨v', rfl, ?_, ((Below.refl _ w).alloc (Nat.le_refl _) _).grown hg (by simp) (by intro k hk; simp [Value.ownBlock] at hk; omega)⟩
    have hl := HS.out.len
    subst hl
    simpa using hown
end
end Go.Proofs.YtbhndfphegflhaaGreat
namespace Go.Proofs.YtbhndfphegflhaaGreat
open Go.RowKit
section
theorem sh_stood : Tryz.prog.stoodInHeld 86 = false := by kernel_rfl
theorem sh_guard : Tryz.prog.eqGuardType Tryz.prog.depth 86 = false := by kernel_rfl
theorem sh_eq (x y : Sh) (w : World) : (Op.equalIn 10000 86 (shV x) (shV y)).run Tryz.prog w = .ok (decide (x = y)) w := by
  obtain ⟨a0, a1⟩ := x
  obtain ⟨b0, b1⟩ := y
  have u3 := Tryz.underlying3
  have u4 := Tryz.underlying4
  simp only [shV]
  rw [show (10000 : Nat) = 9999 + 1 from rfl, run_equalIn_agg w 9999 86 _ _ sh_struct sh_stood]
  simp only [Program.fieldsOf, Tryz.underlying86]
  go_simp
  by_cases h0 : a0 = b0
  case neg => simp [h0]
  by_cases h1 : a1 = b1
  case neg => simp [h0, h1]
  subst h0 h1
  simp
theorem sh_neq (x y : Sh) (w : World) : (binOp .neq 86 (shV x) (shV y)).run Tryz.prog w = .ok (.bool (!decide (x = y))) w := by
  have h := sh_eq x y w
  unfold shV at h ⊢
  rw [run_neq_struct, h]; rfl
end
end Go.Proofs.YtbhndfphegflhaaGreat
namespace Go.Proofs.YtbhndfphegflhaaGreat
open Go.RowKit
section
def se0 : Se := ⟨0, 0, 0, 0, 0, none, 0, 0, [], none, 0, 0, [], 0, none, 0, 0, []⟩
theorem seE_one (x : Se) : ∀ u ∈ seE x, u.oneCell' = true := by
  intro u hu; simp only [seE, List.mem_cons, List.not_mem_nil, or_false] at hu
  rcases hu with rfl | rfl | rfl | rfl | rfl | rfl | rfl | rfl | rfl <;> rfl
theorem below_se {B : Nat} {a w : World} (h : Below B a w) {b : Nat} (hb : B ≤ b) (u0 u1 u2 u3 u4 u5 u6 u7 u8 : Value) :
    Below B a (((((((((w.setCell ⟨b, 0, none⟩ u0).setCell ⟨b, 1, none⟩ u1).setCell ⟨b, 2, none⟩ u2).setCell ⟨b, 3, none⟩ u3).setCell ⟨b, 4, none⟩ u4).setCell ⟨b, 5, none⟩ u5).setCell ⟨b, 6, none⟩ u6).setCell ⟨b, 7, none⟩ u7).setCell ⟨b, 8, none⟩ u8) :=
  ((((((((h.setCell hb u0).setCell hb u1).setCell hb u2).setCell hb u3).setCell hb u4).setCell hb u5).setCell hb u6).setCell hb u7).setCell hb u8

/-- slices.IndexFunc: whatever predicate that lays only blocks of its own. -/
theorem se_indexFunc (g : Nat) (lb : Array Value) (p : Se → Bool) (eg : ∀ args w, (callFunc g args).run Tryz.prog w = .ok (.enter g args) w)
    (A : Option Addr) (n c : Nat) (xs : List Se) (w : World) (hs : Ses w w.heap.size A n c xs)
    (hp : ∀ W x, x ∈ xs → Below w.heap.size w W → Calls Tryz.prog g (#[seV x] ++ lb) W fun e w' => e = .returned (.bool (p x)) ∧ Below W.heap.size W w') :
    Calls Tryz.prog 96 #[.slice A n c, .func (.func g) #[] lb] w fun e w' => e = .returned (.int .i64 (ix p xs)) ∧ Below w.heap.size w w' := by
  have hle := hs.le
  have hbig := hs.big
  have HP := hide hp
  clear hp
  go_enter Tryz.func96, Tryz.ntmps96
  go_wp2
  go_loopw [5, 8] (fun _ s8 wr => ∃ k : Nat, k ≤ n ∧ s8 = .int .i64 k ∧ Below w.heap.size w wr ∧ ix p xs = idxP p (xs.drop k) k) (fun _ s8 _ => n - (intOf s8).toNat)
  case atStart => exact ⟨0, Nat.zero_le _, rfl, Below.refl _ _, rfl⟩
  case round =>
    obtain ⟨k, hk, rfl, hb, ha⟩ := hrel
    have HA := hide ha
    have HB := hide hb
    clear ha hb
    by_cases hlt : k < n
    · obtain ⟨b, off, x, rfl, hbB, hx, c0, c1, c2, c3, c4, c5, c6, c7, c8⟩ := Ses_at (hs.below HB.out) hlt
      have HX := hide (idxP_step (p := p) hx)
      have hcall := HP.out wr x (List.mem_of_getElem? hx) HB.out
      have HS := hide hs
      clear hx hs
      unfold seV at hcall
      generalize hq : p x = q at hcall
      have HQ := hide hq
      clear hq
      cases q with
      | true =>
        go_wp2_with (go_at_fn g; refine hcall.mono ?_; rintro e w' ⟨rfl, hb'⟩)
        go_ret
        exact ⟨ret_int (by rw [HA.out, HX.out, if_pos HQ.out]), HB.out.trans (hb'.mono HB.out.size)⟩
      | false =>
        go_wp2_with (go_at_fn g; refine hcall.mono ?_; rintro e w' ⟨rfl, hb'⟩)
        go_roundw
        case rel => exact ⟨k + 1, by omega, by go_num, HB.out.trans (hb'.mono HB.out.size), by rw [HA.out, HX.out, if_neg (by rw [HQ.out]; decide)]⟩
        case measure => simp [intOf]; omega
    · go_wp2
      go_ret
      exact ⟨ret_int (by rw [HA.out, idxP_end (by have := hs.len; omega)]), HB.out⟩
theorem se_containsFunc (g : Nat) (lb : Array Value) (p : Se → Bool) (eg : ∀ args w, (callFunc g args).run Tryz.prog w = .ok (.enter g args) w)
    (A : Option Addr) (n c : Nat) (xs : List Se) (w : World) (hs : Ses w w.heap.size A n c xs)
    (hp : ∀ W x, x ∈ xs → Below w.heap.size w W → Calls Tryz.prog g (#[seV x] ++ lb) W fun e w' => e = .returned (.bool (p x)) ∧ Below W.heap.size W w') :
    Calls Tryz.prog 94 #[.slice A n c, .func (.func g) #[] lb] w fun e w' => e = .returned (.bool (decide (0 ≤ ix p xs))) ∧ Below w.heap.size w w' := by
  have HP := hide hp
  have HS := hide hs
  clear hp hs
  go_enter Tryz.func94, Tryz.ntmps94
  go_wp2_with (go_at_call 96; refine (se_indexFunc g lb p eg A n c xs _ HS.out HP.out).mono ?_; rintro e w' ⟨rfl, hb'⟩)
  go_ret
  exact ⟨rfl, hb'⟩

theorem se_info : (Tryz.prog.info? 76).map (fun i => (i.zero, i.size, i.bytes)) = some (some (.agg #[.int .i64 0, .int .i64 0, .int .i64 0, .int .i64 0, .int .i64 0, .slice none 0 0, .slice none 0 0, .int .i64 0, .slice none 0 0]), 9, 120) := by kernel_rfl
/-- A new row that reads as xs (nil where there is none). -/
abbrev Seo (w : World) (B : Nat) (v : Value) (xs : List Se) : Prop := w.ownsRow B 76 9 v xs.length (xs.flatMap seE)
theorem Seo_sl {w : World} {B : Nat} {v : Value} {xs : List Se} (h : Seo w B v xs) (hn : xs.length ≤ 140737488355328) : ∃ A c, v = .slice A xs.length c ∧ Ses w w.heap.size A xs.length c xs := by
  have h' := h
  rcases h.2 with ⟨rfl, h0⟩ | ⟨g, cap, _, rfl, _⟩
  · refine ⟨none, 0, by rw [h0], ?_⟩
    unfold Seo at h'
    rw [h0] at h' ⊢
    exact Sl.of_own seE_len h' h0 (by omega)
  · exact ⟨_, cap, rfl, Sl.of_own seE_len h' rfl hn⟩
theorem se_clone (A : Option Addr) (n c : Nat) (xs : List Se) (w : World) (hs : Ses w w.heap.size A n c xs) (hn : n ≤ 1000) :
    Calls Tryz.prog 99 #[.slice A n c] w fun e w' => ∃ v, e = .returned v ∧ Seo w' w.heap.size v xs ∧ Below w.heap.size w w' := by
  obtain ⟨i0, hi, hz0, hz1, hz2⟩ := info_parts se_info
  have HS := hide hs
  have hnl := hs.nl
  clear hs
  cases A with
  | none =>
    have hx : xs = [] := by
      have h1 := HS.out.len; have h2 := HS.out.nl rfl; have h3 := HS.out.le
      exact List.eq_nil_of_length_eq_zero (by omega)
    subst hx
    clear hnl
    have q22 : ∀ (w : World) (a : Option Addr) (n c n' c' : Nat), (binOp .eql 25 (.slice a n c) (.slice none n' c')).run Tryz.prog w = .ok (.bool a.isNone) w := fun w a n c n' c' => Lib.run_eql_slice_nil w _ _ a n c n' c' Tryz.underlying25
    go_enter Tryz.func99, Tryz.ntmps99
    go_wp2
    go_ret
    exact ⟨_, rfl, World.ownsRow_nil _ _ _ _, Below.refl _ _⟩
  | some ad =>
    clear hnl
    have q22 : ∀ (w : World) (a : Option Addr) (n c n' c' : Nat), (binOp .eql 25 (.slice a n c) (.slice none n' c')).run Tryz.prog w = .ok (.bool a.isNone) w := fun w a n c n' c' => Lib.run_eql_slice_nil w _ _ a n c n' c' Tryz.underlying25
    go_enter Tryz.func99, Tryz.ntmps99
    go_wp2_with (at_builtin; go_must (refine wpList_append_sl _ rfl _ _ 25 rfl w.heap.size 76 i0 _ 120 Tryz.underlying25 hi hz0 hz1 hz2 rfl (by decide) seE_len seE_one _ 0 [] rfl (World.ownsRow_made w #[] 0 (Nat.le_refl _) (Nat.zero_le _) rfl) (some ad) n c rfl (HS.out.alloc (Nat.le_refl _) _) (by unfold maxLen; omega) (by omega) (by simp) ?_))
    intro v' w1 hown hg hat
    go_wp2
    go_ret
    refine ⟨v', rfl, ?_, ((Below.refl _ w).alloc (Nat.le_refl _) _).grown hg (by simp) (by intro k hk; simp [Value.ownBlock] at hk; omega)⟩
    have hl := HS.out.len
    subst hl
    simpa using hown
end
end Go.Proofs.YtbhndfphegflhaaGreat
namespace Go.Proofs.YtbhndfphegflhaaGreat
open Go.RowKit Go.ChangeShapes Go.WideShapes Go.Deep
section
variable {H : Type} {enc : TypeId × Value → H} {w : World} {base : Nat} {spare : Nat → Bool} {held : Bool}
theorem pt_trod (n : Nat) (cs : List Value) (y : DataW H × List MemPlace) (hl : cs.length = 6) (h : DataW.trod enc Tryz.prog w base spare held n 67 cs = some y) :
    ∃ p : Pt, cs = (ptC p).toList ∧ (p.skn ≤ 20 → Is w w.heap.size p.skA p.skn p.skc p.sk) ∧ (p.dbn ≤ 20 → Is w w.heap.size p.dbA p.dbn p.dbc p.db) := by
  match cs, hl, h with
  | [c0, c1, c2, c3, c4, c5], _, h =>
    obtain ⟨n0, y0, g0⟩ := field_of pt_struct h (j := 0) (o := 0) (ty := 3) (by kernel_rfl) one_int
    obtain ⟨a0, h0, w0⟩ := I64v_of Tryz.underlying3 (v := c0) g0
    obtain ⟨n1, y1, g1⟩ := field_of pt_struct h (j := 1) (o := 1) (ty := 3) (by kernel_rfl) one_int
    obtain ⟨a1, h1, w1⟩ := I64v_of Tryz.underlying3 (v := c1) g1
    obtain ⟨n2, y2, g2⟩ := field_of pt_struct h (j := 2) (o := 2) (ty := 3) (by kernel_rfl) one_int
    obtain ⟨a2, h2, w2⟩ := I64v_of Tryz.underlying3 (v := c2) g2
    obtain ⟨n3, y3, g3⟩ := field_of pt_struct h (j := 3) (o := 3) (ty := 3) (by kernel_rfl) one_int
    obtain ⟨a3, h3, w3⟩ := I64v_of Tryz.underlying3 (v := c3) g3
    obtain ⟨n4, y4, g4⟩ := field_of pt_struct h (j := 4) (o := 4) (ty := 65) (by kernel_rfl) (c := 1) (by kernel_rfl)
    obtain ⟨A4, m4, k4, h4, q4⟩ := open_sl (cs := [c4]) inE_len (by omega) Tryz.underlying65 (by kernel_rfl) in_trod g4
    have h4 : c4 = .slice A4 m4 k4 := by simpa using h4
    obtain ⟨n5, y5, g5⟩ := field_of pt_struct h (j := 5) (o := 5) (ty := 65) (by kernel_rfl) (c := 1) (by kernel_rfl)
    obtain ⟨A5, m5, k5, h5, q5⟩ := open_sl (cs := [c5]) inE_len (by omega) Tryz.underlying65 (by kernel_rfl) in_trod g5
    have h5 : c5 = .slice A5 m5 k5 := by simpa using h5
    obtain ⟨xs4, hxs4⟩ : ∃ xs : List Int, m4 ≤ 140737488355328 → Is w w.heap.size A4 m4 k4 xs := by
      by_cases hm : m4 ≤ 140737488355328
      · obtain ⟨xs, hx, _⟩ := q4 hm; exact ⟨xs, fun _ => hx⟩
      · exact ⟨[], fun h => absurd h hm⟩
    obtain ⟨xs5, hxs5⟩ : ∃ xs : List Int, m5 ≤ 140737488355328 → Is w w.heap.size A5 m5 k5 xs := by
      by_cases hm : m5 ≤ 140737488355328
      · obtain ⟨xs, hx, _⟩ := q5 hm; exact ⟨xs, fun _ => hx⟩
      · exact ⟨[], fun h => absurd h hm⟩
    subst h0 h1 h2 h3 h4 h5
    exact ⟨⟨a0, a1, a2, a3, A4, m4, k4, xs4, A5, m5, k5, xs5⟩, rfl, fun h => hxs4 (Nat.le_trans h (by omega)), fun h => hxs5 (Nat.le_trans h (by omega))⟩
end
end Go.Proofs.YtbhndfphegflhaaGreat
