/- library/api.Order as plain data; a slice of them; '=='; IndexFunc; Clone. Printed by gen_kit.py. -/
import Derived.Test.YtdbanekjjibpbaaRow
import Derived.Test.YtdbanekjjibpbaaIdx
import Derived.Test.YtdbanekjjibpbaaProg
import Derived.Shelf.Abstract
import Derived.Test.YtdbanekjjibpbaaShKit
namespace Go.Proofs.Ytdbanekjjibpbaa
open Go.RowKit

structure Od where
  id : Int
  rcd : Int
  ven : Int
  cop : Int
  pri : Int
  rcv : Int
  bil : Int
  paid : Int
  st : Int
  shA : Option Addr
  shn : Nat
  shc : Nat
  sh : List Sh

def odE (x : Od) : List Value := [.int .i64 x.id, .int .i64 x.rcd, .int .i64 x.ven, .int .i64 x.cop, .int .i64 x.pri, .int .i64 x.rcv, .int .i64 x.bil, .int .i64 x.paid, .int .i64 x.st, .slice x.shA x.shn x.shc]
def odV (x : Od) : Value := .agg #[.int .i64 x.id, .int .i64 x.rcd, .int .i64 x.ven, .int .i64 x.cop, .int .i64 x.pri, .int .i64 x.rcv, .int .i64 x.bil, .int .i64 x.paid, .int .i64 x.st, .slice x.shA x.shn x.shc]
abbrev odC (x : Od) : Array Value := #[.int .i64 x.id, .int .i64 x.rcd, .int .i64 x.ven, .int .i64 x.cop, .int .i64 x.pri, .int .i64 x.rcv, .int .i64 x.bil, .int .i64 x.paid, .int .i64 x.st, .slice x.shA x.shn x.shc]
def od0 : Od := ⟨0, 0, 0, 0, 0, 0, 0, 0, 0, none, 0, 0, []⟩
theorem odE_len (x : Od) : (odE x).length = 10 := rfl
theorem odE_one (x : Od) : ∀ u ∈ odE x, u.oneCell' = true := by
  intro u hu; simp only [odE, List.mem_cons, List.not_mem_nil, or_false] at hu
  rcases hu with rfl | rfl | rfl | rfl | rfl | rfl | rfl | rfl | rfl | rfl <;> rfl
structure OdW (x : Od) : Prop where
  id : I64 x.id
  rcd : I64 x.rcd
  ven : I64 x.ven
  cop : I64 x.cop
  pri : I64 x.pri
  rcv : I64 x.rcv
  bil : I64 x.bil
  paid : I64 x.paid
  st : I64 x.st
abbrev Ods (w : World) (B : Nat) (A : Option Addr) (n c : Nat) (xs : List Od) : Prop := Sl odE 10 w B A n c xs
theorem od_cells {w : World} {b o : Nat} {x : Od} (h : ∀ j u, (odE x)[j]? = some u → w.cell? ⟨b, o + j, none⟩ = some u) :
    w.cell? ⟨b, o, none⟩ = some (.int .i64 x.id) ∧ w.cell? ⟨b, o + 1, none⟩ = some (.int .i64 x.rcd) ∧ w.cell? ⟨b, o + 2, none⟩ = some (.int .i64 x.ven) ∧ w.cell? ⟨b, o + 3, none⟩ = some (.int .i64 x.cop) ∧ w.cell? ⟨b, o + 4, none⟩ = some (.int .i64 x.pri) ∧ w.cell? ⟨b, o + 5, none⟩ = some (.int .i64 x.rcv) ∧ w.cell? ⟨b, o + 6, none⟩ = some (.int .i64 x.bil) ∧ w.cell? ⟨b, o + 7, none⟩ = some (.int .i64 x.paid) ∧ w.cell? ⟨b, o + 8, none⟩ = some (.int .i64 x.st) ∧ w.cell? ⟨b, o + 9, none⟩ = some (.slice x.shA x.shn x.shc) :=
  ⟨h 0 _ rfl, h 1 _ rfl, h 2 _ rfl, h 3 _ rfl, h 4 _ rfl, h 5 _ rfl, h 6 _ rfl, h 7 _ rfl, h 8 _ rfl, h 9 _ rfl⟩
theorem Ods_at {w : World} {B : Nat} {A : Option Addr} {n c : Nat} {xs : List Od} (h : Ods w B A n c xs) {k : Nat} (hk : k < n) :
    ∃ b off x, A = some ⟨b, off, none⟩ ∧ b < B ∧ xs[k]? = some x ∧
     w.cell? ⟨b, off + k * 10, none⟩ = some (.int .i64 x.id) ∧ w.cell? ⟨b, off + k * 10 + 1, none⟩ = some (.int .i64 x.rcd) ∧ w.cell? ⟨b, off + k * 10 + 2, none⟩ = some (.int .i64 x.ven) ∧ w.cell? ⟨b, off + k * 10 + 3, none⟩ = some (.int .i64 x.cop) ∧ w.cell? ⟨b, off + k * 10 + 4, none⟩ = some (.int .i64 x.pri) ∧ w.cell? ⟨b, off + k * 10 + 5, none⟩ = some (.int .i64 x.rcv) ∧ w.cell? ⟨b, off + k * 10 + 6, none⟩ = some (.int .i64 x.bil) ∧ w.cell? ⟨b, off + k * 10 + 7, none⟩ = some (.int .i64 x.paid) ∧ w.cell? ⟨b, off + k * 10 + 8, none⟩ = some (.int .i64 x.st) ∧ w.cell? ⟨b, off + k * 10 + 9, none⟩ = some (.slice x.shA x.shn x.shc) := by
  obtain ⟨b, off, x, hA, hb, hx, hc⟩ := h.at_ hk
  exact ⟨b, off, x, hA, hb, hx, od_cells hc⟩
theorem od_box {w w' : World} {g : Nat} {x : Od} (h : Box w g 37 (odC x)) (hb : Below (g + 1) w w') : Box w' g 37 (odC x) ∧
    (w'.cell? ⟨g, 0, none⟩ = some (.int .i64 x.id) ∧ w'.cell? ⟨g, 1, none⟩ = some (.int .i64 x.rcd) ∧ w'.cell? ⟨g, 2, none⟩ = some (.int .i64 x.ven) ∧ w'.cell? ⟨g, 3, none⟩ = some (.int .i64 x.cop) ∧ w'.cell? ⟨g, 4, none⟩ = some (.int .i64 x.pri) ∧ w'.cell? ⟨g, 5, none⟩ = some (.int .i64 x.rcv) ∧ w'.cell? ⟨g, 6, none⟩ = some (.int .i64 x.bil) ∧ w'.cell? ⟨g, 7, none⟩ = some (.int .i64 x.paid) ∧ w'.cell? ⟨g, 8, none⟩ = some (.int .i64 x.st) ∧ w'.cell? ⟨g, 9, none⟩ = some (.slice x.shA x.shn x.shc)) :=
  have h' := h.below hb (by omega)
  ⟨h', h'.cell 0, h'.cell 1, h'.cell 2, h'.cell 3, h'.cell 4, h'.cell 5, h'.cell 6, h'.cell 7, h'.cell 8, h'.cell 9⟩
theorem below_od {B : Nat} {a w : World} (h : Below B a w) {b : Nat} (hb : B ≤ b) (u0 u1 u2 u3 u4 u5 u6 u7 u8 u9 : Value) :
    Below B a ((((((((((w.setCell ⟨b, 0, none⟩ u0).setCell ⟨b, 1, none⟩ u1).setCell ⟨b, 2, none⟩ u2).setCell ⟨b, 3, none⟩ u3).setCell ⟨b, 4, none⟩ u4).setCell ⟨b, 5, none⟩ u5).setCell ⟨b, 6, none⟩ u6).setCell ⟨b, 7, none⟩ u7).setCell ⟨b, 8, none⟩ u8).setCell ⟨b, 9, none⟩ u9) :=
  (((((((((h.setCell hb u0).setCell hb u1).setCell hb u2).setCell hb u3).setCell hb u4).setCell hb u5).setCell hb u6).setCell hb u7).setCell hb u8).setCell hb u9

theorem od_struct : Try.prog.underlying 37 = some (.struct (Try.prog.fieldsOf 37)) := by kernel_rfl

/-- slices.IndexFunc: whatever predicate that lays only blocks of its own. -/
theorem od_indexFunc (g : Nat) (lb : Array Value) (p : Od → Bool) (eg : ∀ args w, (callFunc g args).run Try.prog w = .ok (.enter g args) w)
    (A : Option Addr) (n c : Nat) (xs : List Od) (w : World) (hs : Ods w w.heap.size A n c xs)
    (hp : ∀ W x, x ∈ xs → Below w.heap.size w W → Calls Try.prog g (#[odV x] ++ lb) W fun e w' => e = .returned (.bool (p x)) ∧ Below W.heap.size W w') :
    Calls Try.prog 44 #[.slice A n c, .func (.func g) #[] lb] w fun e w' => e = .returned (.int .i64 (ix p xs)) ∧ Below w.heap.size w w' := by
  have hle := hs.le
  have hbig := hs.big
  have HP := hide hp
  clear hp
  go_enter Try.func44, Try.ntmps44
  go_wp2
  go_loopw [5, 8] (fun _ s8 wr => ∃ k : Nat, k ≤ n ∧ s8 = .int .i64 k ∧ Below w.heap.size w wr ∧ ix p xs = idxP p (xs.drop k) k) (fun _ s8 _ => n - (intOf s8).toNat)
  case atStart => exact ⟨0, Nat.zero_le _, rfl, Below.refl _ _, rfl⟩
  case round =>
    obtain ⟨k, hk, rfl, hb, ha⟩ := hrel
    have HA := hide ha
    have HB := hide hb
    clear ha hb
    by_cases hlt : k < n
    · obtain ⟨b, off, x, rfl, hbB, hx, c0, c1, c2, c3, c4, c5, c6, c7, c8, c9⟩ := Ods_at (hs.below HB.out) hlt
      have HX := hide (idxP_step (p := p) hx)
      have hcall := HP.out wr x (List.mem_of_getElem? hx) HB.out
      have HS := hide hs
      clear hx hs
      unfold odV at hcall
      generalize hq : p x = q at hcall
      have HQ := hide hq
      clear hq
      cases q with
      | true =>
        go_wp2_with (go_at_fn g; refine hcall.mono ?_; rintro e w' ⟨rfl, hb'⟩)
        go_ret
        exact ⟨ret_int (by rw [HA.out, HX.out, if_pos HQ.out]), HB.out.trans (hb'.mono HB.out.size)⟩
      | false =>
        go_wp2_with (go_at_fn g; refine hcall.mono ?_; rintro e w' ⟨rfl, hb'⟩)
        go_roundw
        case rel => exact ⟨k + 1, by omega, by go_num, HB.out.trans (hb'.mono HB.out.size), by rw [HA.out, HX.out, if_neg (by rw [HQ.out]; decide)]⟩
        case measure => simp [intOf]; omega
    · go_wp2
      go_ret
      exact ⟨ret_int (by rw [HA.out, idxP_end (by have := hs.len; omega)]), HB.out⟩

theorem od_info : (Try.prog.info? 37).map (fun i => (i.zero, i.size, i.bytes)) = some (some (.agg #[.int .i64 0, .int .i64 0, .int .i64 0, .int .i64 0, .int .i64 0, .int .i64 0, .int .i64 0, .int .i64 0, .int .i64 0, .slice none 0 0]), 10, 96) := by kernel_rfl
/-- A new row that reads as xs (nil where there is none). -/
abbrev Odo (w : World) (B : Nat) (v : Value) (xs : List Od) : Prop := w.ownsRow B 37 10 v xs.length (xs.flatMap odE)
theorem Odo_sl {w : World} {B : Nat} {v : Value} {xs : List Od} (h : Odo w B v xs) (hn : xs.length ≤ 140737488355328) : ∃ A c, v = .slice A xs.length c ∧ Ods w w.heap.size A xs.length c xs := by
  have h' := h
  rcases h.2 with ⟨rfl, h0⟩ | ⟨g, cap, _, rfl, _⟩
  · refine ⟨none, 0, by rw [h0], ?_⟩
    unfold Odo at h'
    rw [h0] at h' ⊢
    exact Sl.of_own odE_len h' h0 (by omega)
  · exact ⟨_, cap, rfl, Sl.of_own odE_len h' rfl hn⟩
theorem od_clone (A : Option Addr) (n c : Nat) (xs : List Od) (w : World) (hs : Ods w w.heap.size A n c xs) (hn : n ≤ 1000) :
    Calls Try.prog 43 #[.slice A n c] w fun e w' => ∃ v, e = .returned v ∧ Odo w' w.heap.size v xs ∧ Below w.heap.size w w' := by
  obtain ⟨i0, hi, hz0, hz1, hz2⟩ := info_parts od_info
  have HS := hide hs
  have hnl := hs.nl
  clear hs
  cases A with
  | none =>
    have hx : xs = [] := by
      have h1 := HS.out.len; have h2 := HS.out.nl rfl; have h3 := HS.out.le
      exact List.eq_nil_of_length_eq_zero (by omega)
    subst hx
    clear hnl
    have q22 : ∀ (w : World) (a : Option Addr) (n c n' c' : Nat), (binOp .eql 22 (.slice a n c) (.slice none n' c')).run Try.prog w = .ok (.bool a.isNone) w := fun w a n c n' c' => Lib.run_eql_slice_nil w _ _ a n c n' c' Try.underlying22
    go_enter Try.func43, Try.ntmps43
    go_wp2
    go_ret
    exact ⟨_, rfl, World.ownsRow_nil _ _ _ _, Below.refl _ _⟩
  | some ad =>
    clear hnl
    have q22 : ∀ (w : World) (a : Option Addr) (n c n' c' : Nat), (binOp .eql 22 (.slice a n c) (.slice none n' c')).run Try.prog w = .ok (.bool a.isNone) w := fun w a n c n' c' => Lib.run_eql_slice_nil w _ _ a n c n' c' Try.underlying22
    go_enter Try.func43, Try.ntmps43
    go_wp2_with (at_builtin; go_must (refine wpList_append_sl _ rfl _ _ 22 rfl w.heap.size 37 i0 _ 96 Try.underlying22 hi hz0 hz1 hz2 rfl (by decide) odE_len odE_one _ 0 [] rfl (World.ownsRow_made w #[] 0 (Nat.le_refl _) (Nat.zero_le _) rfl) (some ad) n c rfl (HS.out.alloc (Nat.le_refl _) _) (by unfold maxLen; omega) (by omega) (by simp) ?_))
    intro v' w1 hown hg hat
    go_wp2
    go_ret
    refine ⟨v', rfl, ?_, ((Below.refl _ w).alloc (Nat.le_refl _) _).grown hg (by simp) (by intro k hk; simp [Value.ownBlock] at hk; omega)⟩
    have hl := HS.out.len
    subst hl
    simpa using hown
end Go.Proofs.Ytdbanekjjibpbaa
