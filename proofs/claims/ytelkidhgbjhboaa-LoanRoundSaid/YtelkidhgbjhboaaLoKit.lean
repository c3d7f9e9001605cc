/- library/api.Loan as plain data; a slice of them; '=='; IndexFunc; Clone. Printed by gen_kit.py. -/
import Derived.Test.YtelkidhgbjhboaaRow
import Derived.Test.YtelkidhgbjhboaaIdx
import Derived.Test.YtelkidhgbjhboaaProg
import Derived.Shelf.Abstract
namespace Go.Proofs.Ytelkidhgbjhboaa
open Go.RowKit

structure Lo where
  item : Int
  patron : Int
  out : Int
  due : Int
  ren : Int
  rcl : Bool
  deriving DecidableEq

def loE (x : Lo) : List Value := [.int .i64 x.item, .int .i64 x.patron, .int .i64 x.out, .int .i64 x.due, .int .i64 x.ren, .bool x.rcl]
def loV (x : Lo) : Value := .agg #[.int .i64 x.item, .int .i64 x.patron, .int .i64 x.out, .int .i64 x.due, .int .i64 x.ren, .bool x.rcl]
abbrev loC (x : Lo) : Array Value := #[.int .i64 x.item, .int .i64 x.patron, .int .i64 x.out, .int .i64 x.due, .int .i64 x.ren, .bool x.rcl]
def lo0 : Lo := ⟨0, 0, 0, 0, 0, false⟩
theorem loE_len (x : Lo) : (loE x).length = 6 := rfl
theorem loE_one (x : Lo) : ∀ u ∈ loE x, u.oneCell' = true := by
  intro u hu; simp only [loE, List.mem_cons, List.not_mem_nil, or_false] at hu
  rcases hu with rfl | rfl | rfl | rfl | rfl | rfl <;> rfl
structure LoW (x : Lo) : Prop where
  item : I64 x.item
  patron : I64 x.patron
  out : I64 x.out
  due : I64 x.due
  ren : I64 x.ren
abbrev Los (w : World) (B : Nat) (A : Option Addr) (n c : Nat) (xs : List Lo) : Prop := Sl loE 6 w B A n c xs
theorem lo_cells {w : World} {b o : Nat} {x : Lo} (h : ∀ j u, (loE x)[j]? = some u → w.cell? ⟨b, o + j, none⟩ = some u) :
    w.cell? ⟨b, o, none⟩ = some (.int .i64 x.item) ∧ w.cell? ⟨b, o + 1, none⟩ = some (.int .i64 x.patron) ∧ w.cell? ⟨b, o + 2, none⟩ = some (.int .i64 x.out) ∧ w.cell? ⟨b, o + 3, none⟩ = some (.int .i64 x.due) ∧ w.cell? ⟨b, o + 4, none⟩ = some (.int .i64 x.ren) ∧ w.cell? ⟨b, o + 5, none⟩ = some (.bool x.rcl) :=
  ⟨h 0 _ rfl, h 1 _ rfl, h 2 _ rfl, h 3 _ rfl, h 4 _ rfl, h 5 _ rfl⟩
theorem Los_at {w : World} {B : Nat} {A : Option Addr} {n c : Nat} {xs : List Lo} (h : Los w B A n c xs) {k : Nat} (hk : k < n) :
    ∃ b off x, A = some ⟨b, off, none⟩ ∧ b < B ∧ xs[k]? = some x ∧
     w.cell? ⟨b, off + k * 6, none⟩ = some (.int .i64 x.item) ∧ w.cell? ⟨b, off + k * 6 + 1, none⟩ = some (.int .i64 x.patron) ∧ w.cell? ⟨b, off + k * 6 + 2, none⟩ = some (.int .i64 x.out) ∧ w.cell? ⟨b, off + k * 6 + 3, none⟩ = some (.int .i64 x.due) ∧ w.cell? ⟨b, off + k * 6 + 4, none⟩ = some (.int .i64 x.ren) ∧ w.cell? ⟨b, off + k * 6 + 5, none⟩ = some (.bool x.rcl) := by
  obtain ⟨b, off, x, hA, hb, hx, hc⟩ := h.at_ hk
  exact ⟨b, off, x, hA, hb, hx, lo_cells hc⟩
theorem lo_box {w w' : World} {g : Nat} {x : Lo} (h : Box w g 28 (loC x)) (hb : Below (g + 1) w w') : Box w' g 28 (loC x) ∧
    (w'.cell? ⟨g, 0, none⟩ = some (.int .i64 x.item) ∧ w'.cell? ⟨g, 1, none⟩ = some (.int .i64 x.patron) ∧ w'.cell? ⟨g, 2, none⟩ = some (.int .i64 x.out) ∧ w'.cell? ⟨g, 3, none⟩ = some (.int .i64 x.due) ∧ w'.cell? ⟨g, 4, none⟩ = some (.int .i64 x.ren) ∧ w'.cell? ⟨g, 5, none⟩ = some (.bool x.rcl)) :=
  have h' := h.below hb (by omega)
  ⟨h', h'.cell 0, h'.cell 1, h'.cell 2, h'.cell 3, h'.cell 4, h'.cell 5⟩
theorem below_lo {B : Nat} {a w : World} (h : Below B a w) {b : Nat} (hb : B ≤ b) (u0 u1 u2 u3 u4 u5 : Value) :
    Below B a ((((((w.setCell ⟨b, 0, none⟩ u0).setCell ⟨b, 1, none⟩ u1).setCell ⟨b, 2, none⟩ u2).setCell ⟨b, 3, none⟩ u3).setCell ⟨b, 4, none⟩ u4).setCell ⟨b, 5, none⟩ u5) :=
  (((((h.setCell hb u0).setCell hb u1).setCell hb u2).setCell hb u3).setCell hb u4).setCell hb u5

theorem lo_struct : Try.prog.underlying 28 = some (.struct (Try.prog.fieldsOf 28)) := by kernel_rfl
theorem lo_stood : Try.prog.stoodInHeld 28 = false := by kernel_rfl
theorem lo_guard : Try.prog.eqGuardType Try.prog.depth 28 = false := by kernel_rfl
theorem lo_eq (x y : Lo) (w : World) : (Op.equalIn 10000 28 (loV x) (loV y)).run Try.prog w = .ok (decide (x = y)) w := by
  obtain ⟨a0, a1, a2, a3, a4, a5⟩ := x
  obtain ⟨b0, b1, b2, b3, b4, b5⟩ := y
  have u3 := Try.underlying3
  have u4 := Try.underlying4
  simp only [loV]
  rw [show (10000 : Nat) = 9999 + 1 from rfl, run_equalIn_agg w 9999 28 _ _ lo_struct lo_stood]
  simp only [Program.fieldsOf, Try.underlying28]
  go_simp
  by_cases h0 : a0 = b0
  case neg => simp [h0]
  by_cases h1 : a1 = b1
  case neg => simp [h0, h1]
  by_cases h2 : a2 = b2
  case neg => simp [h0, h1, h2]
  by_cases h3 : a3 = b3
  case neg => simp [h0, h1, h2, h3]
  by_cases h4 : a4 = b4
  case neg => simp [h0, h1, h2, h3, h4]
  by_cases h5 : a5 = b5
  case neg => simp [h0, h1, h2, h3, h4, h5]
  subst h0 h1 h2 h3 h4 h5
  simp
theorem lo_neq (x y : Lo) (w : World) : (binOp .neq 28 (loV x) (loV y)).run Try.prog w = .ok (.bool (!decide (x = y))) w := by
  have h := lo_eq x y w
  unfold loV at h ⊢
  rw [run_neq_struct, h]; rfl
theorem lo_eql (x y : Lo) (w : World) : (binOp .eql 28 (loV x) (loV y)).run Try.prog w = .ok (.bool (decide (x = y))) w := by
  have h := lo_eq x y w
  unfold loV at h ⊢
  rw [run_eql_struct, h]; rfl

/-- slices.IndexFunc: whatever predicate that lays only blocks of its own. -/
theorem lo_indexFunc (g : Nat) (lb : Array Value) (p : Lo → Bool) (eg : ∀ args w, (callFunc g args).run Try.prog w = .ok (.enter g args) w)
    (A : Option Addr) (n c : Nat) (xs : List Lo) (w : World) (hs : Los w w.heap.size A n c xs)
    (hp : ∀ W x, x ∈ xs → Below w.heap.size w W → Calls Try.prog g (#[loV x] ++ lb) W fun e w' => e = .returned (.bool (p x)) ∧ Below W.heap.size W w') :
    Calls Try.prog 43 #[.slice A n c, .func (.func g) #[] lb] w fun e w' => e = .returned (.int .i64 (ix p xs)) ∧ Below w.heap.size w w' := by
  have hle := hs.le
  have hbig := hs.big
  have HP := hide hp
  clear hp
  go_enter Try.func43, Try.ntmps43
  go_wp2
  go_loopw [5, 8] (fun _ s8 wr => ∃ k : Nat, k ≤ n ∧ s8 = .int .i64 k ∧ Below w.heap.size w wr ∧ ix p xs = idxP p (xs.drop k) k) (fun _ s8 _ => n - (intOf s8).toNat)
  case atStart => exact ⟨0, Nat.zero_le _, rfl, Below.refl _ _, rfl⟩
  case round =>
    obtain ⟨k, hk, rfl, hb, ha⟩ := hrel
    have HA := hide ha
    have HB := hide hb
    clear ha hb
    by_cases hlt : k < n
    · obtain ⟨b, off, x, rfl, hbB, hx, c0, c1, c2, c3, c4, c5⟩ := Los_at (hs.below HB.out) hlt
      have HX := hide (idxP_step (p := p) hx)
      have hcall := HP.out wr x (List.mem_of_getElem? hx) HB.out
      have HS := hide hs
      clear hx hs
      unfold loV at hcall
      generalize hq : p x = q at hcall
      have HQ := hide hq
      clear hq
      cases q with
      | true =>
        go_wp2_with (go_at_fn g; refine hcall.mono ?_; rintro e w' ⟨rfl, hb'⟩)
        go_ret
        exact ⟨ret_int (by rw [HA.out, HX.out, if_pos HQ.out]), HB.out.trans (hb'.mono HB.out.size)⟩
      | false =>
        go_wp2_with (go_at_fn g; refine hcall.mono ?_; rintro e w' ⟨rfl, hb'⟩)
        go_roundw
        case rel => exact ⟨k + 1, by omega, by go_num, HB.out.trans (hb'.mono HB.out.size), by rw [HA.out, HX.out, if_neg (by rw [HQ.out]; decide)]⟩
        case measure => simp [intOf]; omega
    · go_wp2
      go_ret
      exact ⟨ret_int (by rw [HA.out, idxP_end (by have := hs.len; omega)]), HB.out⟩

theorem lo_info : (Try.prog.info? 28).map (fun i => (i.zero, i.size, i.bytes)) = some (some (.agg #[.int .i64 0, .int .i64 0, .int .i64 0, .int .i64 0, .int .i64 0, .bool false]), 6, 48) := by kernel_rfl
/-- A new row that reads as xs (nil where there is none). -/
abbrev Loo (w : World) (B : Nat) (v : Value) (xs : List Lo) : Prop := w.ownsRow B 28 6 v xs.length (xs.flatMap loE)
theorem Loo_sl {w : World} {B : Nat} {v : Value} {xs : List Lo} (h : Loo w B v xs) (hn : xs.length ≤ 140737488355328) : ∃ A c, v = .slice A xs.length c ∧ Los w w.heap.size A xs.length c xs := by
  have h' := h
  rcases h.2 with ⟨rfl, h0⟩ | ⟨g, cap, _, rfl, _⟩
  · refine ⟨none, 0, by rw [h0], ?_⟩
    unfold Loo at h'
    rw [h0] at h' ⊢
    exact Sl.of_own loE_len h' h0 (by omega)
  · exact ⟨_, cap, rfl, Sl.of_own loE_len h' rfl hn⟩
theorem lo_clone (A : Option Addr) (n c : Nat) (xs : List Lo) (w : World) (hs : Los w w.heap.size A n c xs) (hn : n ≤ 1000) :
    Calls Try.prog 38 #[.slice A n c] w fun e w' => ∃ v, e = .returned v ∧ Loo w' w.heap.size v xs ∧ Below w.heap.size w w' := by
  obtain ⟨i0, hi, hz0, hz1, hz2⟩ := info_parts lo_info
  have HS := hide hs
  have hnl := hs.nl
  clear hs
  cases A with
  | none =>
    have hx : xs = [] := by
      have h1 := HS.out.len; have h2 := HS.out.nl rfl; have h3 := HS.out.le
      exact List.eq_nil_of_length_eq_zero (by omega)
    subst hx
    clear hnl
    have q22 : ∀ (w : World) (a : Option Addr) (n c n' c' : Nat), (binOp .eql 22 (.slice a n c) (.slice none n' c')).run Try.prog w = .ok (.bool a.isNone) w := fun w a n c n' c' => Lib.run_eql_slice_nil w _ _ a n c n' c' Try.underlying22
    go_enter Try.func38, Try.ntmps38
    go_wp2
    go_ret
    exact ⟨_, rfl, World.ownsRow_nil _ _ _ _, Below.refl _ _⟩
  | some ad =>
    clear hnl
    have q22 : ∀ (w : World) (a : Option Addr) (n c n' c' : Nat), (binOp .eql 22 (.slice a n c) (.slice none n' c')).run Try.prog w = .ok (.bool a.isNone) w := fun w a n c n' c' => Lib.run_eql_slice_nil w _ _ a n c n' c' Try.underlying22
    go_enter Try.func38, Try.ntmps38
    go_wp2_with (at_builtin; go_must (refine wpList_append_sl _ rfl _ _ 22 rfl w.heap.size 28 i0 _ 48 Try.underlying22 hi hz0 hz1 hz2 rfl (by decide) loE_len loE_one _ 0 [] rfl (World.ownsRow_made w #[] 0 (Nat.le_refl _) (Nat.zero_le _) rfl) (some ad) n c rfl (HS.out.alloc (Nat.le_refl _) _) (by unfold maxLen; omega) (by omega) (by simp) ?_))
    intro v' w1 hown hg hat
    go_wp2
    go_ret
    refine ⟨v', rfl, ?_, ((Below.refl _ w).alloc (Nat.le_refl _) _).grown hg (by simp) (by intro k hk; simp [Value.ownBlock] at hk; omega)⟩
    have hl := HS.out.len
    subst hl
    simpa using hown
end Go.Proofs.Ytelkidhgbjhboaa
