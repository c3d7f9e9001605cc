/- library/api.Hold as plain data; a slice of them; '=='; IndexFunc; Clone. Printed by gen_kit.py. -/
import Derived.Test.YtgjhjabnnhhkbaaRow
import Derived.Test.YtgjhjabnnhhkbaaIdx
import Derived.Test.YtgjhjabnnhhkbaaProg
import Derived.Shelf.Abstract
namespace Go.Proofs.Ytgjhjabnnhhkbaa
open Go.RowKit

structure Ho where
  id : Int
  pat : Int
  rcd : Int
  itm : Int
  pk : Int
  plc : Int
  st : Int
  got : Int
  unt : Int
  slp : Int
  rnk : Int
  deriving DecidableEq

def hoE (x : Ho) : List Value := [.int .i64 x.id, .int .i64 x.pat, .int .i64 x.rcd, .int .i64 x.itm, .int .i64 x.pk, .int .i64 x.plc, .int .i64 x.st, .int .i64 x.got, .int .i64 x.unt, .int .i64 x.slp, .int .i64 x.rnk]
def hoV (x : Ho) : Value := .agg #[.int .i64 x.id, .int .i64 x.pat, .int .i64 x.rcd, .int .i64 x.itm, .int .i64 x.pk, .int .i64 x.plc, .int .i64 x.st, .int .i64 x.got, .int .i64 x.unt, .int .i64 x.slp, .int .i64 x.rnk]
abbrev hoC (x : Ho) : Array Value := #[.int .i64 x.id, .int .i64 x.pat, .int .i64 x.rcd, .int .i64 x.itm, .int .i64 x.pk, .int .i64 x.plc, .int .i64 x.st, .int .i64 x.got, .int .i64 x.unt, .int .i64 x.slp, .int .i64 x.rnk]
def ho0 : Ho := ⟨0, 0, 0, 0, 0, 0, 0, 0, 0, 0, 0⟩
theorem hoE_len (x : Ho) : (hoE x).length = 11 := rfl
theorem hoE_one (x : Ho) : ∀ u ∈ hoE x, u.oneCell' = true := by
  intro u hu; simp only [hoE, List.mem_cons, List.not_mem_nil, or_false] at hu
  rcases hu with rfl | rfl | rfl | rfl | rfl | rfl | rfl | rfl | rfl | rfl | rfl <;> rfl
structure HoW (x : Ho) : Prop where
  id : I64 x.id
  pat : I64 x.pat
  rcd : I64 x.rcd
  itm : I64 x.itm
  pk : I64 x.pk
  plc : I64 x.plc
  st : I64 x.st
  got : I64 x.got
  unt : I64 x.unt
  slp : I64 x.slp
  rnk : I64 x.rnk
abbrev Hos (w : World) (B : Nat) (A : Option Addr) (n c : Nat) (xs : List Ho) : Prop := Sl hoE 11 w B A n c xs
theorem ho_cells {w : World} {b o : Nat} {x : Ho} (h : ∀ j u, (hoE x)[j]? = some u → w.cell? ⟨b, o + j, none⟩ = some u) :
    w.cell? ⟨b, o, none⟩ = some (.int .i64 x.id) ∧ w.cell? ⟨b, o + 1, none⟩ = some (.int .i64 x.pat) ∧ w.cell? ⟨b, o + 2, none⟩ = some (.int .i64 x.rcd) ∧ w.cell? ⟨b, o + 3, none⟩ = some (.int .i64 x.itm) ∧ w.cell? ⟨b, o + 4, none⟩ = some (.int .i64 x.pk) ∧ w.cell? ⟨b, o + 5, none⟩ = some (.int .i64 x.plc) ∧ w.cell? ⟨b, o + 6, none⟩ = some (.int .i64 x.st) ∧ w.cell? ⟨b, o + 7, none⟩ = some (.int .i64 x.got) ∧ w.cell? ⟨b, o + 8, none⟩ = some (.int .i64 x.unt) ∧ w.cell? ⟨b, o + 9, none⟩ = some (.int .i64 x.slp) ∧ w.cell? ⟨b, o + 10, none⟩ = some (.int .i64 x.rnk) :=
  ⟨h 0 _ rfl, h 1 _ rfl, h 2 _ rfl, h 3 _ rfl, h 4 _ rfl, h 5 _ rfl, h 6 _ rfl, h 7 _ rfl, h 8 _ rfl, h 9 _ rfl, h 10 _ rfl⟩
theorem Hos_at {w : World} {B : Nat} {A : Option Addr} {n c : Nat} {xs : List Ho} (h : Hos w B A n c xs) {k : Nat} (hk : k < n) :
    ∃ b off x, A = some ⟨b, off, none⟩ ∧ b < B ∧ xs[k]? = some x ∧
     w.cell? ⟨b, off + k * 11, none⟩ = some (.int .i64 x.id) ∧ w.cell? ⟨b, off + k * 11 + 1, none⟩ = some (.int .i64 x.pat) ∧ w.cell? ⟨b, off + k * 11 + 2, none⟩ = some (.int .i64 x.rcd) ∧ w.cell? ⟨b, off + k * 11 + 3, none⟩ = some (.int .i64 x.itm) ∧ w.cell? ⟨b, off + k * 11 + 4, none⟩ = some (.int .i64 x.pk) ∧ w.cell? ⟨b, off + k * 11 + 5, none⟩ = some (.int .i64 x.plc) ∧ w.cell? ⟨b, off + k * 11 + 6, none⟩ = some (.int .i64 x.st) ∧ w.cell? ⟨b, off + k * 11 + 7, none⟩ = some (.int .i64 x.got) ∧ w.cell? ⟨b, off + k * 11 + 8, none⟩ = some (.int .i64 x.unt) ∧ w.cell? ⟨b, off + k * 11 + 9, none⟩ = some (.int .i64 x.slp) ∧ w.cell? ⟨b, off + k * 11 + 10, none⟩ = some (.int .i64 x.rnk) := by
  obtain ⟨b, off, x, hA, hb, hx, hc⟩ := h.at_ hk
  exact ⟨b, off, x, hA, hb, hx, ho_cells hc⟩
theorem ho_box {w w' : World} {g : Nat} {x : Ho} (h : Box w g 47 (hoC x)) (hb : Below (g + 1) w w') : Box w' g 47 (hoC x) ∧
    (w'.cell? ⟨g, 0, none⟩ = some (.int .i64 x.id) ∧ w'.cell? ⟨g, 1, none⟩ = some (.int .i64 x.pat) ∧ w'.cell? ⟨g, 2, none⟩ = some (.int .i64 x.rcd) ∧ w'.cell? ⟨g, 3, none⟩ = some (.int .i64 x.itm) ∧ w'.cell? ⟨g, 4, none⟩ = some (.int .i64 x.pk) ∧ w'.cell? ⟨g, 5, none⟩ = some (.int .i64 x.plc) ∧ w'.cell? ⟨g, 6, none⟩ = some (.int .i64 x.st) ∧ w'.cell? ⟨g, 7, none⟩ = some (.int .i64 x.got) ∧ w'.cell? ⟨g, 8, none⟩ = some (.int .i64 x.unt) ∧ w'.cell? ⟨g, 9, none⟩ = some (.int .i64 x.slp) ∧ w'.cell? ⟨g, 10, none⟩ = some (.int .i64 x.rnk)) :=
  have h' := h.below hb (by omega)
  ⟨h', h'.cell 0, h'.cell 1, h'.cell 2, h'.cell 3, h'.cell 4, h'.cell 5, h'.cell 6, h'.cell 7, h'.cell 8, h'.cell 9, h'.cell 10⟩
theorem below_ho {B : Nat} {a w : World} (h : Below B a w) {b : Nat} (hb : B ≤ b) (u0 u1 u2 u3 u4 u5 u6 u7 u8 u9 u10 : Value) :
    Below B a (((((((((((w.setCell ⟨b, 0, none⟩ u0).setCell ⟨b, 1, none⟩ u1).setCell ⟨b, 2, none⟩ u2).setCell ⟨b, 3, none⟩ u3).setCell ⟨b, 4, none⟩ u4).setCell ⟨b, 5, none⟩ u5).setCell ⟨b, 6, none⟩ u6).setCell ⟨b, 7, none⟩ u7).setCell ⟨b, 8, none⟩ u8).setCell ⟨b, 9, none⟩ u9).setCell ⟨b, 10, none⟩ u10) :=
  ((((((((((h.setCell hb u0).setCell hb u1).setCell hb u2).setCell hb u3).setCell hb u4).setCell hb u5).setCell hb u6).setCell hb u7).setCell hb u8).setCell hb u9).setCell hb u10

theorem ho_struct : Try.prog.underlying 47 = some (.struct (Try.prog.fieldsOf 47)) := by kernel_rfl
theorem ho_stood : Try.prog.stoodInHeld 47 = false := by kernel_rfl
theorem ho_guard : Try.prog.eqGuardType Try.prog.depth 47 = false := by kernel_rfl
theorem ho_eq (x y : Ho) (w : World) : (Op.equalIn 10000 47 (hoV x) (hoV y)).run Try.prog w = .ok (decide (x = y)) w := by
  obtain ⟨a0, a1, a2, a3, a4, a5, a6, a7, a8, a9, a10⟩ := x
  obtain ⟨b0, b1, b2, b3, b4, b5, b6, b7, b8, b9, b10⟩ := y
  have u3 := Try.underlying3
  have u4 := Try.underlying4
  simp only [hoV]
  rw [show (10000 : Nat) = 9999 + 1 from rfl, run_equalIn_agg w 9999 47 _ _ ho_struct ho_stood]
  simp only [Program.fieldsOf, Try.underlying47]
  go_simp
  by_cases h0 : a0 = b0
  case neg => simp [h0]
  by_cases h1 : a1 = b1
  case neg => simp [h0, h1]
  by_cases h2 : a2 = b2
  case neg => simp [h0, h1, h2]
  by_cases h3 : a3 = b3
  case neg => simp [h0, h1, h2, h3]
  by_cases h4 : a4 = b4
  case neg => simp [h0, h1, h2, h3, h4]
  by_cases h5 : a5 = b5
  case neg => simp [h0, h1, h2, h3, h4, h5]
  by_cases h6 : a6 = b6
  case neg => simp [h0, h1, h2, h3, h4, h5, h6]
  by_cases h7 : a7 = b7
  case neg => simp [h0, h1, h2, h3, h4, h5, h6, h7]
  by_cases h8 : a8 = b8
  case neg => simp [h0, h1, h2, h3, h4, h5, h6, h7, h8]
  by_cases h9 : a9 = b9
  case neg => simp [h0, h1, h2, h3, h4, h5, h6, h7, h8, h9]
  by_cases h10 : a10 = b10
  case neg => simp [h0, h1, h2, h3, h4, h5, h6, h7, h8, h9, h10]
  subst h0 h1 h2 h3 h4 h5 h6 h7 h8 h9 h10
  simp
theorem ho_neq (x y : Ho) (w : World) : (binOp .neq 47 (hoV x) (hoV y)).run Try.prog w = .ok (.bool (!decide (x = y))) w := by
  have h := ho_eq x y w
  unfold hoV at h ⊢
  rw [run_neq_struct, h]; rfl
theorem ho_eql (x y : Ho) (w : World) : (binOp .eql 47 (hoV x) (hoV y)).run Try.prog w = .ok (.bool (decide (x = y))) w := by
  have h := ho_eq x y w
  unfold hoV at h ⊢
  rw [run_eql_struct, h]; rfl


/-- slices.IndexFunc: whatever predicate that lays only blocks of its own. -/
theorem ho_indexFunc (g : Nat) (lb : Array Value) (p : Ho → Bool) (eg : ∀ args w, (callFunc g args).run Try.prog w = .ok (.enter g args) w)
    (A : Option Addr) (n c : Nat) (xs : List Ho) (w : World) (hs : Hos w w.heap.size A n c xs)
    (hp : ∀ W x, x ∈ xs → Below w.heap.size w W → Calls Try.prog g (#[hoV x] ++ lb) W fun e w' => e = .returned (.bool (p x)) ∧ Below W.heap.size W w') :
    Calls Try.prog 53 #[.slice A n c, .func (.func g) #[] lb] w fun e w' => e = .returned (.int .i64 (ix p xs)) ∧ Below w.heap.size w w' := by
  have hle := hs.le
  have hbig := hs.big
  have HP := hide hp
  clear hp
  go_enter Try.func53, Try.ntmps53
  go_wp2
  go_loopw [5, 8] (fun _ s8 wr => ∃ k : Nat, k ≤ n ∧ s8 = .int .i64 k ∧ Below w.heap.size w wr ∧ ix p xs = idxP p (xs.drop k) k) (fun _ s8 _ => n - (intOf s8).toNat)
  case atStart => exact ⟨0, Nat.zero_le _, rfl, Below.refl _ _, rfl⟩
  case round =>
    obtain ⟨k, hk, rfl, hb, ha⟩ := hrel
    have HA := hide ha
    have HB := hide hb
    clear ha hb
    by_cases hlt : k < n
    · obtain ⟨b, off, x, rfl, hbB, hx, c0, c1, c2, c3, c4, c5, c6, c7, c8, c9, c10⟩ := Hos_at (hs.below HB.out) hlt
      have HX := hide (idxP_step (p := p) hx)
      have hcall := HP.out wr x (List.mem_of_getElem? hx) HB.out
      have HS := hide hs
      clear hx hs
      unfold hoV at hcall
      generalize hq : p x = q at hcall
      have HQ := hide hq
      clear hq
      cases q with
      | true =>
        go_wp2_with (go_at_fn g; refine hcall.mono ?_; rintro e w' ⟨rfl, hb'⟩)
        go_ret
        exact ⟨ret_int (by rw [HA.out, HX.out, if_pos HQ.out]), HB.out.trans (hb'.mono HB.out.size)⟩
      | false =>
        go_wp2_with (go_at_fn g; refine hcall.mono ?_; rintro e w' ⟨rfl, hb'⟩)
        go_roundw
        case rel => exact ⟨k + 1, by omega, by go_num, HB.out.trans (hb'.mono HB.out.size), by rw [HA.out, HX.out, if_neg (by rw [HQ.out]; decide)]⟩
        case measure => simp [intOf]; omega
    · go_wp2
      go_ret
      exact ⟨ret_int (by rw [HA.out, idxP_end (by have := hs.len; omega)]), HB.out⟩
theorem ho_containsFunc (g : Nat) (lb : Array Value) (p : Ho → Bool) (eg : ∀ args w, (callFunc g args).run Try.prog w = .ok (.enter g args) w)
    (A : Option Addr) (n c : Nat) (xs : List Ho) (w : World) (hs : Hos w w.heap.size A n c xs)
    (hp : ∀ W x, x ∈ xs → Below w.heap.size w W → Calls Try.prog g (#[hoV x] ++ lb) W fun e w' => e = .returned (.bool (p x)) ∧ Below W.heap.size W w') :
    Calls Try.prog 47 #[.slice A n c, .func (.func g) #[] lb] w fun e w' => e = .returned (.bool (decide (0 ≤ ix p xs))) ∧ Below w.heap.size w w' := by
  have HP := hide hp
  have HS := hide hs
  clear hp hs
  go_enter Try.func47, Try.ntmps47
  go_wp2_with (go_at_call 53; refine (ho_indexFunc g lb p eg A n c xs _ HS.out HP.out).mono ?_; rintro e w' ⟨rfl, hb'⟩)
  go_ret
  exact ⟨rfl, hb'⟩

theorem ho_info : (Try.prog.info? 47).map (fun i => (i.zero, i.size, i.bytes)) = some (some (.agg #[.int .i64 0, .int .i64 0, .int .i64 0, .int .i64 0, .int .i64 0, .int .i64 0, .int .i64 0, .int .i64 0, .int .i64 0, .int .i64 0, .int .i64 0]), 11, 88) := by kernel_rfl
/-- A new row that reads as xs (nil where there is none). -/
abbrev Hoo (w : World) (B : Nat) (v : Value) (xs : List Ho) : Prop := w.ownsRow B 47 11 v xs.length (xs.flatMap hoE)
theorem Hoo_sl {w : World} {B : Nat} {v : Value} {xs : List Ho} (h : Hoo w B v xs) (hn : xs.length ≤ 140737488355328) : ∃ A c, v = .slice A xs.length c ∧ Hos w w.heap.size A xs.length c xs := by
  have h' := h
  rcases h.2 with ⟨rfl, h0⟩ | ⟨g, cap, _, rfl, _⟩
  · refine ⟨none, 0, by rw [h0], ?_⟩
    unfold Hoo at h'
    rw [h0] at h' ⊢
    exact Sl.of_own hoE_len h' h0 (by omega)
  · exact ⟨_, cap, rfl, Sl.of_own hoE_len h' rfl hn⟩
theorem ho_clone (A : Option Addr) (n c : Nat) (xs : List Ho) (w : World) (hs : Hos w w.heap.size A n c xs) (hn : n ≤ 1000) :
    Calls Try.prog 56 #[.slice A n c] w fun e w' => ∃ v, e = .returned v ∧ Hoo w' w.heap.size v xs ∧ Below w.heap.size w w' := by
  obtain ⟨i0, hi, hz0, hz1, hz2⟩ := info_parts ho_info
  have HS := hide hs
  have hnl := hs.nl
  clear hs
  cases A with
  | none =>
    have hx : xs = [] := by
      have h1 := HS.out.len; have h2 := HS.out.nl rfl; have h3 := HS.out.le
      exact List.eq_nil_of_length_eq_zero (by omega)
    subst hx
    clear hnl
    have q22 : ∀ (w : World) (a : Option Addr) (n c n' c' : Nat), (binOp .eql 22 (.slice a n c) (.slice none n' c')).run Try.prog w = .ok (.bool a.isNone) w := fun w a n c n' c' => Lib.run_eql_slice_nil w _ _ a n c n' c' Try.underlying22
    go_enter Try.func56, Try.ntmps56
    go_wp2
    go_ret
    exact ⟨_, rfl, World.ownsRow_nil _ _ _ _, Below.refl _ _⟩
  | some ad =>
    clear hnl
    have q22 : ∀ (w : World) (a : Option Addr) (n c n' c' : Nat), (binOp .eql 22 (.slice a n c) (.slice none n' c')).run Try.prog w = .ok (.bool a.isNone) w := fun w a n c n' c' => Lib.run_eql_slice_nil w _ _ a n c n' c' Try.underlying22
    go_enter Try.func56, Try.ntmps56
    go_wp2_with (at_builtin; go_must (refine wpList_append_sl _ rfl _ _ 22 rfl w.heap.size 47 i0 _ 88 Try.underlying22 hi hz0 hz1 hz2 rfl (by decide) hoE_len hoE_one _ 0 [] rfl (World.ownsRow_made w #[] 0 (Nat.le_refl _) (Nat.zero_le _) rfl) (some ad) n c rfl (HS.out.alloc (Nat.le_refl _) _) (by unfold maxLen; omega) (by omega) (by simp) ?_))
    intro v' w1 hown hg hat
    go_wp2
    go_ret
    refine ⟨v', rfl, ?_, ((Below.refl _ w).alloc (Nat.le_refl _) _).grown hg (by simp) (by intro k hk; simp [Value.ownBlock] at hk; omega)⟩
    have hl := HS.out.len
    subst hl
    simpa using hown
end Go.Proofs.Ytgjhjabnnhhkbaa
