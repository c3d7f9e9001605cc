/- library/api.Share as plain data; a slice of them; '=='; IndexFunc; Clone. Printed by gen_kit.py. -/
import Derived.Test.YtdbanekjjibpbaaRow
import Derived.Test.YtdbanekjjibpbaaIdx
import Derived.Test.YtdbanekjjibpbaaProg
import Derived.Shelf.Abstract
namespace Go.Proofs.Ytdbanekjjibpbaa
open Go.RowKit

structure Sh where
  fund : Int
  weight : Int
  deriving DecidableEq

def shE (x : Sh) : List Value := [.int .i64 x.fund, .int .i64 x.weight]
def shV (x : Sh) : Value := .agg #[.int .i64 x.fund, .int .i64 x.weight]
abbrev shC (x : Sh) : Array Value := #[.int .i64 x.fund, .int .i64 x.weight]
def sh0 : Sh := ⟨0, 0⟩
theorem shE_len (x : Sh) : (shE x).length = 2 := rfl
theorem shE_one (x : Sh) : ∀ u ∈ shE x, u.oneCell' = true := by
  intro u hu; simp only [shE, List.mem_cons, List.not_mem_nil, or_false] at hu
  rcases hu with rfl | rfl <;> rfl
structure ShW (x : Sh) : Prop where
  fund : I64 x.fund
  weight : I64 x.weight
abbrev Shs (w : World) (B : Nat) (A : Option Addr) (n c : Nat) (xs : List Sh) : Prop := Sl shE 2 w B A n c xs
theorem sh_cells {w : World} {b o : Nat} {x : Sh} (h : ∀ j u, (shE x)[j]? = some u → w.cell? ⟨b, o + j, none⟩ = some u) :
    w.cell? ⟨b, o, none⟩ = some (.int .i64 x.fund) ∧ w.cell? ⟨b, o + 1, none⟩ = some (.int .i64 x.weight) :=
  ⟨h 0 _ rfl, h 1 _ rfl⟩
theorem Shs_at {w : World} {B : Nat} {A : Option Addr} {n c : Nat} {xs : List Sh} (h : Shs w B A n c xs) {k : Nat} (hk : k < n) :
    ∃ b off x, A = some ⟨b, off, none⟩ ∧ b < B ∧ xs[k]? = some x ∧
     w.cell? ⟨b, off + k * 2, none⟩ = some (.int .i64 x.fund) ∧ w.cell? ⟨b, off + k * 2 + 1, none⟩ = some (.int .i64 x.weight) := by
  obtain ⟨b, off, x, hA, hb, hx, hc⟩ := h.at_ hk
  exact ⟨b, off, x, hA, hb, hx, sh_cells hc⟩
theorem sh_box {w w' : World} {g : Nat} {x : Sh} (h : Box w g 48 (shC x)) (hb : Below (g + 1) w w') : Box w' g 48 (shC x) ∧
    (w'.cell? ⟨g, 0, none⟩ = some (.int .i64 x.fund) ∧ w'.cell? ⟨g, 1, none⟩ = some (.int .i64 x.weight)) :=
  have h' := h.below hb (by omega)
  ⟨h', h'.cell 0, h'.cell 1⟩
theorem below_sh {B : Nat} {a w : World} (h : Below B a w) {b : Nat} (hb : B ≤ b) (u0 u1 : Value) :
    Below B a ((w.setCell ⟨b, 0, none⟩ u0).setCell ⟨b, 1, none⟩ u1) :=
  (h.setCell hb u0).setCell hb u1

theorem sh_struct : Try.prog.underlying 48 = some (.struct (Try.prog.fieldsOf 48)) := by kernel_rfl
theorem sh_stood : Try.prog.stoodInHeld 48 = false := by kernel_rfl
theorem sh_guard : Try.prog.eqGuardType Try.prog.depth 48 = false := by kernel_rfl
theorem sh_eq (x y : Sh) (w : World) : (Op.equalIn 10000 48 (shV x) (shV y)).run Try.prog w = .ok (decide (x = y)) w := by
  obtain ⟨a0, a1⟩ := x
  obtain ⟨b0, b1⟩ := y
  have u3 := Try.underlying3
  have u4 := Try.underlying4
  simp only [shV]
  rw [show (10000 : Nat) = 9999 + 1 from rfl, run_equalIn_agg w 9999 48 _ _ sh_struct sh_stood]
  simp only [Program.fieldsOf, Try.underlying48]
  go_simp
  by_cases h0 : a0 = b0
  case neg => simp [h0]
  by_cases h1 : a1 = b1
  case neg => simp [h0, h1]
  subst h0 h1
  simp
theorem sh_neq (x y : Sh) (w : World) : (binOp .neq 48 (shV x) (shV y)).run Try.prog w = .ok (.bool (!decide (x = y))) w := by
  have h := sh_eq x y w
  unfold shV at h ⊢
  rw [run_neq_struct, h]; rfl
theorem sh_eql (x y : Sh) (w : World) : (binOp .eql 48 (shV x) (shV y)).run Try.prog w = .ok (.bool (decide (x = y))) w := by
  have h := sh_eq x y w
  unfold shV at h ⊢
  rw [run_eql_struct, h]; rfl


/-- slices.IndexFunc: whatever predicate that lays only blocks of its own. -/
theorem sh_indexFunc (g : Nat) (lb : Array Value) (p : Sh → Bool) (eg : ∀ args w, (callFunc g args).run Try.prog w = .ok (.enter g args) w)
    (A : Option Addr) (n c : Nat) (xs : List Sh) (w : World) (hs : Shs w w.heap.size A n c xs)
    (hp : ∀ W x, x ∈ xs → Below w.heap.size w W → Calls Try.prog g (#[shV x] ++ lb) W fun e w' => e = .returned (.bool (p x)) ∧ Below W.heap.size W w') :
    Calls Try.prog 56 #[.slice A n c, .func (.func g) #[] lb] w fun e w' => e = .returned (.int .i64 (ix p xs)) ∧ Below w.heap.size w w' := by
  have hle := hs.le
  have hbig := hs.big
  have HP := hide hp
  clear hp
  go_enter Try.func56, Try.ntmps56
  go_wp2
  go_loopw [5, 8] (fun _ s8 wr => ∃ k : Nat, k ≤ n ∧ s8 = .int .i64 k ∧ Below w.heap.size w wr ∧ ix p xs = idxP p (xs.drop k) k) (fun _ s8 _ => n - (intOf s8).toNat)
  case atStart => exact ⟨0, Nat.zero_le _, rfl, Below.refl _ _, rfl⟩
  case round =>
    obtain ⟨k, hk, rfl, hb, ha⟩ := hrel
    have HA := hide ha
    have HB := hide hb
    clear ha hb
    by_cases hlt : k < n
    · obtain ⟨b, off, x, rfl, hbB, hx, c0, c1⟩ := Shs_at (hs.below HB.out) hlt
      have HX := hide (idxP_step (p := p) hx)
      have hcall := HP.out wr x (List.mem_of_getElem? hx) HB.out
      have HS := hide hs
      clear hx hs
      unfold shV at hcall
      generalize hq : p x = q at hcall
      have HQ := hide hq
      clear hq
      cases q with
      | true =>
        go_wp2_with (go_at_fn g; refine hcall.mono ?_; rintro e w' ⟨rfl, hb'⟩)
        go_ret
        exact ⟨ret_int (by rw [HA.out, HX.out, if_pos HQ.out]), HB.out.trans (hb'.mono HB.out.size)⟩
      | false =>
        go_wp2_with (go_at_fn g; refine hcall.mono ?_; rintro e w' ⟨rfl, hb'⟩)
        go_roundw
        case rel => exact ⟨k + 1, by omega, by go_num, HB.out.trans (hb'.mono HB.out.size), by rw [HA.out, HX.out, if_neg (by rw [HQ.out]; decide)]⟩
        case measure => simp [intOf]; omega
    · go_wp2
      go_ret
      exact ⟨ret_int (by rw [HA.out, idxP_end (by have := hs.len; omega)]), HB.out⟩
theorem sh_containsFunc (g : Nat) (lb : Array Value) (p : Sh → Bool) (eg : ∀ args w, (callFunc g args).run Try.prog w = .ok (.enter g args) w)
    (A : Option Addr) (n c : Nat) (xs : List Sh) (w : World) (hs : Shs w w.heap.size A n c xs)
    (hp : ∀ W x, x ∈ xs → Below w.heap.size w W → Calls Try.prog g (#[shV x] ++ lb) W fun e w' => e = .returned (.bool (p x)) ∧ Below W.heap.size W w') :
    Calls Try.prog 52 #[.slice A n c, .func (.func g) #[] lb] w fun e w' => e = .returned (.bool (decide (0 ≤ ix p xs))) ∧ Below w.heap.size w w' := by
  have HP := hide hp
  have HS := hide hs
  clear hp hs
  go_enter Try.func52, Try.ntmps52
  go_wp2_with (go_at_call 56; refine (sh_indexFunc g lb p eg A n c xs _ HS.out HP.out).mono ?_; rintro e w' ⟨rfl, hb'⟩)
  go_ret
  exact ⟨rfl, hb'⟩

theorem sh_info : (Try.prog.info? 48).map (fun i => (i.zero, i.size, i.bytes)) = some (some (.agg #[.int .i64 0, .int .i64 0]), 2, 16) := by kernel_rfl
/-- A new row that reads as xs (nil where there is none). -/
abbrev Sho (w : World) (B : Nat) (v : Value) (xs : List Sh) : Prop := w.ownsRow B 48 2 v xs.length (xs.flatMap shE)
theorem Sho_sl {w : World} {B : Nat} {v : Value} {xs : List Sh} (h : Sho w B v xs) (hn : xs.length ≤ 140737488355328) : ∃ A c, v = .slice A xs.length c ∧ Shs w w.heap.size A xs.length c xs := by
  have h' := h
  rcases h.2 with ⟨rfl, h0⟩ | ⟨g, cap, _, rfl, _⟩
  · refine ⟨none, 0, by rw [h0], ?_⟩
    unfold Sho at h'
    rw [h0] at h' ⊢
    exact Sl.of_own shE_len h' h0 (by omega)
  · exact ⟨_, cap, rfl, Sl.of_own shE_len h' rfl hn⟩
end Go.Proofs.Ytdbanekjjibpbaa
