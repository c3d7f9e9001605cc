/- Walks: Cancel of hold. -/
import Derived.Test.YtgjhjabnnhhkbaaHoI
import Derived.Test.YtgjhjabnnhhkbaaHoDel
namespace Go.Proofs.Ytgjhjabnnhhkbaa
open Go.RowKit

def cancelH (xs : List Ho) (id : Int) : Int × List Ho × Ho := if atH xs id = -1 then (9, [], ho0) else (0, xs.take (atH xs id).toNat ++ xs.drop ((atH xs id).toNat + 1), (getH xs id).1)
def ResC (w : World) (r : Int × List Ho × Ho) (e : Ending) (w' : World) : Prop :=
  ∃ A n c, e = .returned (.tuple #[.slice A n c, hoV r.2.2, .int .i64 r.1]) ∧ Hos w' w'.heap.size A n c r.2.1 ∧ Below w.heap.size w w'
/-- The same, the list as a row of the call's own. -/
def ResCo (w : World) (r : Int × List Ho × Ho) (e : Ending) (w' : World) : Prop :=
  ∃ v, e = .returned (.tuple #[v, hoV r.2.2, .int .i64 r.1]) ∧ Hoo w' w.heap.size v r.2.1 ∧ Below w.heap.size w w'
theorem ResCo.res {w w' : World} {r : Int × List Ho × Ho} {e : Ending} (h : ResCo w r e w') (hl : r.2.1.length ≤ 140737488355328) : ResC w r e w' := by
  obtain ⟨v, rfl, h1, h2⟩ := h
  obtain ⟨A, c, rfl, h3⟩ := Hoo_sl h1 hl
  exact ⟨A, _, c, rfl, h3, h2⟩
theorem cancelH_len (xs : List Ho) (id : Int) : (cancelH xs id).2.1.length ≤ xs.length := by
  unfold cancelH
  split
  · simp
  · simp; omega
theorem Hoo_far {w : World} {B : Nat} {v : Value} {xs : List Ho} (h : Hoo w B v xs) {p : Addr} (hp : v.ownBlock ≠ some p.block) (u : Value) : Hoo (w.setCell p u) B v xs := by
  refine ⟨h.1, ?_⟩
  rcases h.2 with hn | ⟨g, cap, cur, rfl, hb, hB, h4⟩
  · exact .inl hn
  · refine .inr ⟨g, cap, cur, rfl, hb, ?_, h4⟩
    exact Box.far (g := g) hB (fun e => hp (by simp [Value.ownBlock, e])) u
theorem Hoo_far_cells {B : Nat} {v : Value} {xs : List Ho} {b : Nat} (hb : v.ownBlock ≠ some b) : ∀ (vs : List Value) (o : Nat) (w : World), Hoo w B v xs → Hoo (w.setCells b o vs) B v xs
  | [], _, _, h => h
  | u :: r, o, _, h => Hoo_far_cells hb r (o + 1) _ (Hoo_far h (p := ⟨b, o, none⟩) hb u)

set_option maxRecDepth 100000 in
set_option maxHeartbeats 4000000 in
theorem hcancel_own (A : Option Addr) (n c : Nat) (xs : List Ho) (id : Int) (w : World) (hs : Hos w w.heap.size A n c xs) (hn : n ≤ 1000) :
    Calls Try.prog 35 #[.slice A n c, .int .i64 id] w (ResCo w (cancelH xs id)) := by
  obtain rfl := hs.len
  have hle := hs.le
  have hbig := hs.big
  have hsl : ∀ W, Below w.heap.size w W → Hos W W.heap.size A xs.length c xs := fun W hW => (hs.below hW).more hW.size
  have B0 := hide ((Below.refl w.heap.size w).alloc (Nat.le_refl _) (.cells #[.int .i64 0, .int .i64 0, .int .i64 0, .int .i64 0, .int .i64 0, .int .i64 0, .int .i64 0, .int .i64 0, .int .i64 0, .int .i64 0, .int .i64 0] 47))
  have X0 := hide (show Box (w.alloc (.cells #[.int .i64 0, .int .i64 0, .int .i64 0, .int .i64 0, .int .i64 0, .int .i64 0, .int .i64 0, .int .i64 0, .int .i64 0, .int .i64 0, .int .i64 0] 47)) w.heap.size 47 (hoC ho0) from Box.new w 47 #[.int .i64 0, .int .i64 0, .int .i64 0, .int .i64 0, .int .i64 0, .int .i64 0, .int .i64 0, .int .i64 0, .int .i64 0, .int .i64 0, .int .i64 0])
  have hf := hfind_any A xs.length c xs id (w.alloc (.cells #[.int .i64 0, .int .i64 0, .int .i64 0, .int .i64 0, .int .i64 0, .int .i64 0, .int .i64 0, .int .i64 0, .int .i64 0, .int .i64 0, .int .i64 0] 47)) (hsl _ B0.out)
  rcases getH_cases xs id with ⟨h1, h2, _⟩ | ⟨i, x, h1, h2, h3, h4, _⟩
  · have e1 : cancelH xs id = (9, [], ho0) := by unfold cancelH; rw [if_pos h1]
    rw [e1]
    rw [h1] at hf
    have HF := hide hf
    clear hf hsl hs h1 h2 e1
    go_enter Try.func35, Try.ntmps35
    go_wp2_with fail
    refine HF.out.mono ?_
    rintro e w1 ⟨rfl, hb⟩
    obtain ⟨hc, hfz⟩ := bcell hb
    have hz : w.heap.size < w1.heap.size := by have := hb.size; simp at this; omega
    have HB := hide (below_call hb)
    clear hb
    go_wp2
    refine bodyPost_ret (v := .tuple #[.slice none 0 0, hoV ho0, .int .i64 9]) (by simp [results, Try.results35, go_sem, hc, hoV, ho0]) rfl ⟨.slice none 0 0, rfl, World.ownsRow_nil _ _ _ _, ?_⟩
    exact below_ho HB.out (Nat.le_refl _) _ _ _ _ _ _ _ _ _ _ _
  · have hi : i < xs.length := (List.getElem?_eq_some_iff.1 h2).1
    rw [h1] at hf
    obtain ⟨b, off, y, rfl, hbB, hy, c0, c1, c2, c3, c4, c5, c6, c7, c8, c9, c10⟩ := Hos_at hs hi
    obtain rfl : x = y := by rw [hy] at h2; exact (Option.some.inj h2).symm
    have e1 : cancelH xs id = (0, xs.take i ++ xs.drop (i + 1), x) := by unfold cancelH; rw [if_neg (by omega), h1, h4]; rfl
    rw [e1]
    have hcl := fun W (hW : Below w.heap.size w W) => hclone_at (some ⟨b, off, none⟩) c xs w W (hsl W hW) hn hW
    have hyl : (xs.take i ++ xs.drop (i + 1)).length = xs.length - 1 := by simp; omega
    have hde := fun (B : Nat) (v : Value) (W : World) (h : W.ownsRow B 47 11 v xs.length (xs.flatMap hoE)) => ho_delete B v xs.length i xs W h rfl hi hn
    generalize xs.take i ++ xs.drop (i + 1) = ys at hyl hde ⊢
    have HF := hide hf
    have HC := hide hcl
    have HD := hide hde
    have HYL := hide hyl
    have hw1 : IntKind.i64.wrap ((i : Int) + 1) = (i : Int) + 1 := by rw [IntKind.wrap_i64]; omega
    clear hf hcl hde hsl hs h1 h2 h3 h4 hy e1 hyl
    go_enter Try.func35, Try.ntmps35
    go_wp2_with fail
    refine HF.out.mono ?_
    rintro e w1 ⟨rfl, hb⟩
    have B1 := hide (B0.out.trans (hb.mono (by simp)))
    have X1 := hide (X0.out.below hb (by simp))
    have hz1 : w.heap.size < w1.heap.size := X1.out.lt
    have hbB1 : b < w1.heap.size := by omega
    have hcc := fun W (hW : Below w.heap.size w W) o => hW.cell (p := ⟨b, o, none⟩) hbB
    have HCC := hide hcc
    have d0 := (HCC.out w1 B1.out (off + i * 11)).trans c0
    have d1 := (HCC.out w1 B1.out (off + i * 11 + 1)).trans c1
    have d2 := (HCC.out w1 B1.out (off + i * 11 + 2)).trans c2
    have d3 := (HCC.out w1 B1.out (off + i * 11 + 3)).trans c3
    have d4 := (HCC.out w1 B1.out (off + i * 11 + 4)).trans c4
    have d5 := (HCC.out w1 B1.out (off + i * 11 + 5)).trans c5
    have d6 := (HCC.out w1 B1.out (off + i * 11 + 6)).trans c6
    have d7 := (HCC.out w1 B1.out (off + i * 11 + 7)).trans c7
    have d8 := (HCC.out w1 B1.out (off + i * 11 + 8)).trans c8
    have d9 := (HCC.out w1 B1.out (off + i * 11 + 9)).trans c9
    have d10 := (HCC.out w1 B1.out (off + i * 11 + 10)).trans c10
    clear hb HF hcc
    go_wp2_with fail
    go_region_with (first
      | (go_at_call 56; refine (HC.out _ B1.out.drew).mono ?_; rintro e w4 ⟨v, rfl, hown, hb, hb4⟩; have HO4 := hide (show Hoo w4 w1.heap.size v xs from hown); have HB4 := hide hb4; have X4 := hide (X1.out.drew.below hb hz1); have hz4 : w1.heap.size ≤ w4.heap.size := hb.size; have hb14 : b < w4.heap.size := (by omega); have s0 := (HCC.out w4 hb4 (off + i * 11)).trans c0; have s1 := (HCC.out w4 hb4 (off + i * 11 + 1)).trans c1; have s2 := (HCC.out w4 hb4 (off + i * 11 + 2)).trans c2; have s3 := (HCC.out w4 hb4 (off + i * 11 + 3)).trans c3; have s4 := (HCC.out w4 hb4 (off + i * 11 + 4)).trans c4; have s5 := (HCC.out w4 hb4 (off + i * 11 + 5)).trans c5; have s6 := (HCC.out w4 hb4 (off + i * 11 + 6)).trans c6; have s7 := (HCC.out w4 hb4 (off + i * 11 + 7)).trans c7; have s8 := (HCC.out w4 hb4 (off + i * 11 + 8)).trans c8; have s9 := (HCC.out w4 hb4 (off + i * 11 + 9)).trans c9; have s10 := (HCC.out w4 hb4 (off + i * 11 + 10)).trans c10; have b4 := hide (fun j => X4.out.cell j); clear hown hb hb4)
      | (go_at_call 57; refine (HD.out w1.heap.size _ _ HO4.out).mono ?_; rintro e w5 ⟨v5, rfl, hown, hb⟩; have HO5 := hide hown; have HB5 := hide (HB4.out.trans (hb.mono (by omega))); have X5 := hide (X4.out.below hb hz1); have hz5 : w4.heap.size ≤ w5.heap.size ∨ True := Or.inr trivial; have t0 := (HCC.out w5 HB5.out (off + i * 11)).trans c0; have t1 := (HCC.out w5 HB5.out (off + i * 11 + 1)).trans c1; have t2 := (HCC.out w5 HB5.out (off + i * 11 + 2)).trans c2; have t3 := (HCC.out w5 HB5.out (off + i * 11 + 3)).trans c3; have t4 := (HCC.out w5 HB5.out (off + i * 11 + 4)).trans c4; have t5 := (HCC.out w5 HB5.out (off + i * 11 + 5)).trans c5; have t6 := (HCC.out w5 HB5.out (off + i * 11 + 6)).trans c6; have t7 := (HCC.out w5 HB5.out (off + i * 11 + 7)).trans c7; have t8 := (HCC.out w5 HB5.out (off + i * 11 + 8)).trans c8; have t9 := (HCC.out w5 HB5.out (off + i * 11 + 9)).trans c9; have t10 := (HCC.out w5 HB5.out (off + i * 11 + 10)).trans c10; have u0q := X5.out.cell 0; have u1q := X5.out.cell 1; have u2q := X5.out.cell 2; have u3q := X5.out.cell 3; have u4q := X5.out.cell 4; have u5q := X5.out.cell 5; have u6q := X5.out.cell 6; have u7q := X5.out.cell 7; have u8q := X5.out.cell 8; have u9q := X5.out.cell 9; have u10q := X5.out.cell 10; (try simp at u0q u1q u2q u3q u4q u5q u6q u7q u8q u9q u10q); have hfz := fun j => X5.out.frz j; clear hown hb))
    all_goals
      have ho : Hoo w5 w1.heap.size v5 ys := by unfold Hoo; rw [HYL.out]; exact HO5.out
      have ho2 := Hoo_far_cells (b := w.heap.size) (by intro e; have := (ho.lt _ e).1; omega) (hoE x) 0 _ ho
      obtain ⟨A1, q1, hv, hsl⟩ := Hoo_sl ho2 (by rw [HYL.out]; omega)
      subst hv
      have HS2 := hide (own_base ho2 (Nat.le_of_lt hz1))
      have HB3 := hide (below_setCells (Nat.le_refl _) (hoE x) 0 _ HB5.out)
      clear ho ho2 hsl HO5 X4 X5 X1 HD HC
      go_wp2
      refine bodyPost_ret (v := .tuple #[.slice A1 ys.length q1, hoV x, .int .i64 0]) ?_ ?_ ?_
      · simp [results, Try.results35, go_sem, u0q, u1q, u2q, u3q, u4q, u5q, u6q, u7q, u8q, u9q, u10q, hoV]
      · rfl
      · exact ⟨_, rfl, HS2.out, HB3.out⟩
theorem hcancel_any (A : Option Addr) (n c : Nat) (xs : List Ho) (id : Int) (w : World) (hs : Hos w w.heap.size A n c xs) (hn : n ≤ 1000) :
    Calls Try.prog 35 #[.slice A n c, .int .i64 id] w (ResC w (cancelH xs id)) :=
  (hcancel_own A n c xs id w hs hn).mono fun _ _ h => h.res (by have := cancelH_len xs id; have := hs.len; omega)
end Go.Proofs.Ytgjhjabnnhhkbaa
