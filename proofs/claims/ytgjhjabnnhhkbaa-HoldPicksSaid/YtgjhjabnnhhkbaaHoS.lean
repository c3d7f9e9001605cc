/- Walks: Pick, Expired of hold. -/
import Derived.Test.YtgjhjabnnhhkbaaHoR
namespace Go.Proofs.Ytgjhjabnnhhkbaa
open Go.RowKit

/-- Can an item fill the hold? -/
def pkOK (it : Int) (h : Ho) : Bool := !(h.itm != 0 && h.itm != it)
def pickF (it br : Int) (loc : Bool) : Int → List Ho → Int
  | f, [] => f
  | f, h :: r => if pkOK it h = true then (if (!loc || h.pk == br) = true then h.id else pickF it br loc (if f = 0 then h.id else f) r) else pickF it br loc f r
theorem pickF_step {it br : Int} {loc : Bool} {f : Int} {ys : List Ho} {k : Nat} {h : Ho} (hx : ys[k]? = some h) :
    pickF it br loc f (ys.drop k) = if pkOK it h = true then (if (!loc || h.pk == br) = true then h.id else pickF it br loc (if f = 0 then h.id else f) (ys.drop (k + 1))) else pickF it br loc f (ys.drop (k + 1)) := by
  obtain ⟨hk, rfl⟩ := List.getElem?_eq_some_iff.1 hx
  rw [List.drop_eq_getElem_cons hk, pickF]

set_option maxRecDepth 100000 in
set_option maxHeartbeats 4000000 in
theorem hPick_any (A : Option Addr) (n c : Nat) (xs ys : List Ho) (it rcd br day : Int) (v2 v3 v4 v5 v6 v7 v8 v9 : Value) (loc : Bool) (w : World) (hs : Hos w w.heap.size A n c xs) (hq : QueD xs ys rcd day) (hn : ys.length ≤ 1000) :
    Calls Try.prog 22 #[.slice A n c, .agg #[.int .i64 it, .int .i64 rcd, v2, v3, v4, v5, v6, v7, v8, v9], .int .i64 br, .int .i64 day, .bool loc] w fun e w' => e = .returned (.int .i64 (pickF it br loc 0 ys)) ∧ Below w.heap.size w w' := by
  obtain rfl := hs.len
  have hsl : ∀ W, Below w.heap.size w W → Hos W W.heap.size A xs.length c xs := fun W hW => (hs.below hW).more hW.size
  have B0 := hide ((Below.refl w.heap.size w).alloc (Nat.le_refl _) (.cells #[.int .i64 it, .int .i64 rcd, v2, v3, v4, v5, v6, v7, v8, v9] 36))
  have X0 := hide (Box.new w 36 #[.int .i64 it, .int .i64 rcd, v2, v3, v4, v5, v6, v7, v8, v9])
  have HQ := hide (hq A c (w.alloc (.cells #[.int .i64 it, .int .i64 rcd, v2, v3, v4, v5, v6, v7, v8, v9] 36)) (hsl _ B0.out))
  clear hq hs hsl
  go_enter Try.func22, Try.ntmps22
  go_wp2_with fail
  refine HQ.out.mono ?_
  rintro e w1 ⟨v, rfl, hown, hb⟩
  obtain ⟨A1, c1, hv, hsl⟩ := Hoo_sl hown (by omega)
  subst hv
  have hbig := hsl.big
  have hle := hsl.le
  have HS := hide hsl
  have B1 := hide (B0.out.trans (hb.mono (by simp)))
  have X1 := hide (X0.out.below hb (by simp))
  have hz1 : w.heap.size < w1.heap.size := by have := hb.size; simp at this; omega
  have Z1 := hide (Below.refl w1.heap.size w1)
  clear hown hb hsl HQ B0 X0
  go_wp2
  go_loopw [11, 20] (fun s11 s20 wr => ∃ (k : Nat) (f : Int), k ≤ ys.length ∧ s20 = .int .i64 k ∧ s11 = .int .i64 f ∧ Below w1.heap.size w1 wr ∧ pickF it br loc 0 ys = pickF it br loc f (ys.drop k)) (fun _ s20 _ => ys.length - (intOf s20).toNat)
  case atStart => exact ⟨0, 0, Nat.zero_le _, rfl, rfl, Z1.out, rfl⟩
  case round =>
    obtain ⟨k, f, hk, rfl, rfl, hb, ha⟩ := hrel
    clear Z1
    have Z1 := hide hb
    have HA := hide ha
    have hz := hb.size
    clear ha
    have bx := X1.out.below hb hz1
    have i0 := bx.cell 0
    simp at i0
    have i0' := fun o => (World.cell?_alloc_lt wr o ⟨w.heap.size, 0, none⟩ (Nat.lt_of_lt_of_le hz1 hz)).trans i0
    clear bx hb
    by_cases hlt : k < ys.length
    · obtain ⟨b, off, y, rfl, hbB, hy, c0, c1', c2, c3, c4, c5, c6, c7, c8, c9, c10⟩ := Hos_at (HS.out.below Z1.out) hlt
      have HST := hide (pickF_step (it := it) (br := br) (loc := loc) (f := f) hy)
      have ZA := hide (Z1.out.alloc hz (.cells (hoC y) 47))
      have hkz : (k : Int) < (ys.length : Int) := by omega
      clear hy
      by_cases hok : pkOK it y = true
      · have hcase : (y.itm != 0) = false ∨ ((y.itm != 0) = true ∧ (y.itm != it) = false) := by
          unfold pkOK at hok
          cases h1 : (y.itm != 0) <;> cases h2 : (y.itm != it) <;> simp_all
        by_cases hl : (!loc || y.pk == br) = true
        · have hres : pickF it br loc 0 ys = y.id := by rw [HA.out, HST.out, if_pos hok, if_pos hl]
          have HRES := hide hres
          have hcl : loc = false ∨ (loc = true ∧ (y.pk == br) = true) := by
            cases loc
            · exact .inl rfl
            · exact .inr ⟨rfl, by simpa using hl⟩
          clear hok hl hres HA HST
          rcases hcl with rfl | ⟨rfl, hl2⟩
          all_goals
            rcases hcase with h1 | ⟨h1, h2⟩
            all_goals
              go_wp2
              go_ret
              exact ⟨ret_int HRES.out.symm, B1.out.trans (ZA.out.mono B1.out.size)⟩
        · have hl' : (!loc || y.pk == br) = false := by simpa using hl
          have hloc : loc = true ∧ (y.pk == br) = false := by cases loc <;> simp_all
          have hres : pickF it br loc 0 ys = pickF it br loc (if f = 0 then y.id else f) (ys.drop (k + 1)) := by rw [HA.out, HST.out, if_pos hok, if_neg hl]
          have HRES := hide hres
          obtain ⟨rfl, hl2⟩ := hloc
          clear hok hl hl' hres HA HST
          by_cases hf : f = 0
          · subst hf
            rcases hcase with h1 | ⟨h1, h2⟩
            all_goals
              go_wp2
              go_roundw
              case rel => exact ⟨k + 1, y.id, by omega, by go_num, rfl, ZA.out, by rw [HRES.out, if_pos rfl]⟩
              case measure => simp [intOf]; omega
          · have hfb : (f == 0) = false := by simpa using hf
            have HNF := hide hf
            clear hf
            rcases hcase with h1 | ⟨h1, h2⟩
            all_goals
              go_wp2
              go_roundw
              case rel => exact ⟨k + 1, f, by omega, by go_num, rfl, ZA.out, by rw [HRES.out, if_neg HNF.out]⟩
              case measure => simp [intOf]; omega
      · have hres : pickF it br loc 0 ys = pickF it br loc f (ys.drop (k + 1)) := by rw [HA.out, HST.out, if_neg hok]
        have HRES := hide hres
        have h12 : (y.itm != 0) = true ∧ (y.itm != it) = true := by
          unfold pkOK at hok
          cases h1 : (y.itm != 0) <;> cases h2 : (y.itm != it) <;> simp_all
        obtain ⟨h1, h2⟩ := h12
        clear hok hres HA HST
        go_wp2
        go_roundw
        case rel => exact ⟨k + 1, f, by omega, by go_num, rfl, ZA.out, HRES.out⟩
        case measure => simp [intOf]; omega
    · have hkz : ¬ (k : Int) < (ys.length : Int) := by omega
      go_wp2
      go_ret
      exact ⟨ret_int (by rw [HA.out, List.drop_eq_nil_of_le (by omega)]; rfl), B1.out.trans (Z1.out.mono B1.out.size)⟩

def expB (day : Int) (x : Ho) : Bool := x.st == 3 && decide (x.unt < day)
def expT (xs : List Ho) (day : Int) (k : Nat) : List Int := ((xs.take k).filter (expB day)).map (·.id)
def expH (xs : List Ho) (day : Int) : List Int := (xs.filter (expB day)).map (·.id)
theorem exp_step {xs : List Ho} {day : Int} {k : Nat} {x : Ho} (h : xs[k]? = some x) : expT xs day (k + 1) = expT xs day k ++ (if expB day x = true then [x.id] else []) := by
  unfold expT
  rw [take_step h, List.filter_append, List.map_append]
  congr 1
  cases h : expB day x <;> simp [h]
theorem exp_len (xs : List Ho) (day : Int) (k : Nat) : (expT xs day k).length ≤ k := by
  unfold expT; rw [List.length_map]; exact Nat.le_trans (List.length_filter_le _ _) (List.length_take_le _ _)

set_option maxRecDepth 100000 in
set_option maxHeartbeats 2000000 in
theorem hExpired_any (A : Option Addr) (n c : Nat) (xs : List Ho) (day : Int) (w : World) (hs : Hos w w.heap.size A n c xs) (hn : n ≤ 1000) :
    Calls Try.prog 20 #[.slice A n c, .int .i64 day] w fun e w' => ∃ v, e = .returned v ∧ Ino w' w.heap.size v (expH xs day) ∧ Below w.heap.size w w' := by
  obtain ⟨i0, hi0, hz0, hz1, hz2⟩ := info_parts int_info
  have HI := hide (And.intro hi0 (And.intro hz0 (And.intro hz1 hz2)))
  obtain rfl := hs.len
  have hle := hs.le
  have hbig := hs.big
  have HS := hide hs
  clear hi0 hz0 hz1 hz2 hs
  go_enter Try.func20, Try.ntmps20
  go_wp2
  go_loopw [5, 10] (fun v s10 wr => ∃ k : Nat, k ≤ xs.length ∧ s10 = .int .i64 k ∧ Ino wr w.heap.size v (expT xs day k) ∧ Below w.heap.size w wr) (fun _ s10 _ => xs.length - (intOf s10).toNat)
  case atStart => exact ⟨0, Nat.zero_le _, rfl, World.ownsRow_nil _ _ _ _, Below.refl _ _⟩
  case round =>
    obtain ⟨k, hk, rfl, ho, hb⟩ := hrel
    have HO := hide ho
    have HB := hide hb
    have hz := hb.size
    have HL := hide (exp_len xs day k)
    clear ho hb
    by_cases hlt : k < xs.length
    · obtain ⟨b, off, y, rfl, hbB, hy, c0, c1', c2, c3, c4, c5, c6, c7, c8, c9, c10⟩ := Hos_at (HS.out.below HB.out) hlt
      have hst := exp_step (day := day) hy
      have HBW := hide (HB.out.alloc hz (.cells (hoC y) 47))
      have hkz : (k : Int) < (xs.length : Int) := by omega
      by_cases hp : expB day y = true
      · rw [if_pos hp] at hst
        have HST := hide hst
        have hp2 : (y.st == 3) = true ∧ decide (y.unt < day) = true := by unfold expB at hp; rw [Bool.and_eq_true] at hp; exact hp
        obtain ⟨p1, p2⟩ := hp2
        have hp3 : y.unt < day := by simpa using p2
        have HSRC := hide (fun w' g (z : Int) (h : Box w' g 3 #[.int .i64 z]) => in_sl1 h)
        have hown2 : ∀ o o', ((wr.alloc o).alloc o').ownsRow w.heap.size 3 1 u5 (expT xs day k).length ((expT xs day k).flatMap inE) := fun o o' => (HO.out.alloc o).alloc o'
        have HO2 := hide hown2
        have hbn : ∀ u, Box ((wr.alloc (.cells (hoC y) 47)).alloc (.cells #[u] 3)) (wr.heap.size + 1) 3 #[u] := by
          intro u; have := Box.new (wr.alloc (.cells (hoC y) 47)) 3 #[u]; rwa [World.size_alloc] at this
        have HBN := hide hbn
        clear hy hst hp hown2 hbn
        go_wp2_with (at_builtin; go_must (refine wpList_append_sl _ rfl _ _ 28 rfl w.heap.size 3 i0 _ 8 Try.underlying28 HI.out.1 HI.out.2.1 HI.out.2.2.1 HI.out.2.2.2 rfl (by decide) inE_len inE_one _ _ _ rfl (HO2.out _ _) _ 1 1 rfl (HSRC.out _ _ y.id (HBN.out _)) (by have := HL.out; unfold maxLen; omega) (by have := HL.out; omega) (by simp; omega) ?_))
        intro v' w2 hown hg hat
        have H5 := hide hown
        have H6 := hide ((HBW.out.alloc (by simp; omega) _).grown hg (by simp; omega) (by intro q hq; exact (HO.out.lt q hq).1))
        clear hown hg hat
        go_wp2
        go_roundw
        case rel =>
          refine ⟨k + 1, by omega, by go_num, ?_, H6.out⟩
          unfold Ino
          rw [HST.out, List.flatMap_append, List.length_append]
          simpa using H5.out
        case measure => simp [intOf]; omega
      · rw [if_neg hp, List.append_nil] at hst
        have HST := hide hst
        have hcase : (y.st == 3) = false ∨ ((y.st == 3) = true ∧ ¬ y.unt < day) := by
          unfold expB at hp
          cases h1 : (y.st == 3)
          · exact .inl rfl
          · exact .inr ⟨rfl, by simpa [h1] using hp⟩
        clear hy hst hp
        rcases hcase with h1 | ⟨h1, h2⟩
        all_goals
          go_wp2
          go_roundw
          case rel =>
            refine ⟨k + 1, by omega, by go_num, ?_, HBW.out⟩
            unfold Ino
            rw [HST.out]
            exact HO.out.alloc _
          case measure => simp [intOf]; omega
    · go_wp2
      go_ret
      refine ⟨_, rfl, ?_, HB.out⟩
      have ho := HO.out
      have e : expT xs day k = expH xs day := by unfold expT expH; rw [List.take_of_length_le (by omega)]
      rwa [e] at ho
end Go.Proofs.Ytgjhjabnnhhkbaa
