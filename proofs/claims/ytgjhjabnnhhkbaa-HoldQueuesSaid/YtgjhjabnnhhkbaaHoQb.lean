/- Walks: Position, Expired, Pick of the reference. -/
import Derived.Test.YtgjhjabnnhhkbaaHoQa
import Derived.Test.YtgjhjabnnhhkbaaHoX
namespace Go.Proofs.Ytgjhjabnnhhkbaa
open Go.RowKit

theorem ix_at {α : Type} {p : α → Bool} {xs : List α} {k : Nat} {x : α} (h : xs[k]? = some x) (hp : p x = true) (ha : ∀ y ∈ xs.take k, p y = false) : ix p xs = k := by
  rcases ix_cases p xs with ⟨_, h2⟩ | ⟨j, y, h1, h2, h3, h4⟩
  · rw [h2 x (List.mem_of_getElem? h)] at hp; cases hp
  · rcases Nat.lt_trichotomy k j with e | e | e
    · have : x ∈ xs.take j := List.mem_of_getElem? (i := k) (by rw [List.getElem?_take, if_pos e]; exact h)
      rw [h4 x this] at hp; cases hp
    · rw [h1, e]
    · have : y ∈ xs.take k := List.mem_of_getElem? (i := j) (by rw [List.getElem?_take, if_pos e]; exact h2)
      rw [ha y this] at h3; cases h3
theorem ix_none {α : Type} {p : α → Bool} {xs : List α} (ha : ∀ y ∈ xs, p y = false) : ix p xs = -1 := by
  rcases ix_cases p xs with ⟨h, _⟩ | ⟨j, y, _, h2, h3, _⟩
  · exact h
  · rw [ha y (List.mem_of_getElem? h2)] at h3; cases h3
theorem take_snoc {α : Type} {p : α → Bool} {xs : List α} {k : Nat} {x : α} (h : xs[k]? = some x) (ha : ∀ y ∈ xs.take k, p y = false) (hx : p x = false) : ∀ y ∈ xs.take (k + 1), p y = false := by
  intro y hy
  rw [take_step h] at hy
  rcases List.mem_append.1 hy with hy | hy
  · exact ha y hy
  · rw [List.mem_singleton.1 hy]; exact hx

set_option maxRecDepth 100000 in
set_option maxHeartbeats 4000000 in
theorem rPosition_any (A : Option Addr) (n c : Nat) (xs : List Ho) (id day : Int) (w : World) (hs : Hos w w.heap.size A n c xs) (hr : ∀ x ∈ xs, 0 ≤ x.rnk ∧ x.rnk ≤ 9) (hn : n ≤ 1000) :
    Calls Try.prog 19 #[.slice A n c, .int .i64 id, .int .i64 day] w fun e w' => e = .returned (.int .i64 (posH xs (fun r => queH xs r day) id)) ∧ Below w.heap.size w w' := by
  obtain rfl := hs.len
  have hsl : ∀ W, Below w.heap.size w W → Hos W W.heap.size A xs.length c xs := fun W hW => (hs.below hW).more hW.size
  have hg := hrget_any A _ c xs id w hs
  have hQ0 := fun rcd W (hW : Below w.heap.size w W) => rQueue_any A xs.length c xs rcd day W (hsl W hW) hr hn
  have hql := fun rcd => queH_len xs rcd day
  unfold posH
  generalize getH xs id = r at hg
  obtain ⟨y, q⟩ := r
  unfold hoV at hg
  simp only at hg
  have HG := hide hg
  clear hg hs hsl
  cases q with
  | false =>
    clear hQ0
    rw [if_neg (by simp)]
    go_enter Try.func19, Try.ntmps19
    go_wp2_with fail
    refine HG.out.mono ?_
    rintro e w1 ⟨rfl, hb⟩
    have B1 := hide (hb.alloc hb.size (.cells (hoC y) 47))
    clear hb
    go_wp2
    go_ret
    exact ⟨rfl, B1.out⟩
  | true =>
    rw [if_pos rfl]
    simp only
    have hQ := hQ0 y.rcd
    have hln : (idsH (queH xs y.rcd day)).length ≤ 1000 := by unfold idsH; rw [List.length_map]; have := hql y.rcd; omega
    generalize idsH (queH xs y.rcd day) = is at hQ hln
    have HQ := hide hQ
    have HLN := hide hln
    clear hQ hQ0 hln hql hr
    go_enter Try.func19, Try.ntmps19
    go_wp2_with fail
    refine HG.out.mono ?_
    rintro e w1 ⟨rfl, hb⟩
    have B1 := hide (hb.alloc hb.size (.cells (hoC y) 47))
    clear hb HG
    go_wp2_with fail
    refine (HQ.out _ B1.out).mono ?_
    rintro e w2 ⟨v, rfl, hown, hb⟩
    have B2 := hide (B1.out.trans (hb.mono B1.out.size))
    obtain ⟨A1, c1, hv, hsl⟩ := Ino_sl hown (by have := HLN.out; omega)
    subst hv
    have hbig := hsl.big
    have hle := hsl.le
    have HS := hide hsl
    clear hown hb hsl HQ
    go_wp2
    go_loop [10] (fun s => ∃ k : Nat, k ≤ is.length ∧ s = .int .i64 k ∧ ∀ z ∈ is.take k, (id == z) = false) (fun s => is.length - (intOf s).toNat)
    case atStart => exact ⟨0, Nat.zero_le _, rfl, by simp⟩
    case round =>
      obtain ⟨k, hk, rfl, ha⟩ := hrel
      have HA := hide ha
      clear ha
      by_cases hlt : k < is.length
      · obtain ⟨b, off, z, rfl, hbB, hz, c0⟩ := Is_at HS.out hlt
        by_cases hq : id = z
        · have hqb : (z == id) = true := by simp [hq]
          have hix := ix_at (p := fun z => id == z) hz (by simp [hq]) HA.out
          have HIX := hide hix
          clear hq hz hix
          go_wp2
          go_ret
          refine ⟨ret_int ?_, B2.out⟩
          rw [HIX.out]
        · have hqb : (z == id) = false := by simp; omega
          have HA2 := hide (take_snoc (p := fun z => id == z) hz HA.out (by simpa using hq))
          clear hq hz HA
          go_wp2
          go_round
          case rel => exact ⟨k + 1, by omega, by go_num, HA2.out⟩
          case measure => simp [intOf]; omega
      · have hix : ix (fun z => id == z) is = -1 := ix_none (by have h := HA.out; rwa [List.take_of_length_le (by omega)] at h)
        have HIX := hide hix
        clear hix
        go_wp2
        go_ret
        exact ⟨ret_int (by rw [HIX.out]; rfl), B2.out⟩

set_option maxRecDepth 100000 in
set_option maxHeartbeats 2000000 in
theorem rExpired_any (A : Option Addr) (n c : Nat) (xs : List Ho) (day : Int) (w : World) (hs : Hos w w.heap.size A n c xs) (hn : n ≤ 1000) :
    Calls Try.prog 21 #[.slice A n c, .int .i64 day] w fun e w' => ∃ v, e = .returned v ∧ Ino w' w.heap.size v (expH xs day) ∧ Below w.heap.size w w' := by
  obtain ⟨i0, hi0, hz0, hz1, hz2⟩ := info_parts int_info
  have HI := hide (And.intro hi0 (And.intro hz0 (And.intro hz1 hz2)))
  obtain rfl := hs.len
  have hle := hs.le
  have hbig := hs.big
  have HS := hide hs
  clear hi0 hz0 hz1 hz2 hs
  go_enter Try.func21, Try.ntmps21
  go_wp2
  go_loopw [5, 6] (fun v s6 wr => ∃ k : Nat, k ≤ xs.length ∧ s6 = .int .i64 k ∧ Ino wr w.heap.size v (expT xs day k) ∧ Below w.heap.size w wr) (fun _ s6 _ => xs.length - (intOf s6).toNat)
  case atStart => exact ⟨0, Nat.zero_le _, rfl, World.ownsRow_nil _ _ _ _, Below.refl _ _⟩
  case round =>
    obtain ⟨k, hk, rfl, ho, hb⟩ := hrel
    have HO := hide ho
    have HB := hide hb
    have hz := hb.size
    have HL := hide (exp_len xs day k)
    clear ho hb
    by_cases hlt : k < xs.length
    · obtain ⟨b, off, y, rfl, hbB, hy, c0, c1', c2, c3, c4, c5, c6, c7, c8, c9, c10⟩ := Hos_at (HS.out.below HB.out) hlt
      have hst := exp_step (day := day) hy
      by_cases hp : expB day y = true
      · rw [if_pos hp] at hst
        have HST := hide hst
        have hp2 : (y.st == 3) = true ∧ decide (y.unt < day) = true := by unfold expB at hp; rw [Bool.and_eq_true] at hp; exact hp
        obtain ⟨p1, p2⟩ := hp2
        have hp3 : y.unt < day := by simpa using p2
        have HSRC := hide (fun w' g (z : Int) (h : Box w' g 3 #[.int .i64 z]) => in_sl1 h)
        have hown2 : ∀ o, (wr.alloc o).ownsRow w.heap.size 3 1 u5 (expT xs day k).length ((expT xs day k).flatMap inE) := fun o => HO.out.alloc o
        have HO2 := hide hown2
        have HBN := hide (fun u => Box.new wr 3 #[u])
        clear hy hst hp hown2
        go_wp2_with (at_builtin; go_must (refine wpList_append_sl _ rfl _ _ 28 rfl w.heap.size 3 i0 _ 8 Try.underlying28 HI.out.1 HI.out.2.1 HI.out.2.2.1 HI.out.2.2.2 rfl (by decide) inE_len inE_one _ _ _ rfl (HO2.out _) _ 1 1 rfl (HSRC.out _ _ y.id (HBN.out _)) (by have := HL.out; unfold maxLen; omega) (by have := HL.out; omega) (by simp; omega) ?_))
        intro v' w2 hown hg hat
        have H5 := hide hown
        have H6 := hide ((HB.out.alloc hz _).grown hg (by simp; omega) (by intro q hq; exact (HO.out.lt q hq).1))
        clear hown hg hat
        go_wp2
        go_roundw
        case rel =>
          refine ⟨k + 1, by omega, by go_num, ?_, H6.out⟩
          unfold Ino
          rw [HST.out, List.flatMap_append, List.length_append]
          simpa using H5.out
        case measure => simp [intOf]; omega
      · rw [if_neg hp, List.append_nil] at hst
        have HST := hide hst
        have hcase : (y.st == 3) = false ∨ ((y.st == 3) = true ∧ ¬ y.unt < day) := by
          unfold expB at hp
          cases h1 : (y.st == 3)
          · exact .inl rfl
          · exact .inr ⟨rfl, by simpa [h1] using hp⟩
        clear hy hst hp
        rcases hcase with h1 | ⟨h1, h2⟩
        all_goals
          go_wp2
          go_roundw
          case rel =>
            refine ⟨k + 1, by omega, by go_num, ?_, HB.out⟩
            unfold Ino
            rw [HST.out]
            exact HO.out
          case measure => simp [intOf]; omega
    · go_wp2
      go_ret
      refine ⟨_, rfl, ?_, HB.out⟩
      have ho := HO.out
      have e : expT xs day k = expH xs day := by unfold expT expH; rw [List.take_of_length_le (by omega)]
      rwa [e] at ho

/-- The reference's choice. -/
def pickR (it br : Int) (loc : Bool) : Int → List Ho → Int
  | f, [] => f
  | f, h :: r => if pkOK it h = true then (if (loc && h.pk == br) = true then h.id else pickR it br loc (if f = 0 then h.id else f) r) else pickR it br loc f r
theorem pickR_step {it br : Int} {loc : Bool} {f : Int} {ys : List Ho} {k : Nat} {h : Ho} (hx : ys[k]? = some h) :
    pickR it br loc f (ys.drop k) = if pkOK it h = true then (if (loc && h.pk == br) = true then h.id else pickR it br loc (if f = 0 then h.id else f) (ys.drop (k + 1))) else pickR it br loc f (ys.drop (k + 1)) := by
  obtain ⟨hk, rfl⟩ := List.getElem?_eq_some_iff.1 hx
  rw [List.drop_eq_getElem_cons hk, pickR]
theorem pickR_keep {it br : Int} : ∀ {ys : List Ho} {f : Int}, f ≠ 0 → pickR it br false f ys = f
  | [], f, _ => rfl
  | h :: r, f, hf => by
    rw [pickR]
    split
    · simp only [Bool.false_and, Bool.false_eq_true, if_false, if_neg hf]
      exact pickR_keep hf
    · exact pickR_keep hf
theorem pickR_eq {it br : Int} {loc : Bool} : ∀ {ys : List Ho} {f : Int}, (∀ y ∈ ys, y.id ≠ 0) → (loc = false → f = 0) → pickR it br loc f ys = pickF it br loc f ys
  | [], f, _, _ => rfl
  | h :: r, f, hid, hf => by
    have hr := fun y hy => hid y (List.mem_cons_of_mem _ hy)
    rw [pickR, pickF]
    split
    · cases loc with
      | true =>
        simp only [Bool.true_and, Bool.not_true, Bool.false_or]
        split
        · rfl
        · exact pickR_eq hr (fun h => by cases h)
      | false =>
        simp only [Bool.false_and, Bool.not_false, Bool.true_or]
        rw [if_neg (by simp), if_pos trivial, hf rfl, if_pos rfl]
        exact pickR_keep (hid h (by simp))
    · exact pickR_eq hr hf

set_option maxRecDepth 100000 in
set_option maxHeartbeats 8000000 in
theorem rPick_any (A : Option Addr) (n c : Nat) (xs : List Ho) (it rcd br day : Int) (v2 v3 v4 v5 v6 v7 v8 v9 : Value) (loc : Bool) (w : World) (hs : Hos w w.heap.size A n c xs) (hr : ∀ x ∈ xs, 0 ≤ x.rnk ∧ x.rnk ≤ 9) (hn : n ≤ 1000) (hgi : ∀ x ∈ xs, getH xs x.id = (x, true)) :
    Calls Try.prog 23 #[.slice A n c, .agg #[.int .i64 it, .int .i64 rcd, v2, v3, v4, v5, v6, v7, v8, v9], .int .i64 br, .int .i64 day, .bool loc] w fun e w' => e = .returned (.int .i64 (pickR it br loc 0 (queH xs rcd day))) ∧ Below w.heap.size w w' := by
  obtain rfl := hs.len
  have hsl : ∀ W, Below w.heap.size w W → Hos W W.heap.size A xs.length c xs := fun W hW => (hs.below hW).more hW.size
  have B0 := hide ((Below.refl w.heap.size w).alloc (Nat.le_refl _) (.cells #[.int .i64 it, .int .i64 rcd, v2, v3, v4, v5, v6, v7, v8, v9] 36))
  have X0 := hide (Box.new w 36 #[.int .i64 it, .int .i64 rcd, v2, v3, v4, v5, v6, v7, v8, v9])
  have hQ := fun W (hW : Below w.heap.size w W) => rQueue_any A xs.length c xs rcd day W (hsl W hW) hr hn
  have hgt : ∀ (y : Ho), y ∈ queH xs rcd day → ∀ W, Below w.heap.size w W → Calls Try.prog 32 #[.slice A xs.length c, .int .i64 y.id] W fun e w' => e = .returned (.tuple #[hoV y, .bool true]) ∧ Below W.heap.size W w' := by
    intro y hy W hW
    have hyx : y ∈ xs := (List.mem_filter.1 (isorth_mem.1 hy)).1
    have h := hrget_any A xs.length c xs y.id W (hsl W hW)
    rw [hgi y hyx] at h
    exact h
  have hql := queH_len xs rcd day
  generalize queH xs rcd day = ys at hQ hgt hql
  have hyl : ys.length ≤ 1000 := by omega
  have HQ := hide hQ
  unfold hoV at hgt
  have HGT := hide hgt
  clear hQ hgt hql hs hsl hr hgi
  go_enter Try.func23, Try.ntmps23
  go_wp2_with fail
  refine (HQ.out _ B0.out).mono ?_
  rintro e w1 ⟨v, rfl, hown, hb⟩
  have hil : (idsH ys).length = ys.length := by unfold idsH; exact List.length_map _
  obtain ⟨A1, c1, hv, hsl⟩ := Ino_sl hown (by rw [hil]; omega)
  subst hv
  rw [hil] at hsl ⊢
  have hbig := hsl.big
  have hle := hsl.le
  have HS := hide hsl
  have B1 := hide (B0.out.trans (hb.mono (by simp)))
  have X1 := hide (X0.out.below hb (by simp))
  have hz1 : w.heap.size < w1.heap.size := by have := hb.size; simp at this; omega
  have Z1 := hide (Below.refl w1.heap.size w1)
  clear hown hb hsl HQ B0 X0 hil
  go_wp2
  go_loopw [12, 13] (fun s12 s13 wr => ∃ (k : Nat) (f : Int), k ≤ ys.length ∧ s13 = .int .i64 k ∧ s12 = .int .i64 f ∧ Below w1.heap.size w1 wr ∧ pickR it br loc 0 ys = pickR it br loc f (ys.drop k)) (fun _ s13 _ => ys.length - (intOf s13).toNat)
  case atStart => exact ⟨0, 0, Nat.zero_le _, rfl, rfl, Z1.out, rfl⟩
  case round =>
    obtain ⟨k, f, hk, rfl, rfl, hb, ha⟩ := hrel
    clear Z1
    have Z1 := hide hb
    have HA := hide ha
    clear ha hb
    by_cases hlt : k < ys.length
    · obtain ⟨b, off, z, rfl, hbB, hzi, c0⟩ := Is_at (HS.out.below Z1.out) hlt
      obtain ⟨y, hy⟩ : ∃ y, ys[k]? = some y := ⟨_, List.getElem?_eq_getElem hlt⟩
      have hz2 : z = y.id := by
        unfold idsH at hzi
        rw [List.getElem?_map, hy] at hzi
        exact (Option.some.inj hzi).symm
      subst hz2
      have HST := hide (pickR_step (it := it) (br := br) (loc := loc) (f := f) hy)
      have hkz : (k : Int) < (ys.length : Int) := by omega
      have hG := HGT.out y (List.mem_of_getElem? hy) wr (B1.out.trans (Z1.out.mono (by omega)))
      have HG := hide hG
      clear hy hzi hG
      go_wp2_with fail
      refine HG.out.mono ?_
      rintro e w2 ⟨rfl, hb⟩
      have ZA := hide ((Z1.out.trans (hb.mono Z1.out.size)).alloc (Nat.le_trans Z1.out.size hb.size) (.cells (hoC y) 47))
      have bx := (X1.out.below Z1.out hz1).below hb (Nat.lt_of_lt_of_le hz1 Z1.out.size)
      have i0 := bx.cell 0
      simp at i0
      have i0' := fun o => (World.cell?_alloc_lt w2 o ⟨w.heap.size, 0, none⟩ (Nat.lt_of_lt_of_le hz1 (Nat.le_trans Z1.out.size hb.size))).trans i0
      clear bx hb HG
      by_cases hok : pkOK it y = true
      · have hcase : (y.itm != 0) = false ∨ ((y.itm != 0) = true ∧ (y.itm != it) = false) := by
          unfold pkOK at hok
          cases h1 : (y.itm != 0) <;> cases h2 : (y.itm != it) <;> simp_all
        by_cases hl : (loc && y.pk == br) = true
        · have hres : pickR it br loc 0 ys = y.id := by rw [HA.out, HST.out, if_pos hok, if_pos hl]
          have HRES := hide hres
          have hcl : loc = true ∧ (y.pk == br) = true := by cases loc <;> simp_all
          clear hok hl hres HA HST
          obtain ⟨rfl, hl2⟩ := hcl
          rcases hcase with h1 | ⟨h1, h2⟩
          all_goals
            go_wp2
            go_ret
            exact ⟨ret_int HRES.out.symm, B1.out.trans (ZA.out.mono B1.out.size)⟩
        · have hcl : loc = false ∨ (loc = true ∧ (y.pk == br) = false) := by cases loc <;> simp_all
          have hres : pickR it br loc 0 ys = pickR it br loc (if f = 0 then y.id else f) (ys.drop (k + 1)) := by rw [HA.out, HST.out, if_pos hok, if_neg hl]
          have HRES := hide hres
          clear hok hl hres HA HST
          by_cases hf : f = 0
          · subst hf
            rcases hcl with rfl | ⟨rfl, hl2⟩
            all_goals
              rcases hcase with h1 | ⟨h1, h2⟩
              all_goals
                go_wp2
                go_roundw
                case rel => exact ⟨k + 1, y.id, by omega, by go_num, rfl, ZA.out, by rw [HRES.out]; simp⟩
                case measure => simp [intOf]; omega
          · have hfb : (f == 0) = false := by simpa using hf
            have HNF := hide hf
            clear hf
            rcases hcl with rfl | ⟨rfl, hl2⟩
            all_goals
              rcases hcase with h1 | ⟨h1, h2⟩
              all_goals
                go_wp2
                go_roundw
                case rel => exact ⟨k + 1, f, by omega, by go_num, rfl, ZA.out, by rw [HRES.out, if_neg HNF.out]⟩
                case measure => simp [intOf]; omega
      · have hres : pickR it br loc 0 ys = pickR it br loc f (ys.drop (k + 1)) := by rw [HA.out, HST.out, if_neg hok]
        have HRES := hide hres
        have h12 : (y.itm != 0) = true ∧ (y.itm != it) = true := by
          unfold pkOK at hok
          cases h1 : (y.itm != 0) <;> cases h2 : (y.itm != it) <;> simp_all
        obtain ⟨h1, h2⟩ := h12
        clear hok hres HA HST
        go_wp2
        go_roundw
        case rel => exact ⟨k + 1, f, by omega, by go_num, rfl, ZA.out, HRES.out⟩
        case measure => simp [intOf]; omega
    · have hkz : ¬ (k : Int) < (ys.length : Int) := by omega
      go_wp2
      go_ret
      exact ⟨ret_int (by rw [HA.out, List.drop_eq_nil_of_le (by omega)]; rfl), B1.out.trans (Z1.out.mono B1.out.size)⟩
end Go.Proofs.Ytgjhjabnnhhkbaa
