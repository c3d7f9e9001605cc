/- Walks: queue of any number of holds; Queue of the reference. -/
import Derived.Test.YtgjhjabnnhhkbaaHoMgT
import Derived.Test.YtgjhjabnnhhkbaaHoS
namespace Go.Proofs.Ytgjhjabnnhhkbaa
open Go.RowKit

set_option maxHeartbeats 1000000 in
theorem stableNil_any (f : Nat) (cb : Array Value) (w : World) :
    Calls Try.prog 58 #[.slice none 0 0, .func (.func f) #[] cb] w fun e w' => e = .returned (.tuple #[]) ∧ Below w.heap.size w w' := by
  have ins : Calls Try.prog 62 #[.slice none 0 0, .int .i64 0, .int .i64 0, .func (.func f) #[] cb] w fun e w' => e = .returned (.tuple #[]) ∧ Below w.heap.size w w' := by
    go_enter Try.func62, Try.ntmps62
    go_wp2
    go_loop [8] (fun a => a = .int .i64 1) (fun _ => 0)
    case atStart => rfl
    case round =>
      obtain rfl := hrel
      go_wp2
      go_end0
      exact ⟨rfl, Below.refl _ _⟩
  have HI := hide ins
  have key : Calls Try.prog 61 #[.slice none 0 0, .int .i64 0, .func (.func f) #[] cb] w fun e w' => e = .returned (.tuple #[]) ∧ Below w.heap.size w w' := by
    clear ins
    go_enter Try.func61, Try.ntmps61
    go_wp2
    go_loop [7, 8] (fun a b => a = .int .i64 0 ∧ b = .int .i64 20) (fun _ _ => 0)
    case atStart => exact ⟨rfl, rfl⟩
    case round =>
      obtain ⟨rfl, rfl⟩ := hrel
      go_wp2_with fail
      refine HI.out.mono ?_
      rintro e w1 ⟨rfl, hs⟩
      have HS := hide hs
      clear hs HI
      go_wp2
      go_loop [6] (fun a => a = .int .i64 20) (fun _ => 0)
      case atStart => rfl
      case round =>
        obtain rfl := hrel
        go_wp2
        go_end0
        exact ⟨rfl, HS.out⟩
  have HK := hide key
  clear key ins HI
  go_enter Try.func58, Try.ntmps58
  go_wp2_with fail
  refine HK.out.mono ?_
  rintro e w1 ⟨rfl, hs⟩
  go_wp2
  go_end0
  exact ⟨rfl, hs⟩

set_option maxRecDepth 100000 in
set_option maxHeartbeats 2000000 in
theorem queueNil_any (A : Option Addr) (n c : Nat) (xs : List Ho) (rcd day : Int) (w : World) (hs : Hos w w.heap.size A n c xs) (hn : n ≤ 1000) (hno : ∀ x ∈ xs, inQ rcd day x = false) :
    Calls Try.prog 43 #[.slice A n c, .int .i64 rcd, .int .i64 day] w fun e w' => ∃ v, e = .returned v ∧ Hoo w' w.heap.size v [] ∧ Below w.heap.size w w' := by
  obtain rfl := hs.len
  have hle := hs.le
  have hbig := hs.big
  have HS := hide hs
  have HNO := hide hno
  have HSN := hide (fun f cb w => stableNil_any f cb w)
  clear hs hno
  go_enter Try.func43, Try.ntmps43
  go_wp2
  go_loopw [7, 12] (fun v s12 wr => ∃ k : Nat, k ≤ xs.length ∧ s12 = .int .i64 k ∧ v = .slice none 0 0 ∧ Below w.heap.size w wr) (fun _ s12 _ => xs.length - (intOf s12).toNat)
  case atStart => exact ⟨0, Nat.zero_le _, rfl, rfl, Below.refl _ _⟩
  case round =>
    obtain ⟨k, hk, rfl, rfl, hb⟩ := hrel
    have HB := hide hb
    have hz := hb.size
    clear hb
    by_cases hlt : k < xs.length
    · obtain ⟨b, off, x, rfl, hbB, hx, c0, c1, c2, c3, c4, c5, c6, c7, c8, c9, c10⟩ := Hos_at (HS.out.below HB.out) hlt
      have HBW := hide (HB.out.alloc hz (.cells (hoC x) 47))
      have hkz : (k : Int) < (xs.length : Int) := by omega
      have hp2 := HNO.out x (List.mem_of_getElem? hx)
      unfold inQ at hp2
      have hcase : (x.rcd == rcd) = false ∨ ((x.rcd == rcd) = true ∧ (x.st == 1) = false) ∨ ((x.rcd == rcd) = true ∧ (x.st == 1) = true ∧ decide (x.slp ≤ day) = false) := by
        cases h1 : (x.rcd == rcd) <;> cases h2 : (x.st == 1) <;> cases h3 : decide (x.slp ≤ day) <;> simp_all
      clear hp2 hx
      rcases hcase with h1 | ⟨h1, h2⟩ | ⟨h1, h2, h3⟩
      all_goals
        go_wp2
        go_roundw
        case rel => exact ⟨k + 1, by omega, by go_num, rfl, HBW.out⟩
        case measure => simp [intOf]; omega
    · go_wp2_with fail
      refine (HSN.out _ _ _).mono ?_
      rintro e w2 ⟨rfl, hb⟩
      have HB2 := hide (HB.out.trans (hb.mono HB.out.size))
      clear hb
      go_wp2
      go_ret
      exact ⟨_, rfl, World.ownsRow_nil _ _ _ _, HB2.out⟩
/-- The queue on a record. -/
def queH (xs : List Ho) (rcd day : Int) : List Ho := isorth cfQ (filQ xs rcd day)
theorem queH_len (xs : List Ho) (rcd day : Int) : (queH xs rcd day).length ≤ xs.length := by
  unfold queH; rw [isorth_len]; exact List.length_filter_le _ _
theorem queD_all {xs : List Ho} {rcd day : Int} (hr : ∀ x ∈ xs, 0 ≤ x.rnk ∧ x.rnk ≤ 9) (hn : xs.length ≤ 1000) : QueD xs (queH xs rcd day) rcd day := fun A c w hs => by
  rcases Nat.eq_zero_or_pos (filQ xs rcd day).length with h0 | h0
  · have h1 : filQ xs rcd day = [] := List.length_eq_zero_iff.1 h0
    have h2 : queH xs rcd day = [] := by unfold queH; rw [h1]; rfl
    rw [h2]
    refine queueNil_any A _ c xs rcd day w hs hn (fun x hx => ?_)
    unfold filQ at h1
    have := List.filter_eq_nil_iff.1 h1 x hx
    simpa using this
  · exact queue_any A _ c xs _ rcd day w hs hn (sorts_all (fun x hx => hr x (List.mem_filter.1 hx).1) (Nat.le_trans (List.length_filter_le _ _) hn)) h0 (isorth_len _ _)

/-! ### the reference's queue: rank by rank -/
def rnkB (rcd day r : Int) (x : Ho) : Bool := inQ rcd day x && x.rnk == r
def rkL (xs : List Ho) (rcd day : Int) : Nat → List Ho
  | 0 => []
  | j + 1 => rkL xs rcd day j ++ xs.filter (rnkB rcd day (9 - (j : Int)))
def rkT (xs : List Ho) (rcd day r : Int) (P : List Ho) (k : Nat) : List Int := (P ++ (xs.take k).filter (rnkB rcd day r)).map (·.id)
theorem rkT_step {xs : List Ho} {rcd day r : Int} {P : List Ho} {k : Nat} {x : Ho} (h : xs[k]? = some x) : rkT xs rcd day r P (k + 1) = rkT xs rcd day r P k ++ (if rnkB rcd day r x = true then [x.id] else []) := by
  unfold rkT
  rw [take_step h, List.filter_append, ← List.append_assoc, List.map_append]
  congr 1
  cases h : rnkB rcd day r x <;> simp [h]
theorem rkT_len (xs : List Ho) (rcd day r : Int) (P : List Ho) (k : Nat) : (rkT xs rcd day r P k).length ≤ P.length + k := by
  unfold rkT; rw [List.length_map, List.length_append]
  have h1 := List.length_filter_le (rnkB rcd day r) (xs.take k)
  have h2 := List.length_take_le k xs
  omega
theorem rkL_len (xs : List Ho) (rcd day : Int) : ∀ j, (rkL xs rcd day j).length ≤ j * xs.length
  | 0 => by simp [rkL]
  | j + 1 => by
    have := rkL_len xs rcd day j
    have h1 := List.length_filter_le (rnkB rcd day (9 - (j : Int))) xs
    rw [rkL, List.length_append, Nat.add_mul]; omega
theorem rkL_all {xs : List Ho} {rcd day : Int} {j k : Nat} (hk : xs.length ≤ k) : rkT xs rcd day (9 - (j : Int)) (rkL xs rcd day j) k = idsH (rkL xs rcd day (j + 1)) := by
  unfold rkT idsH; rw [rkL, List.take_of_length_le hk]
theorem rkL_std (xs : List Ho) (rcd day : Int) : ∀ j : Nat, Std (rkL xs rcd day j) ∧ ∀ x ∈ rkL xs rcd day j, 9 - (j : Int) < x.rnk
  | 0 => ⟨List.Pairwise.nil, by simp [rkL]⟩
  | j + 1 => by
    obtain ⟨h1, h2⟩ := rkL_std xs rcd day j
    have h3 : ∀ x ∈ xs.filter (rnkB rcd day (9 - (j : Int))), x.rnk = 9 - (j : Int) := by
      intro x hx
      have := (List.mem_filter.1 hx).2
      unfold rnkB at this
      rw [Bool.and_eq_true] at this
      simpa using this.2
    constructor
    · refine h1.app (List.Pairwise.imp_of_mem (fun {a b} ha hb _ => ?_) (List.pairwise_of_forall (fun _ _ => trivial))) (fun a ha b hb => ?_)
      · rw [h3 a ha, h3 b hb]; exact Int.le_refl _
      · have := h2 a ha; have := h3 b hb; omega
    · intro x hx
      rcases List.mem_append.1 hx with hx | hx
      · have := h2 x hx; omega
      · have := h3 x hx; omega
theorem rkL_fil (xs : List Ho) (rcd day : Int) (r : Int) : ∀ j : Nat, (rkL xs rcd day j).filter (fun x => x.rnk == r) = if 9 - (j : Int) < r ∧ r ≤ 9 then (filQ xs rcd day).filter (fun x => x.rnk == r) else []
  | 0 => by rw [if_neg (by omega)]; rfl
  | j + 1 => by
    rw [rkL, List.filter_append, rkL_fil xs rcd day r j, List.filter_filter]
    by_cases e : r = 9 - (j : Int)
    · rw [if_neg (by omega), if_pos (by omega), List.nil_append]
      unfold filQ
      rw [List.filter_filter]
      refine List.filter_congr (fun x _ => ?_)
      unfold rnkB
      subst e
      cases inQ rcd day x <;> cases (x.rnk == 9 - (j : Int)) <;> rfl
    · have h0 : xs.filter (fun x => x.rnk == r && rnkB rcd day (9 - (j : Int)) x) = [] := by
        rw [List.filter_eq_nil_iff]
        intro x _ hx
        unfold rnkB at hx
        rw [Bool.and_eq_true, Bool.and_eq_true] at hx
        simp at hx
        omega
      rw [h0, List.append_nil]
      by_cases h1 : 9 - (j : Int) < r ∧ r ≤ 9
      · rw [if_pos h1, if_pos (by omega)]
      · rw [if_neg h1, if_neg (by omega)]
theorem rkL_que {xs : List Ho} {rcd day : Int} (hr : ∀ x ∈ xs, 0 ≤ x.rnk ∧ x.rnk ≤ 9) : rkL xs rcd day 10 = queH xs rcd day := by
  refine isorth_uniq (rkL_std xs rcd day 10).1 (fun r => ?_)
  rw [rkL_fil]
  split
  · rfl
  · rename_i h
    symm
    rw [List.filter_eq_nil_iff]
    intro x hx hxr
    have := hr x (List.mem_filter.1 hx).1
    simp at hxr
    omega

set_option maxRecDepth 100000 in
set_option maxHeartbeats 4000000 in
theorem rQueue_any (A : Option Addr) (n c : Nat) (xs : List Ho) (rcd day : Int) (w : World) (hs : Hos w w.heap.size A n c xs) (hr : ∀ x ∈ xs, 0 ≤ x.rnk ∧ x.rnk ≤ 9) (hn : n ≤ 1000) :
    Calls Try.prog 17 #[.slice A n c, .int .i64 rcd, .int .i64 day] w fun e w' => ∃ v, e = .returned v ∧ Ino w' w.heap.size v (idsH (queH xs rcd day)) ∧ Below w.heap.size w w' := by
  obtain ⟨i0, hi0, hz0, hz1, hz2⟩ := info_parts int_info
  have HI := hide (And.intro hi0 (And.intro hz0 (And.intro hz1 hz2)))
  rw [← rkL_que hr]
  obtain rfl := hs.len
  have hle := hs.le
  have hbig := hs.big
  have HS := hide hs
  clear hi0 hz0 hz1 hz2 hs hr
  go_enter Try.func17, Try.ntmps17
  go_wp2
  go_loopw [7, 8] (fun v s8 wr => ∃ (j : Nat) (r : Int), j ≤ 10 ∧ r = 9 - (j : Int) ∧ s8 = .int .i64 r ∧ Ino wr w.heap.size v (idsH (rkL xs rcd day j)) ∧ Below w.heap.size w wr) (fun _ s8 _ => (intOf s8 + 1).toNat)
  case atStart => exact ⟨0, 9, by omega, by omega, rfl, World.ownsRow_nil _ _ _ _, Below.refl _ _⟩
  case round =>
    obtain ⟨j, r, hj, hjr, rfl, ho, hb⟩ := hrel
    have HJR := hide hjr
    have HO := hide ho
    have HB := hide hb
    clear hjr ho hb
    by_cases hr0 : 0 ≤ r
    · have hr9 : r ≤ 9 := by have := HJR.out; omega
      obtain ⟨P, hP⟩ : ∃ P, rkL xs rcd day j = P := ⟨_, rfl⟩
      have hPl : P.length ≤ 10 * 1000 := by
        have h1 := rkL_len xs rcd day j
        have h2 : j * xs.length ≤ 10 * 1000 := Nat.mul_le_mul (by omega) hn
        rw [← hP]; omega
      have h0 : rkT xs rcd day r P 0 = idsH P := by unfold rkT idsH; simp
      rw [hP, ← h0] at HO
      have HP := hide hP
      clear hP h0
      go_wp2
      go_loopw [7, 9] (fun v s9 wr => ∃ k : Nat, k ≤ xs.length ∧ s9 = .int .i64 k ∧ Ino wr w.heap.size v (rkT xs rcd day r P k) ∧ Below w.heap.size w wr) (fun _ s9 _ => xs.length - (intOf s9).toNat)
      case atStart => exact ⟨0, Nat.zero_le _, rfl, HO.out, HB.out⟩
      case round =>
        obtain ⟨k, hk, rfl, ho, hb⟩ := hrel
        have HO2 := hide ho
        have HB2 := hide hb
        have hz := hb.size
        have HL := hide (rkT_len xs rcd day r P k)
        clear ho hb HO HB
        by_cases hlt : k < xs.length
        · obtain ⟨b, off, y, rfl, hbB, hy, c0, c1', c2, c3, c4, c5, c6, c7, c8, c9, c10⟩ := Hos_at (HS.out.below HB2.out) hlt
          have hst := rkT_step (rcd := rcd) (day := day) (r := r) (P := P) hy
          have HBW := hide (HB2.out.alloc hz (.cells (hoC y) 47))
          have hkz : (k : Int) < (xs.length : Int) := by omega
          by_cases hp : rnkB rcd day r y = true
          · rw [if_pos hp] at hst
            have HST := hide hst
            have hp2 : (y.st == 1) = true ∧ (y.rcd == rcd) = true ∧ y.slp ≤ day ∧ (y.rnk == r) = true := by
              unfold rnkB inQ at hp
              rw [Bool.and_eq_true, Bool.and_eq_true, Bool.and_eq_true] at hp
              exact ⟨hp.1.1.2, hp.1.1.1, by simpa using hp.1.2, hp.2⟩
            obtain ⟨p1, p2, p3, p4⟩ := hp2
            have HSRC := hide (fun w' g (z : Int) (h : Box w' g 3 #[.int .i64 z]) => in_sl1 h)
            have hown2 : ∀ o o', ((wr.alloc o).alloc o').ownsRow w.heap.size 3 1 u7 (rkT xs rcd day r P k).length ((rkT xs rcd day r P k).flatMap inE) := fun o o' => (HO2.out.alloc o).alloc o'
            have HOW := hide hown2
            have hbn : ∀ u, Box ((wr.alloc (.cells (hoC y) 47)).alloc (.cells #[u] 3)) (wr.heap.size + 1) 3 #[u] := by
              intro u; have := Box.new (wr.alloc (.cells (hoC y) 47)) 3 #[u]; rwa [World.size_alloc] at this
            have HBN := hide hbn
            clear hy hst hp hown2 hbn
            go_wp2_with (at_builtin; go_must (refine wpList_append_sl _ rfl _ _ 28 rfl w.heap.size 3 i0 _ 8 Try.underlying28 HI.out.1 HI.out.2.1 HI.out.2.2.1 HI.out.2.2.2 rfl (by decide) inE_len inE_one _ _ _ rfl (HOW.out _ _) _ 1 1 rfl (HSRC.out _ _ y.id (HBN.out _)) (by have := HL.out; unfold maxLen; omega) (by have := HL.out; omega) (by simp; omega) ?_))
            intro v' w2 hown hg hat
            have H5 := hide hown
            have H6 := hide ((HBW.out.alloc (by simp; omega) _).grown hg (by simp; omega) (by intro q hq; exact (HO2.out.lt q hq).1))
            clear hown hg hat
            go_wp2
            go_roundw
            case rel =>
              refine ⟨k + 1, by omega, by go_num, ?_, H6.out⟩
              unfold Ino
              rw [HST.out, List.flatMap_append, List.length_append]
              simpa using H5.out
            case measure => simp [intOf]; omega
          · rw [if_neg hp, List.append_nil] at hst
            have HST := hide hst
            have hcase : (y.st == 1) = false ∨ ((y.st == 1) = true ∧ (y.rcd == rcd) = false) ∨ ((y.st == 1) = true ∧ (y.rcd == rcd) = true ∧ ¬ y.slp ≤ day) ∨ ((y.st == 1) = true ∧ (y.rcd == rcd) = true ∧ y.slp ≤ day ∧ (y.rnk == r) = false) := by
              unfold rnkB inQ at hp
              cases h1 : (y.st == 1) <;> cases h2 : (y.rcd == rcd) <;> by_cases h3 : y.slp ≤ day <;> cases h4 : (y.rnk == r) <;> simp_all
            clear hy hst hp
            rcases hcase with h1 | ⟨h1, h2⟩ | ⟨h1, h2, h3⟩ | ⟨h1, h2, h3, h4⟩
            all_goals
              go_wp2
              go_roundw
              case rel =>
                refine ⟨k + 1, by omega, by go_num, ?_, HBW.out⟩
                unfold Ino
                rw [HST.out]
                exact HO2.out.alloc _
              case measure => simp [intOf]; omega
        · have hkz : ¬ (k : Int) < (xs.length : Int) := by omega
          have he : rkT xs rcd day r P k = idsH (rkL xs rcd day (j + 1)) := by rw [HJR.out, ← HP.out]; exact rkL_all (by omega)
          have HE := hide he
          clear he
          go_wp2
          go_roundw
          case rel => exact ⟨j + 1, r - 1, by have := HJR.out; omega, by have := HJR.out; omega, by go_num, by rw [← HE.out]; exact HO2.out, HB2.out⟩
          case measure => have e : IntKind.i64.wrap (r - 1) = r - 1 := (by rw [IntKind.wrap_i64]; omega); simp [intOf, e]; omega
    · have hj10 : j = 10 := by have := HJR.out; omega
      rw [hj10] at HO
      have HO2 := hide HO.out
      clear hj10 HO
      go_wp2
      go_ret
      exact ⟨_, rfl, HO2.out, HB.out⟩
end Go.Proofs.Ytgjhjabnnhhkbaa
