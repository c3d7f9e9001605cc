/- Walks: loop. -/
import Derived.Test.YtbcapljiangjcaaFuI
namespace Go.Proofs.Ytbcapljiangjcaa
open Go.RowKit Go.Maps

theorem upF_in : ∀ (xs : List Fu) (f : Int → Int) (P : Int → Prop), (∀ y, P (f y)) → (∀ x ∈ xs, P x.parent) → ∀ y, P (xs.foldl (fun f x => fun y => if y = x.id then x.parent else f y) f y)
  | [], _, _, hf, _, y => hf y
  | x :: r, f, P, hf, hx, y => by
    rw [List.foldl_cons]
    refine upF_in r _ P (fun z => ?_) (fun z hz => hx z (by simp [hz])) y
    by_cases e : z = x.id
    · simp only [e, if_true]; exact hx x (by simp)
    · simp only [e, if_false]; exact hf z
theorem upF_I64 {xs : List Fu} (h : ∀ x ∈ xs, FuW x) (y : Int) : I64 (upF xs y) :=
  upF_in xs _ I64 (fun _ => ⟨by omega, by omega⟩) (fun x hx => (h x hx).parent) y

def loopR (xs : List Fu) : Bool := xs.any (fun f => lpR (upF xs) (xs.length + 1) f.parent)

theorem any_step {α : Type} {p : α → Bool} {xs : List α} {k : Nat} {x : α} (h : xs[k]? = some x) : (xs.drop k).any p = (p x || (xs.drop (k + 1)).any p) := by
  obtain ⟨hk, rfl⟩ := List.getElem?_eq_some_iff.1 h
  rw [List.drop_eq_getElem_cons hk, List.any_cons]

set_option maxHeartbeats 400000 in
theorem loop_any (A : Option Addr) (n c : Nat) (xs : List Fu) (w : World) (hs : Fs w w.heap.size A n c xs) (hw : ∀ x ∈ xs, FuW x) :
    Calls Try.prog 51 #[.slice A n c] w fun e w' => e = .returned (.bool (loopR xs)) ∧ Below w.heap.size w w' := by
  obtain rfl := hs.len
  have hle := hs.le
  have hbig := hs.big
  have hpar := parents_any A xs.length c xs w hs (fun x hx => (hw x hx).id)
  have hup := upF_I64 hw
  have HS := hide hs
  have HW := hide hw
  have HP := hide hpar
  have HU := hide hup
  clear hs hw hpar hup
  go_enter Try.func51, Try.ntmps51
  go_wp2_with fail
  refine HP.out.mono ?_
  rintro e w1 ⟨mb, rfl, hmb, hmap, hb1⟩
  have HM := hide hmap
  have HB1 := hide hb1
  have hz1 := hb1.size
  have hml := hmap.lt
  clear hmap hb1
  go_wp2
  go_loopw [12] (fun i wr => ∃ k : Nat, k ≤ xs.length ∧ i = .int .i64 k ∧ Below w1.heap.size w1 wr ∧ loopR xs = (xs.drop k).any (fun f => lpR (upF xs) (xs.length + 1) f.parent)) (fun i _ => xs.length - (intOf i).toNat)
  case atStart => exact ⟨0, Nat.zero_le _, rfl, Below.refl _ _, rfl⟩
  case round =>
    obtain ⟨k, hk, rfl, hb, ha⟩ := hrel
    have HA := hide ha
    have HB := hide hb
    have hz := hb.size
    clear ha hb
    by_cases hlt : k < xs.length
    · obtain ⟨b, off, x, rfl, hbB, hx, c0, c1, c2, c3, c4⟩ := Fs_at (HS.out.below (HB1.out.trans (HB.out.mono hz1))) hlt
      have hxw := HW.out x (List.mem_of_getElem? hx)
      have HX := hide (any_step (p := fun f => lpR (upF xs) (xs.length + 1) f.parent) hx)
      have hxp := hxw.parent
      have HXP := hide hxp
      clear hx hxw hxp
      go_wp2
      have hmw : MapI Try.prog 3 (wr.alloc (.cells #[.int .i64 x.id, .int .i64 x.parent, .int .i64 x.budget, .int .i64 x.enc, .int .i64 x.spent] 26)) mb xs.length (.int .i64 0) (fun y => .int .i64 (upF xs y)) := (HM.out.below HB.out hml).alloc _
      have hbw := HB.out.alloc hz (.cells #[.int .i64 x.id, .int .i64 x.parent, .int .i64 x.budget, .int .i64 x.enc, .int .i64 x.spent] 26)
      clear c0 c1 c2 c3 c4
      obtain ⟨wo, hwo⟩ : ∃ wo : World, wo = wr.alloc (.cells #[.int .i64 x.id, .int .i64 x.parent, .int .i64 x.budget, .int .i64 x.enc, .int .i64 x.spent] 26) := ⟨_, rfl⟩
      rw [← hwo] at hmw hbw ⊢
      clear hwo
      have HMW := hide hmw
      have HBW := hide hbw
      clear hmw hbw
      go_loop [6, 7] (fun d s => ∃ (j : Nat) (id' : Int), j ≤ xs.length + 1 ∧ s = .int .i64 j ∧ d = .int .i64 id' ∧ I64 id' ∧ lpR (upF xs) (xs.length + 1) x.parent = lpR (upF xs) (xs.length + 1 - j) id') (fun _ s => xs.length + 1 - (intOf s).toNat)
      case atStart => exact ⟨0, x.parent, by omega, rfl, rfl, HXP.out, rfl⟩
      case round =>
        obtain ⟨j, id', hj, rfl, rfl, hid, hl⟩ := hrel
        have HL := hide hl
        have HI := hide hid
        clear hl hid
        by_cases h0 : id' = 0
        · subst h0
          go_wp2
          go_roundw
          case rel => 
            refine ⟨k + 1, by omega, by go_num, HBW.out, ?_⟩
            rw [HA.out, HX.out, HL.out]
            cases hjj : xs.length + 1 - j <;> simp [lpR]
          case measure => simp [intOf]; omega
        · have h0' : (id' == 0) = false := by simpa using h0
          have h0'' : (id' != 0) = true := by simpa using h0
          have H0 := hide h0
          clear h0
          by_cases hjn : xs.length < j
          · go_wp2
            go_ret
            refine ⟨ret_bool ?_, HB1.out.trans (HBW.out.mono hz1)⟩
            rw [HA.out, HX.out, HL.out, show xs.length + 1 - j = 0 from by omega]
            simp [lpR, H0.out]
          · go_wp2_with (at_lookup; go_must (refine wpList_lookupI _ rfl _ _ 48 rfl 3 3 Try.underlying3 Try.underlying48 (.int .i64 0) (zero_int _) mb _ _ rfl HMW.out _ rfl (wf64 HI.out) ?_))
            go_round
            case rel =>
              refine ⟨j + 1, upF xs id', by omega, by go_num, rfl, HU.out id', ?_⟩
              rw [HL.out, show xs.length + 1 - j = (xs.length + 1 - (j + 1)) + 1 from by omega, lpR, if_neg H0.out]
            case measure => simp [intOf]; omega
    · go_wp2
      go_ret
      exact ⟨ret_bool (by rw [HA.out, List.drop_eq_nil_of_le (by omega)]; rfl), HB1.out.trans (HB.out.mono hz1)⟩
end Go.Proofs.Ytbcapljiangjcaa
