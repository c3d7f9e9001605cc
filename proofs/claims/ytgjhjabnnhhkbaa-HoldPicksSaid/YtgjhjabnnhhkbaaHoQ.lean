/- Walks: queue. -/
import Derived.Test.YtgjhjabnnhhkbaaHoH
import Derived.Test.YtgjhjabnnhhkbaaHoSort
namespace Go.Proofs.Ytgjhjabnnhhkbaa
open Go.RowKit

def inQ (rcd day : Int) (x : Ho) : Bool := x.rcd == rcd && x.st == 1 && decide (x.slp ≤ day)
def filQ (xs : List Ho) (rcd day : Int) : List Ho := xs.filter (inQ rcd day)
def cfQ (a b : Ho) : Int := b.rnk - a.rnk
theorem filQ_snoc {xs : List Ho} {k : Nat} {x : Ho} {rcd day : Int} (h : xs[k]? = some x) : filQ (xs.take (k + 1)) rcd day = filQ (xs.take k) rcd day ++ (if inQ rcd day x = true then [x] else []) := by
  unfold filQ
  rw [take_step h, List.filter_append]
  congr 1
  cases h : inQ rcd day x <;> simp [h]
theorem filQ_len (xs : List Ho) (k : Nat) (rcd day : Int) : (filQ (xs.take k) rcd day).length ≤ k := Nat.le_trans (List.length_filter_le _ _) (List.length_take_le _ _)

theorem queue1_any (a b : Ho) (w : World) (ha : 0 ≤ a.rnk ∧ a.rnk ≤ 9) (hb : 0 ≤ b.rnk ∧ b.rnk ≤ 9) : Calls Try.prog 59 #[hoV a, hoV b] w fun e w' => e = .returned (.int .i64 (cfQ a b)) ∧ Below w.heap.size w w' := by
  have B2 := hide (((Below.refl w.heap.size w).alloc (Nat.le_refl _) (.cells (hoC a) 47)).alloc (by simp) (.cells (hoC b) 47))
  have hw : IntKind.i64.wrap (b.rnk - a.rnk) = b.rnk - a.rnk := by rw [IntKind.wrap_i64]; omega
  unfold hoV
  go_enter Try.func59, Try.ntmps59
  go_wp2
  go_ret
  exact ⟨rfl, B2.out⟩
theorem e_queue1 : ∀ args w, (callFunc 59 args).run Try.prog w = .ok (.enter 59 args) w := enters_of Try.func59 (by kernel_rfl) rfl

/-- What the sort does to a list in a row. -/
def SortsTo (ds ys : List Ho) : Prop := ∀ (tl : List Value) (g cap : Nat) (w0 w : World), SWh w0 g tl ds w → ds.length ≤ cap →
  Calls Try.prog 58 #[.slice (some ⟨g, 0, none⟩) ds.length cap, .func (.func 59) #[] #[]] w fun e w' => e = .returned (.tuple #[]) ∧ SWh w0 g tl ys w'
theorem sorts_small {ds : List Ho} (hr : ∀ x ∈ ds, 0 ≤ x.rnk ∧ x.rnk ≤ 9) (hn : ds.length < 20) : SortsTo ds (isorth cfQ ds) := fun tl g cap w0 w hs hcap =>
  stableh_any 59 #[] cfQ (fun x => 0 ≤ x.rnk ∧ x.rnk ≤ 9) tl g cap ds w0 w e_queue1 (fun W x y hx hy _ _ => queue1_any x y W hx hy) hs hr hcap hn

set_option maxRecDepth 100000 in
set_option maxHeartbeats 2000000 in
theorem queue_any (A : Option Addr) (n c : Nat) (xs ys : List Ho) (rcd day : Int) (w : World) (hs : Hos w w.heap.size A n c xs) (hn : n ≤ 1000) (hso : SortsTo (filQ xs rcd day) ys) (hne : 0 < (filQ xs rcd day).length) (hyl : ys.length = (filQ xs rcd day).length) :
    Calls Try.prog 43 #[.slice A n c, .int .i64 rcd, .int .i64 day] w fun e w' => ∃ v, e = .returned v ∧ Hoo w' w.heap.size v ys ∧ Below w.heap.size w w' := by
  obtain ⟨i0, hi, hz0, hz1, hz2⟩ := info_parts ho_info
  obtain rfl := hs.len
  have hle := hs.le
  have hbig := hs.big
  have HS := hide hs
  have HI := hide (And.intro hi (And.intro hz0 (And.intro hz1 hz2)))
  have HSO := hide hso
  have HNE := hide hne
  have HYL := hide hyl
  clear hs hi hz0 hz1 hz2 hso hne hyl
  go_enter Try.func43, Try.ntmps43
  go_wp2
  go_loopw [7, 12] (fun v s12 wr => ∃ k : Nat, k ≤ xs.length ∧ s12 = .int .i64 k ∧ Hoo wr w.heap.size v (filQ (xs.take k) rcd day) ∧ Below w.heap.size w wr) (fun _ s12 _ => xs.length - (intOf s12).toNat)
  case atStart => exact ⟨0, Nat.zero_le _, rfl, World.ownsRow_nil _ _ _ _, Below.refl _ _⟩
  case round =>
    obtain ⟨k, hk, rfl, ho, hb⟩ := hrel
    have HO := hide ho
    have HB := hide hb
    have hz := hb.size
    clear ho hb
    by_cases hlt : k < xs.length
    · obtain ⟨b, off, x, rfl, hbB, hx, c0, c1, c2, c3, c4, c5, c6, c7, c8, c9, c10⟩ := Hos_at (HS.out.below HB.out) hlt
      have hst := filQ_snoc (rcd := rcd) (day := day) hx
      have HBW := hide (HB.out.alloc hz (.cells (hoC x) 47))
      have hlen := filQ_len xs k rcd day
      have hkz : (k : Int) < (xs.length : Int) := by omega
      by_cases hp : inQ rcd day x = true
      · rw [if_pos hp] at hst
        have HST := hide hst
        have hp2 := hp
        unfold inQ at hp2
        rw [Bool.and_eq_true, Bool.and_eq_true] at hp2
        obtain ⟨⟨p1, p2⟩, p3⟩ := hp2
        have hsrc : ∀ w', Box w' (wr.heap.size + 1) 47 (hoC x) → Hos w' (wr.heap.size + 1 + 1) (some ⟨wr.heap.size + 1, 0, none⟩) 1 1 [x] := fun w' h => ho_sl1 h
        have HSRC := hide hsrc
        have hown2 : ∀ o o', ((wr.alloc o).alloc o').ownsRow w.heap.size 47 11 u7 (filQ (xs.take k) rcd day).length ((filQ (xs.take k) rcd day).flatMap hoE) := fun o o' => (HO.out.alloc o).alloc o'
        have HO2 := hide hown2
        clear hx hst hp hsrc hown2
        go_wp2_with (at_builtin; go_must (refine wpList_append_sl _ rfl _ _ 22 rfl w.heap.size 47 i0 _ 88 Try.underlying22 HI.out.1 HI.out.2.1 HI.out.2.2.1 HI.out.2.2.2 rfl (by decide) hoE_len hoE_one _ _ _ rfl (HO2.out _ _) _ 1 1 rfl (HSRC.out _ (by have := Box.new (wr.alloc (.cells (hoC x) 47)) 47 (hoC x); rwa [World.size_alloc] at this)) (by unfold maxLen; omega) (by omega) (by simp; omega) ?_))
        intro v' w1 hown hg hat
        have H1 := hide hown
        have H2 := hide (((HBW.out.alloc (by simp; omega) _).grown hg (by simp; omega) (by intro q hq; exact (HO.out.lt q hq).1)))
        clear hown hg hat
        go_wp2
        go_roundw
        case rel =>
          refine ⟨k + 1, by omega, by go_num, ?_, H2.out⟩
          unfold Hoo
          rw [HST.out, List.flatMap_append, List.length_append]
          exact H1.out
        case measure => simp [intOf]; omega
      · rw [if_neg hp, List.append_nil] at hst
        have HST := hide hst
        have hp2 : inQ rcd day x = false := by simpa using hp
        unfold inQ at hp2
        clear hx hst hp
        have hcase : (x.rcd == rcd) = false ∨ ((x.rcd == rcd) = true ∧ (x.st == 1) = false) ∨ ((x.rcd == rcd) = true ∧ (x.st == 1) = true ∧ decide (x.slp ≤ day) = false) := by
          cases h1 : (x.rcd == rcd) <;> cases h2 : (x.st == 1) <;> cases h3 : decide (x.slp ≤ day) <;> simp_all
        clear hp2
        rcases hcase with h1 | ⟨h1, h2⟩ | ⟨h1, h2, h3⟩
        all_goals
          go_wp2
          go_roundw
          case rel =>
            refine ⟨k + 1, by omega, by go_num, ?_, HBW.out⟩
            unfold Hoo
            rw [HST.out]
            exact HO.out.alloc _
          case measure => simp [intOf]; omega
    · have hkx : xs.take k = xs := List.take_of_length_le (by omega)
      have ho := HO.out
      rw [hkx] at ho
      clear HO hkx
      rcases own_box ho with ⟨_, h0⟩ | ⟨g, cap, cur, rfl, hbg, hB, hnc, hcm, hcs, htk⟩
      · have := HNE.out; omega
      · have hsw : SWh wr g (cur.toList.drop ((filQ xs rcd day).length * 11)) (filQ xs rcd day) wr := by
          refine ⟨?_, Below.refl _ _⟩
          rw [← htk, List.take_append_drop]
          exact hB
        have HC := hide (HSO.out _ g cap wr wr hsw hnc)
        have htl : (cur.toList.drop ((filQ xs rcd day).length * 11)).length = cap * 11 - (filQ xs rcd day).length * 11 := by rw [List.length_drop, Array.length_toList, hcs]
        have HTL := hide htl
        have HBG := hide hbg
        clear ho hB hcs htk hsw htl
        go_wp2_with fail
        refine HC.out.mono ?_
        rintro e w2 ⟨rfl, hs2⟩
        have HS2 := hide hs2
        clear hs2 HC
        go_wp2
        go_ret
        refine ⟨_, rfl, ?_, HB.out.trans (HS2.out.old.mono HBG.out)⟩
        unfold Hoo
        rw [HYL.out]
        have hfl : (ys.flatMap hoE).length = (filQ xs rcd day).length * 11 := by rw [flat_len hoE_len, HYL.out]
        have hm : (filQ xs rcd day).length * 11 ≤ cap * 11 := Nat.mul_le_mul_right 11 hnc
        refine HS2.out.box.own HBG.out hnc hcm ?_ ?_
        · rw [List.size_toArray, List.length_append, hfl, HTL.out]; omega
        · show (ys.flatMap hoE ++ _).take _ = _
          rw [List.take_append_of_le_length (by omega), List.take_of_length_le (by omega)]
end Go.Proofs.Ytgjhjabnnhhkbaa
