/- Walks: Queue, Position, Pick, Expired of hold. -/
import Derived.Test.YtgjhjabnnhhkbaaHoQ
import Derived.Test.YtgjhjabnnhhkbaaHoN
namespace Go.Proofs.Ytgjhjabnnhhkbaa
open Go.RowKit

def idsT (ys : List Ho) (k : Nat) : List Int := (ys.take k).map (·.id)
def idsH (ys : List Ho) : List Int := ys.map (·.id)
theorem ids_step {ys : List Ho} {k : Nat} {y : Ho} (h : ys[k]? = some y) : idsT ys (k + 1) = idsT ys k ++ [y.id] := by
  unfold idsT; rw [take_step h, List.map_append]; rfl
theorem ids_all {ys : List Ho} {k : Nat} (h : ys.length ≤ k) : idsT ys k = idsH ys := by
  unfold idsT idsH; rw [List.take_of_length_le h]
theorem ids_len {ys : List Ho} {k : Nat} (h : k ≤ ys.length) : (idsT ys k).length = k := by
  unfold idsT; rw [List.length_map, List.length_take]; omega
/-- What queue does: the order of the filled holds. -/
def QueD (xs ys : List Ho) (rcd day : Int) : Prop := ∀ (A : Option Addr) (c : Nat) (w : World), Hos w w.heap.size A xs.length c xs →
  Calls Try.prog 43 #[.slice A xs.length c, .int .i64 rcd, .int .i64 day] w fun e w' => ∃ v, e = .returned v ∧ Hoo w' w.heap.size v ys ∧ Below w.heap.size w w'
theorem queD_small {xs : List Ho} {rcd day : Int} (hr : ∀ x ∈ xs, 0 ≤ x.rnk ∧ x.rnk ≤ 9) (hn : xs.length ≤ 1000) (h0 : 0 < (filQ xs rcd day).length) (h1 : (filQ xs rcd day).length < 20) : QueD xs (isorth cfQ (filQ xs rcd day)) rcd day := fun A c w hs =>
  queue_any A _ c xs _ rcd day w hs hn (sorts_small (fun x hx => hr x (List.mem_filter.1 hx).1) h1) h0 (isorth_len _ _)

set_option maxRecDepth 100000 in
set_option maxHeartbeats 2000000 in
theorem hQueue_any (A : Option Addr) (n c : Nat) (xs ys : List Ho) (rcd day : Int) (w : World) (hs : Hos w w.heap.size A n c xs) (hq : QueD xs ys rcd day) (hn : ys.length ≤ 1000) :
    Calls Try.prog 16 #[.slice A n c, .int .i64 rcd, .int .i64 day] w fun e w' => ∃ v, e = .returned v ∧ Ino w' w.heap.size v (idsH ys) ∧ Below w.heap.size w w' := by
  obtain ⟨i0, hi0, hz0, hz1, hz2⟩ := info_parts int_info
  have HI := hide (And.intro hi0 (And.intro hz0 (And.intro hz1 hz2)))
  obtain rfl := hs.len
  have HQ := hide (hq A c w hs)
  clear hi0 hz0 hz1 hz2 hq hs
  go_enter Try.func16, Try.ntmps16
  go_wp2_with fail
  refine HQ.out.mono ?_
  rintro e w1 ⟨v, rfl, hown, hb⟩
  obtain ⟨A1, c1, hv, hsl⟩ := Hoo_sl hown (by omega)
  subst hv
  have hbig := hsl.big
  have hle := hsl.le
  have HS := hide hsl
  have B1 := hide hb
  have Z1 := hide (Below.refl w1.heap.size w1)
  clear hown hb hsl HQ
  go_wp2
  go_loopw [7, 15] (fun v s15 wr => ∃ k : Nat, k ≤ ys.length ∧ s15 = .int .i64 k ∧ Ino wr w1.heap.size v (idsT ys k) ∧ Below w1.heap.size w1 wr) (fun _ s15 _ => ys.length - (intOf s15).toNat)
  case atStart => exact ⟨0, Nat.zero_le _, rfl, World.ownsRow_nil _ _ _ _, Z1.out⟩
  case round =>
    obtain ⟨k, hk, rfl, ho, hb⟩ := hrel
    have HO := hide ho
    clear Z1
    have Z1 := hide hb
    have hz := hb.size
    have hl := ids_len hk
    have HL := hide hl
    clear ho hb hl
    by_cases hlt : k < ys.length
    · obtain ⟨b, off, y, rfl, hbB, hy, c0, c1', c2, c3, c4, c5, c6, c7, c8, c9, c10⟩ := Hos_at (HS.out.below Z1.out) hlt
      have HST := hide (ids_step hy)
      have HSRC := hide (fun w' g (z : Int) (h : Box w' g 3 #[.int .i64 z]) => in_sl1 h)
      have hown2 : ∀ o o', ((wr.alloc o).alloc o').ownsRow w1.heap.size 3 1 u7 (idsT ys k).length ((idsT ys k).flatMap inE) := fun o o' => (HO.out.alloc o).alloc o'
      have HO2 := hide hown2
      have hbn : ∀ u, Box ((wr.alloc (.cells (hoC y) 47)).alloc (.cells #[u] 3)) (wr.heap.size + 1) 3 #[u] := by
        intro u; have := Box.new (wr.alloc (.cells (hoC y) 47)) 3 #[u]; rwa [World.size_alloc] at this
      have HBN := hide hbn
      have hkz : (k : Int) < (ys.length : Int) := by omega
      clear hy hown2 hbn
      go_wp2_with (at_builtin; go_must (refine wpList_append_sl _ rfl _ _ 28 rfl w1.heap.size 3 i0 _ 8 Try.underlying28 HI.out.1 HI.out.2.1 HI.out.2.2.1 HI.out.2.2.2 rfl (by decide) inE_len inE_one _ _ _ rfl (HO2.out _ _) _ 1 1 rfl (HSRC.out _ _ y.id (HBN.out _)) (by rw [HL.out]; unfold maxLen; omega) (by rw [HL.out]; omega) (by simp; omega) ?_))
      intro v' w2 hown hg hat
      have H5 := hide hown
      have H6 := hide (((Z1.out.alloc hz _).alloc (by simp; omega) _).grown hg (by simp; omega) (by intro q hq; exact (HO.out.lt q hq).1))
      clear hown hg hat
      go_wp2
      go_roundw
      case rel =>
        refine ⟨k + 1, by omega, by go_num, ?_, H6.out⟩
        unfold Ino
        rw [HST.out, List.flatMap_append, List.length_append]
        simpa using H5.out
      case measure => simp [intOf]; omega
    · have hkz : ¬ (k : Int) < (ys.length : Int) := by omega
      go_wp2
      go_ret
      have ho := HO.out
      rw [ids_all (by omega)] at ho
      exact ⟨_, rfl, own_base ho B1.out.size, B1.out.trans (Z1.out.mono B1.out.size)⟩

/-- The place of a hold in its queue, or 0. -/
def posH (xs : List Ho) (que : Int → List Ho) (id : Int) : Int := if (getH xs id).2 = true then ix (fun y => id == y) (idsH (que (getH xs id).1.rcd)) + 1 else 0
set_option maxRecDepth 100000 in
set_option maxHeartbeats 2000000 in
theorem hPosition_any (A : Option Addr) (n c : Nat) (xs : List Ho) (que : Int → List Ho) (id day : Int) (w : World) (hs : Hos w w.heap.size A n c xs) (hq : ∀ r, (getH xs id).2 = true → r = (getH xs id).1.rcd → QueD xs (que r) r day) (hn : ∀ r, (que r).length ≤ 1000) :
    Calls Try.prog 18 #[.slice A n c, .int .i64 id, .int .i64 day] w fun e w' => e = .returned (.int .i64 (posH xs que id)) ∧ Below w.heap.size w w' := by
  obtain rfl := hs.len
  have hsl : ∀ W, Below w.heap.size w W → Hos W W.heap.size A xs.length c xs := fun W hW => (hs.below hW).more hW.size
  have hg := hget_any A _ c xs id w hs
  unfold posH
  have HSL := hide hsl
  generalize getH xs id = r at hg hq
  obtain ⟨y, q⟩ := r
  unfold hoV at hg
  simp only at hg hq
  have HG := hide hg
  clear hg hs hsl
  cases q with
  | false =>
    clear hq
    go_enter Try.func18, Try.ntmps18
    go_wp2_with fail
    refine HG.out.mono ?_
    rintro e w1 ⟨rfl, hb⟩
    have B1 := hide (hb.alloc hb.size (.cells (hoC y) 47))
    clear hb
    go_wp2
    go_ret
    exact ⟨rfl, B1.out⟩
  | true =>
    have hQ := fun W (hW : Below w.heap.size w W) => hQueue_any A xs.length c xs (que y.rcd) y.rcd day W (HSL.out W hW) (hq y.rcd rfl rfl) (hn _)
    have hln : (idsH (que y.rcd)).length ≤ 140737488355328 := by have := hn y.rcd; unfold idsH; rw [List.length_map]; omega
    have hib : -1 ≤ ix (fun z => id == z) (idsH (que y.rcd)) ∧ ix (fun z => id == z) (idsH (que y.rcd)) ≤ 1000 := by
      have h1 := hn y.rcd
      rcases ix_cases (fun z => id == z) (idsH (que y.rcd)) with ⟨h, _⟩ | ⟨i, x, h, h2, _⟩
      · omega
      · have := (List.getElem?_eq_some_iff.1 h2).1
        unfold idsH at this
        rw [List.length_map] at this
        omega
    rw [if_pos rfl]
    simp only
    generalize idsH (que y.rcd) = is at hQ hln hib
    have HQ := hide hQ
    have HLN := hide hln
    obtain ⟨ib1, ib2⟩ := hib
    have hix := fun (A1 : Option Addr) c1 W (B : Nat) (h : Is W B A1 is.length c1 is) => index_any A1 is.length c1 is id W B h
    generalize ix (fun z => id == z) is = j at hix ib1 ib2
    have HIX := hide hix
    have hw1 : IntKind.i64.wrap (j + 1) = j + 1 := by rw [IntKind.wrap_i64]; omega
    clear hq hn hQ hln hix
    go_enter Try.func18, Try.ntmps18
    go_wp2_with fail
    refine HG.out.mono ?_
    rintro e w1 ⟨rfl, hb⟩
    have B1 := hide (hb.alloc hb.size (.cells (hoC y) 47))
    clear hb HG
    go_wp2_with fail
    refine (HQ.out _ B1.out).mono ?_
    rintro e w2 ⟨v, rfl, hown, hb⟩
    have B2 := hide (B1.out.trans (hb.mono B1.out.size))
    obtain ⟨A1, c1, hv, hsl⟩ := Ino_sl hown HLN.out
    subst hv
    have HI := hide (HIX.out A1 c1 w2 _ hsl)
    clear hown hb hsl HQ HIX
    go_wp2_with fail
    refine HI.out.mono ?_
    rintro e w_ ⟨rfl, rfl⟩
    go_wp2
    go_ret
    exact ⟨rfl, B2.out⟩
end Go.Proofs.Ytgjhjabnnhhkbaa
