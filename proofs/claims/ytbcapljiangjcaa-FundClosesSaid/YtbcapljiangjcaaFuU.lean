/- Walks: the law FundCloses. -/
import Derived.Test.YtbcapljiangjcaaFuLaw3
import Derived.Test.YtbcapljiangjcaaFuL
import Derived.Test.YtbcapljiangjcaaFuN
namespace Go.Proofs.Ytbcapljiangjcaa
open Go.RowKit Go.Maps

theorem Vld.clsM {xs : List Fu} (h : Vld xs) (keep : Bool) : ∀ y ∈ xs.map (clsF keep), FuM y := by
  intro y hy
  obtain ⟨x, hx, rfl⟩ := List.mem_map.1 hy
  exact (cls_M (h.M x hx) (h.free x hx)).1

set_option maxRecDepth 100000 in
set_option maxHeartbeats 2000000 in
theorem fundCloses_any (A : Option Addr) (n c : Nat) (xs : List Fu) (keep : Bool) (w : World) (hs : Fs w w.heap.size A n c xs) :
    Law 8 #[.slice A n c, .bool keep] w := by
  unfold Law
  obtain rfl := hs.len
  have hsl : ∀ W, Below w.heap.size w W → Fs W W.heap.size A xs.length c xs := fun W hW => (hs.below hW).more hW.size
  have HSL := hide hsl
  have hs0 : ∀ W, Below w.heap.size w W → Fs W w.heap.size A xs.length c xs := fun W hW => hs.below hW
  have HS0 := hide hs0
  have B0 := hide (Below.refl w.heap.size w)
  clear hs hsl hs0
  go_enter Try.func8, Try.ntmps8
  go_wp2_with fail
  refine (alive_any _).mono ?_
  rintro e w1 ⟨rfl, hb⟩
  have B1 := hide (B0.out.trans hb)
  clear hb
  have hv := valid_any A xs.length c xs w1 (HSL.out _ B1.out)
  generalize hq : (rightR xs == 0) = q at hv
  have HV := hide hv
  have HQ := hide hq
  clear hv hq
  cases q with
  | false =>
    go_wp2_with fail
    refine HV.out.mono ?_
    rintro e w2 ⟨rfl, hb⟩
    have B2 := hide (B1.out.trans (hb.mono B1.out.size))
    clear hb
    go_wp2
    go_ret
    exact ⟨rfl, B2.out⟩
  | true =>
    have hvl : Vld xs := vld_of (by simpa using HQ.out)
    have HVL := hide hvl
    have hl32 : xs.length ≤ 32 := hvl.len
    clear hvl HQ
    go_wp2_with fail
    refine HV.out.mono ?_
    rintro e w2 ⟨rfl, hb⟩
    have B2 := hide (B1.out.trans (hb.mono B1.out.size))
    clear hb HV B0 B1
    have HC := hide (pclose_any A xs.length c xs keep w2 (HSL.out _ B2.out) (by omega) HVL.out.M)
    go_wp2_with fail
    refine HC.out.mono ?_
    rintro e w3 ⟨v, rfl, hown, hb⟩
    have B3 := hide (B2.out.trans (hb.mono B2.out.size))
    obtain ⟨A1, c1, hv, hsl⟩ := Fo_sl hown (by simp; omega)
    subst hv
    have S1 := hide hsl
    have Z3 := hide (Below.refl w3.heap.size w3)
    clear hsl hown hb HC B2
    have HC := hide (rclose_any A xs.length c xs keep w3 (HSL.out _ B3.out) (by omega) HVL.out.M)
    go_wp2_with fail
    refine HC.out.mono ?_
    rintro e w4 ⟨v, rfl, hown, hb⟩
    have B4 := hide (B3.out.trans (hb.mono B3.out.size))
    have Z4 := hide (Z3.out.trans (hb.mono Z3.out.size))
    obtain ⟨A2, c2, hv, hsl⟩ := Fo_sl hown (by simp; omega)
    subst hv
    have S2 := hide hsl
    clear hown hb HC B3 Z3
    have hc := same_any A1 A2 _ c1 _ c2 _ _ w4 ((S1.out.below Z4.out).more Z4.out.size) hsl
    rw [decide_eq_true rfl] at hc
    have HC := hide hc
    clear hc hsl
    rw [List.length_map] at S1 HC
    go_wp2_with fail
    refine HC.out.mono ?_
    rintro e w5 ⟨rfl, hb⟩
    have B5 := hide (B4.out.trans (hb.mono B4.out.size))
    have Z5 := hide (Z4.out.trans (hb.mono Z4.out.size))
    clear hb HC B4 Z4 S2
    have hc := pright_any A1 _ c1 _ w5 ((S1.out.below Z5.out).more Z5.out.size)
    rw [right_cls HVL.out] at hc
    have HC := hide hc
    clear hc
    go_wp2_with fail
    refine HC.out.mono ?_
    rintro e w6 ⟨rfl, hb⟩
    have B6 := hide (B5.out.trans (hb.mono B5.out.size))
    have Z6 := hide (Z5.out.trans (hb.mono Z5.out.size))
    clear hb HC B5 Z5
    go_wp2
    go_loopw [9] (fun i wr => ∃ k : Nat, k ≤ xs.length ∧ i = .int .i64 k ∧ Below w.heap.size w wr ∧ Below w3.heap.size w3 wr) (fun i _ => xs.length - (intOf i).toNat)
    case atStart => exact ⟨0, Nat.zero_le _, rfl, B6.out, Z6.out⟩
    case round =>
      obtain ⟨k, hk, rfl, hbl, hzl⟩ := hrel
      have BL := hide hbl
      have ZL := hide hzl
      clear hbl hzl B6 Z6
      by_cases hlt : k < xs.length
      · obtain ⟨b, off, x, rfl, hbB, hx, c0, c1', c2, c3, c4⟩ := Fs_at (HS0.out _ BL.out) hlt
        have hkk : (k : Int) < (xs.length : Int) := by omega
        have hfr := free_cls HVL.out keep (List.mem_of_getElem? hx)
        have hc := pfree_any A1 _ c1 _ x.id wr ((S1.out.below ZL.out).more ZL.out.size) (HVL.out.clsM keep)
        rw [hfr] at hc
        have hc2 := fun W (hW : Below w.heap.size w W) => pfree_any (some ⟨b, off, none⟩) xs.length c xs x.id W (HSL.out _ hW) HVL.out.M
        generalize freeF (getF xs x.id).1 = f at hc hc2
        have HC2 := hide hc2
        have HX := hide hx
        clear hx hfr hc2 c1' c2 c3 c4
        cases keep with
        | true =>
          rw [if_pos rfl] at hc
          have HC := hide hc
          clear hc
          go_wp2_with fail
          refine HC.out.mono ?_
          rintro e w7 ⟨rfl, hb⟩
          have B7 := hide (BL.out.trans (hb.mono BL.out.size))
          have Z7 := hide (ZL.out.trans (hb.mono ZL.out.size))
          clear hb HC c0
          obtain ⟨b', off', x', hA, hbB', hx', c0, _, _, _, _⟩ := Fs_at (HS0.out _ B7.out) hlt
          cases hA
          obtain rfl : x' = x := by have := HX.out; rw [hx'] at this; exact Option.some.inj this
          have HC := hide (HC2.out _ B7.out)
          clear hx' HC2
          go_wp2_with fail
          refine HC.out.mono ?_
          rintro e w8 ⟨rfl, hb⟩
          have B8 := hide (B7.out.trans (hb.mono B7.out.size))
          have Z8 := hide (Z7.out.trans (hb.mono Z7.out.size))
          clear hb HC c0
          go_wp2
          go_roundw
          case rel => exact ⟨k + 1, by omega, by go_num, B8.out, Z8.out⟩
          case measure => simp [intOf]; omega
        | false =>
          rw [if_neg (by decide)] at hc
          have HC := hide hc
          clear hc HC2
          go_wp2_with fail
          refine HC.out.mono ?_
          rintro e w7 ⟨rfl, hb⟩
          have B7 := hide (BL.out.trans (hb.mono BL.out.size))
          have Z7 := hide (ZL.out.trans (hb.mono ZL.out.size))
          clear hb HC c0
          go_wp2
          go_roundw
          case rel => exact ⟨k + 1, by omega, by go_num, B7.out, Z7.out⟩
          case measure => simp [intOf]; omega
      · go_wp2
        go_ret
        exact ⟨rfl, BL.out⟩
end Go.Proofs.Ytbcapljiangjcaa
