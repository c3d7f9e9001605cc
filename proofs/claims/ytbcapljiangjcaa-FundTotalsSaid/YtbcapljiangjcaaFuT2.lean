/- Walks: the law FundTells. -/
import Derived.Test.YtbcapljiangjcaaFuS
import Derived.Test.YtbcapljiangjcaaFuQ
import Derived.Test.YtbcapljiangjcaaFuLaw2
namespace Go.Proofs.Ytbcapljiangjcaa
open Go.RowKit Go.Maps

theorem Vld.T {xs : List Fu} (h : Vld xs) : Tid xs := Tid.of h.chk

set_option maxRecDepth 100000 in
set_option maxHeartbeats 2000000 in
theorem fundTells_any (A : Option Addr) (n c : Nat) (xs : List Fu) (id : Int) (w : World) (hs : Fs w w.heap.size A n c xs) :
    Law 3 #[.slice A n c, .int .i64 id] w := by
  unfold Law
  obtain rfl := hs.len
  have hsl : ∀ W, Below w.heap.size w W → Fs W W.heap.size A xs.length c xs := fun W hW => (hs.below hW).more hW.size
  have HSL := hide hsl
  have B0 := hide (Below.refl w.heap.size w)
  have hgd := fu_guard
  clear hs hsl
  go_enter Try.func3, Try.ntmps3
  go_wp2_with fail
  refine (alive_any _).mono ?_
  rintro e w1 ⟨rfl, hb⟩
  have B1 := hide (B0.out.trans hb)
  clear hb
  have hv := valid_any A xs.length c xs w1 (HSL.out _ B1.out)
  generalize hq : (rightR xs == 0) = q at hv
  have HV := hide hv
  have HQ := hide hq
  clear hv hq
  cases q with
  | false =>
    go_wp2_with fail
    refine HV.out.mono ?_
    rintro e w2 ⟨rfl, hb⟩
    have B2 := hide (B1.out.trans (hb.mono B1.out.size))
    clear hb
    go_wp2
    go_ret
    exact ⟨rfl, B2.out⟩
  | true =>
    have hvl : Vld xs := vld_of (by simpa using HQ.out)
    have HVL := hide hvl
    have hl32 : xs.length ≤ 32 := hvl.len
    clear hvl HQ
    go_wp2_with fail
    refine HV.out.mono ?_
    rintro e w2 ⟨rfl, hb⟩
    have B2 := hide (B1.out.trans (hb.mono B1.out.size))
    clear hb HV
    have hc := pget_any A xs.length c xs id w2 (HSL.out _ B2.out)
    have HR := hide (rfl : getF xs id = getF xs id)
    generalize hr : getF xs id = r at hc HR
    obtain ⟨f, ok⟩ := r
    have HRX := hide hr
    unfold fuV at hc
    have HC := hide hc
    clear hc hr HR
    go_wp2_with fail
    refine HC.out.mono ?_
    rintro e w3 ⟨rfl, hb⟩
    have B3 := hide (B2.out.trans (hb.mono B2.out.size))
    clear hb HC
    have B3a := hide (B3.out.alloc B3.out.size (.cells #[.int .i64 f.id, .int .i64 f.parent, .int .i64 f.budget, .int .i64 f.enc, .int .i64 f.spent] 26))
    have hc := rget_any A xs.length c xs id _ (HSL.out _ B3a.out)
    rw [HRX.out] at hc
    unfold fuV at hc
    have HC := hide hc
    clear hc
    go_wp2_with fail
    refine HC.out.mono ?_
    rintro e w4 ⟨rfl, hb⟩
    have B4 := hide (B3a.out.trans (hb.mono B3a.out.size))
    have hbx := (Box.new w3 26 (fuA f)).below hb (by simp)
    obtain ⟨⟨c0, c1, c2, c3, c4⟩, hfz⟩ := box5 hbx
    have hz : w3.heap.size < w4.heap.size := by have := hb.size; simp at this; omega
    clear hb HC hbx
    have B4a := hide (B4.out.alloc B4.out.size (.cells #[.int .i64 f.id, .int .i64 f.parent, .int .i64 f.budget, .int .i64 f.enc, .int .i64 f.spent] 26))
    have heq := fu_eql f f
    rw [decide_eq_true rfl] at heq
    unfold fuV at heq
    have hc := pfree_any A xs.length c xs id _ (HSL.out _ B4a.out) HVL.out.M
    rw [HRX.out] at hc
    generalize hm : freeF (f, ok).1 = m at hc
    have HMM := hide hm
    clear hm
    have HC := hide hc
    clear hc
    go_wp2_with fail
    refine HC.out.mono ?_
    rintro e w5 ⟨rfl, hb⟩
    have B5 := hide (B4a.out.trans (hb.mono B4a.out.size))
    clear hb HC c0 c1 c2 c3 c4 hfz hz
    have hc := rfree_any A xs.length c xs id _ (HSL.out _ B5.out) HVL.out.M
    rw [HRX.out, HMM.out] at hc
    have HC := hide hc
    clear hc
    go_wp2_with fail
    refine HC.out.mono ?_
    rintro e w6 ⟨rfl, hb⟩
    have B6 := hide (B5.out.trans (hb.mono B5.out.size))
    clear hb HC
    have hc := ptotal_any A xs.length c xs id _ (HSL.out _ B6.out) (by omega) HVL.out.M HVL.out.W
    rw [tot_eq HVL.out.T HVL.out.cyc] at hc
    generalize ht : totR xs id = T at hc
    have HT := hide ht
    unfold fuV at hc
    have HC := hide hc
    clear hc ht
    go_wp2_with fail
    refine HC.out.mono ?_
    rintro e w7 ⟨rfl, hb⟩
    have B7 := hide (B6.out.trans (hb.mono B6.out.size))
    clear hb HC
    have hc := rtotal_any A xs.length c xs id _ (HSL.out _ B7.out) (by omega) HVL.out.M
    rw [HT.out] at hc
    unfold fuV at hc
    have HC := hide hc
    have heq := fu_eql T T
    rw [decide_eq_true rfl] at heq
    unfold fuV at heq
    clear hc
    go_wp2_with fail
    refine HC.out.mono ?_
    rintro e w8 ⟨rfl, hb⟩
    have B8 := hide (B7.out.trans (hb.mono B7.out.size))
    clear hb HC
    go_wp2
    go_ret
    exact ⟨rfl, B8.out⟩
end Go.Proofs.Ytbcapljiangjcaa
