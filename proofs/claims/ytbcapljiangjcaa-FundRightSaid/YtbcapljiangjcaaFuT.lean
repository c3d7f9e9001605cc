/- Walks: the law FundRight. -/
import Derived.Test.YtbcapljiangjcaaFuS
import Derived.Test.YtbcapljiangjcaaFuL
import Derived.Test.YtbcapljiangjcaaFuLaw
namespace Go.Proofs.Ytbcapljiangjcaa
open Go.RowKit Go.Maps

theorem fundRight_any (A : Option Addr) (n c : Nat) (xs : List Fu) (w : World) (hs : Fs w w.heap.size A n c xs) :
    Law 7 #[.slice A n c] w := by
  unfold Law
  have hsl : ∀ W, Below w.heap.size w W → Fs W W.heap.size A n c xs := fun W hW => (hs.below hW).more hW.size
  have HSL := hide hsl
  have B0 := hide (Below.refl w.heap.size w)
  clear hs hsl
  go_enter Try.func7, Try.ntmps7
  go_wp2_with fail
  refine (alive_any _).mono ?_
  rintro e w1 ⟨rfl, hb⟩
  have B1 := hide (B0.out.trans hb)
  clear hb
  have hc := pright_any A n c xs w1 (HSL.out _ B1.out)
  rw [right_eq] at hc
  generalize hq : rightR xs = q at hc
  have HC := hide hc
  have HQ := hide hq
  clear hc hq
  go_wp2_with fail
  refine HC.out.mono ?_
  rintro e w2 ⟨rfl, hb⟩
  have B2 := hide (B1.out.trans (hb.mono B1.out.size))
  clear hb HC
  have hc := rright_any A n c xs w2 (HSL.out _ B2.out)
  rw [HQ.out] at hc
  have HC := hide hc
  clear hc
  go_wp2_with fail
  refine HC.out.mono ?_
  rintro e w3 ⟨rfl, hb⟩
  have B3 := hide (B2.out.trans (hb.mono B2.out.size))
  clear hb HC
  go_wp2
  go_ret
  exact ⟨rfl, B3.out⟩
end Go.Proofs.Ytbcapljiangjcaa
