/- Walks: the laws AccessEmbargoes, AccessEnds. -/
import Derived.Test.YtgijjgnacgpdfaaAcG
namespace Go.Proofs.Ytgijjgnacgpdfaa
open Go.RowKit

set_option maxRecDepth 100000 in
set_option maxHeartbeats 1000000 in
theorem accessEmbargoes_any (level day months : Int) (w : World) : Law 6 #[.int .i64 level, .int .i64 day, .int .i64 months] w := by
  unfold Law
  obtain ⟨q, hq⟩ := mon_exists day months
  have h1 := fun W => pemb_any q level day months W hq
  have h2 := fun W => remb_any q level day months W hq
  have hgd := rg_guard
  generalize embF q level day months = x at h1 h2
  obtain ⟨r, e⟩ := x
  have heq := rg_eql r r
  rw [decide_eq_true rfl] at heq
  unfold rgV at h1 h2 heq
  have H1 := hide h1
  have H2 := hide h2
  clear h1 h2 hq
  have B0 := hide (Below.refl w.heap.size w)
  go_enter Try.func6, Try.ntmps6
  go_wp2_with fail
  refine (H1.out _).mono ?_
  rintro e w1 ⟨rfl, hb⟩
  have B1 := hide (B0.out.trans hb)
  clear hb H1
  have X1 := hide (Box.new w1 23 (rgC r))
  have Y1 := hide (Below.refl (w1.heap.size + 1) (w1.alloc (.cells (rgC r) 23)))
  have B1a := hide (B1.out.alloc B1.out.size (.cells (rgC r) 23))
  go_wp2_with fail
  refine (H2.out _).mono ?_
  rintro e w2 ⟨rfl, hb⟩
  have B2 := hide (B1a.out.trans (hb.mono B1a.out.size))
  have Y2 := hide (Y1.out.trans (hb.mono (by simp)))
  clear hb H2
  have B2a := hide (B2.out.alloc B2.out.size (.cells (rgC r) 23))
  obtain ⟨c0, c1, c2, c3⟩ := (rbox X1.out Y2.out).2
  have hz : w1.heap.size < w2.heap.size := by have := Y2.out.size; simp at this; omega
  go_wp2_with fail
  refine (alive_any _).mono ?_
  rintro e w3 ⟨rfl, hb⟩
  have B3 := hide (B2a.out.trans (hb.mono B2a.out.size))
  clear hb
  go_wp2
  go_ret
  exact ⟨rfl, B3.out⟩
end Go.Proofs.Ytgijjgnacgpdfaa
