/- Walks: Place of hold. Printed by gen_ho_b.py. -/
import Derived.Test.YtgjhjabnnhhkbaaHoH
import Derived.Test.YtgjhjabnnhhkbaaHoC
namespace Go.Proofs.Ytgjhjabnnhhkbaa
open Go.RowKit

def placeH (xs : List Ho) (x : Ho) : Int × List Ho :=
  if x.st = 1 ∧ x.got = 0 ∧ x.unt = 0 then (if rightH (xs ++ [x]) = 0 then (0, xs ++ [x]) else (rightH (xs ++ [x]), [])) else (12, [])
theorem hpl_err {xs : List Ho} {x : Ho} (h : ¬ (x.st = 1 ∧ x.got = 0 ∧ x.unt = 0)) : placeH xs x = (12, []) := by unfold placeH; rw [if_neg h]
theorem hpl_ok {xs : List Ho} {x : Ho} (h : x.st = 1 ∧ x.got = 0 ∧ x.unt = 0) : placeH xs x = if rightH (xs ++ [x]) = 0 then (0, xs ++ [x]) else (rightH (xs ++ [x]), []) := by unfold placeH; rw [if_pos h]

/-- Clone, with what it leaves of an older world. -/
theorem hclone_at (A : Option Addr) (c : Nat) (xs : List Ho) (w W : World) (hs : Hos W W.heap.size A xs.length c xs) (hn : xs.length ≤ 1000) (hW : Below w.heap.size w W) :
    Calls Try.prog 56 #[.slice A xs.length c] W fun e w' => ∃ v, e = .returned v ∧ Hoo w' W.heap.size v xs ∧ Below W.heap.size W w' ∧ Below w.heap.size w w' :=
  (ho_clone A xs.length c xs W hs hn).mono fun _ _ ⟨v, he, ho, hb⟩ => ⟨v, he, ho, hb, hW.trans (hb.mono hW.size)⟩

set_option maxRecDepth 100000 in
set_option maxHeartbeats 2000000 in
theorem hplace_any (A : Option Addr) (n c : Nat) (xs : List Ho) (x : Ho) (w : World) (hs : Hos w w.heap.size A n c xs) (hn : n ≤ 60) :
    Calls Try.prog 33 #[.slice A n c, hoV x] w (ResH w (placeH xs x)) := by
  obtain ⟨i0, hi0, hz0, hz1, hz2⟩ := info_parts ho_info
  obtain rfl := hs.len
  have HI := hide (And.intro hi0 (And.intro hz0 (And.intro hz1 hz2)))
  have hle := hs.le
  have hbig := hs.big
  have HBW := hide ((Below.refl w.heap.size w).alloc (Nat.le_refl _) (.cells (hoC x) 47))
  have HBX := hide (Box.new w 47 (hoC x))
  obtain ⟨_, d0, d1, d2, d3, d4, d5, d6, d7, d8, d9, d10⟩ := ho_box HBX.out (Below.refl _ _)
  clear hi0 hz0 hz1 hz2
  by_cases hg : x.st = 1 ∧ x.got = 0 ∧ x.unt = 0
  · rw [hpl_ok hg]
    obtain ⟨g1, g2, g3⟩ := hg
    have hsl : ∀ W, Below w.heap.size w W → Hos W W.heap.size A xs.length c xs := fun W hW => (hs.below hW).more hW.size
    have HC := hide (fun W (hW : Below w.heap.size w W) => hclone_at A c xs w W (hsl W hW) (by omega) hW)
    have hR : ∀ W A1 n1 c1, Below w.heap.size w W → Hos W W.heap.size A1 n1 c1 (xs ++ [x]) → Calls Try.prog 12 #[.slice A1 n1 c1] W fun e w' => e = .returned (.int .i64 (rightH (xs ++ [x]))) ∧ Below W.heap.size W w' :=
      fun W A1 n1 c1 hW h => hright_any A1 n1 c1 (xs ++ [x]) W h
    have hyl : (xs ++ [x]).length = xs.length + 1 := by simp
    have HYL := hide hyl
    have hvb : ∀ W, Below ((w.alloc (.cells (hoC x) 47)).alloc (.cells (hoC x) 47)).drew.heap.size ((w.alloc (.cells (hoC x) 47)).alloc (.cells (hoC x) 47)).drew W → Hos W (w.heap.size + 1 + 1) (some ⟨w.heap.size + 1, 0, none⟩) 1 1 [x] := fun W hW => by
      have h := ((Box.new (w.alloc (.cells (hoC x) 47)) 47 (hoC x)).drew).below hW (by simp)
      rw [World.size_alloc] at h
      exact ho_sl1 h
    have HVB := hide hvb
    clear hvb
    clear hs hsl hyl d0 d1 d2 d3 d4 d9
    have b1 : (x.st != 1) = false := by simpa using g1
    have b2 : (x.got != 0) = false := by simpa using g2
    have b3 : (x.unt != 0) = false := by simpa using g3
    clear g1 g2 g3
    by_cases hr0 : rightH (xs ++ [x]) = 0
    · rw [if_pos hr0]
      rw [hr0] at hR
      have HR := hide hR
      clear hR hr0
      unfold hoV
      go_enter Try.func33, Try.ntmps33
      go_wp2_with fail
      go_region_law (first
        | (go_simp; go_at_call 56; refine (HC.out _ (by first | exact HBW.out.drew | exact (HBW.out.alloc (by simp) _).drew | exact HBW.out.drew.alloc (by simp) _)).mono ?_; rintro e w4 ⟨v, rfl, hown, hb, hb4⟩; obtain ⟨_, s0, s1, s2, s3, s4, s5, s6, s7, s8, s9, s10⟩ := ho_box (by first | exact HBX.out.drew | exact (HBX.out.alloc _).drew | exact HBX.out.drew.alloc _) (hb.mono (by simp)); have HBk := hide hb; have hz4 := hb4.size; have HO4 := hide (own_base hown (by first | (simp; done) | (simp; omega)) : Hoo w4 w.heap.size v xs); have HB4 := hide hb4; clear hown hb hb4)
        | (refine step_append_sl rfl (.tmp 22) (.tmp 24) 22 rfl w.heap.size 47 i0 _ 88 Try.underlying22 HI.out.1 HI.out.2.1 HI.out.2.2.1 HI.out.2.2.2 rfl (by decide) hoE_len hoE_one _ _ _ (by simp [Act.eval]; rfl) (by first | exact HO4.out | exact HO4.out.alloc _) _ 1 1 (by simp [Act.eval]; rfl) (by first | exact HVB.out _ HBk.out | exact ho_sl1 (x := x) (Box.new _ _ _)) (by unfold maxLen; omega) (by omega) (by first | (simp; done) | (simp; omega) | omega) ?_; intro v1 w5 hown hg hat; have H5 := hide hown; have B5 := hide ((by first | exact HB4.out | exact HB4.out.alloc (by omega) _ : Below w.heap.size w _).grown hg (by first | omega | (simp; omega)) (by intro q hq; exact (HO4.out.lt q hq).1)); clear hown hg hat))
      all_goals
        have hl : (xs ++ [x]).flatMap hoE = xs.flatMap hoE ++ ([x] : List Ho).flatMap hoE := List.flatMap_append
        have ho : Hoo w5 w.heap.size v1 (xs ++ [x]) := by unfold Hoo; rw [HYL.out, hl]; exact H5.out
        obtain ⟨A1, c1, hv, hsl⟩ := Hoo_sl ho (by rw [HYL.out]; omega)
        subst hv
        have HS6 := hide hsl
        have HR6 := hide (HR.out w5 A1 _ c1 B5.out hsl)
        generalize hm : (xs ++ [x]).length = m at HS6 HR6
        have HM := hide hm
        clear hl ho hsl hm H5
        go_wp2_with fail
        refine HR6.out.mono ?_
        rintro e w6 ⟨rfl, hb6⟩
        have HB6 := hide hb6
        clear hb6
        go_wp2
        go_ret2
        exact ⟨_, _, _, rfl, (HS6.out.below HB6.out).more HB6.out.size, B5.out.trans (HB6.out.mono B5.out.size)⟩
    · rw [if_neg hr0]
      have hrb : (rightH (xs ++ [x]) != 0) = true := by simpa using hr0
      generalize rightH (xs ++ [x]) = r at hR hrb ⊢
      have HR := hide hR
      clear hR hr0
      unfold hoV
      go_enter Try.func33, Try.ntmps33
      go_wp2_with fail
      go_region_law (first
        | (go_simp; go_at_call 56; refine (HC.out _ (by first | exact HBW.out.drew | exact (HBW.out.alloc (by simp) _).drew | exact HBW.out.drew.alloc (by simp) _)).mono ?_; rintro e w4 ⟨v, rfl, hown, hb, hb4⟩; obtain ⟨_, s0, s1, s2, s3, s4, s5, s6, s7, s8, s9, s10⟩ := ho_box (by first | exact HBX.out.drew | exact (HBX.out.alloc _).drew | exact HBX.out.drew.alloc _) (hb.mono (by simp)); have HBk := hide hb; have hz4 := hb4.size; have HO4 := hide (own_base hown (by first | (simp; done) | (simp; omega)) : Hoo w4 w.heap.size v xs); have HB4 := hide hb4; clear hown hb hb4)
        | (refine step_append_sl rfl (.tmp 22) (.tmp 24) 22 rfl w.heap.size 47 i0 _ 88 Try.underlying22 HI.out.1 HI.out.2.1 HI.out.2.2.1 HI.out.2.2.2 rfl (by decide) hoE_len hoE_one _ _ _ (by simp [Act.eval]; rfl) (by first | exact HO4.out | exact HO4.out.alloc _) _ 1 1 (by simp [Act.eval]; rfl) (by first | exact HVB.out _ HBk.out | exact ho_sl1 (x := x) (Box.new _ _ _)) (by unfold maxLen; omega) (by omega) (by first | (simp; done) | (simp; omega) | omega) ?_; intro v1 w5 hown hg hat; have H5 := hide hown; have B5 := hide ((by first | exact HB4.out | exact HB4.out.alloc (by omega) _ : Below w.heap.size w _).grown hg (by first | omega | (simp; omega)) (by intro q hq; exact (HO4.out.lt q hq).1)); clear hown hg hat))
      all_goals
        have hl : (xs ++ [x]).flatMap hoE = xs.flatMap hoE ++ ([x] : List Ho).flatMap hoE := List.flatMap_append
        have ho : Hoo w5 w.heap.size v1 (xs ++ [x]) := by unfold Hoo; rw [HYL.out, hl]; exact H5.out
        obtain ⟨A1, c1, hv, hsl⟩ := Hoo_sl ho (by rw [HYL.out]; omega)
        subst hv
        have HS6 := hide hsl
        have HR6 := hide (HR.out w5 A1 _ c1 B5.out hsl)
        generalize hm : (xs ++ [x]).length = m at HS6 HR6
        have HM := hide hm
        clear hl ho hsl hm H5
        go_wp2_with fail
        refine HR6.out.mono ?_
        rintro e w6 ⟨rfl, hb6⟩
        have HB6 := hide hb6
        clear hb6
        go_wp2
        go_ret2
        exact ResH.nil (B5.out.trans (HB6.out.mono B5.out.size))
  · rw [hpl_err hg]
    clear hs hn HI
    unfold hoV
    by_cases h1 : x.st = 1
    · have b1 : (x.st != 1) = false := by simpa using h1
      by_cases h2 : x.got = 0
      · have b2 : (x.got != 0) = false := by simpa using h2
        have b3 : (x.unt != 0) = true := by simp only [bne_iff_ne]; intro h; exact hg ⟨h1, h2, h⟩
        clear hg h1 h2
        go_enter Try.func33, Try.ntmps33
        go_wp2
        go_ret2
        exact ResH.nil HBW.out
      · have b2 : (x.got != 0) = true := by simpa using h2
        clear hg h1 h2
        go_enter Try.func33, Try.ntmps33
        go_wp2
        go_ret2
        exact ResH.nil HBW.out
    · have b1 : (x.st != 1) = true := by simpa using h1
      clear hg h1
      go_enter Try.func33, Try.ntmps33
      go_wp2
      go_ret2
      exact ResH.nil HBW.out
end Go.Proofs.Ytgjhjabnnhhkbaa
