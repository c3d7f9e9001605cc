/- Walks: Place of both. -/
import Derived.Test.YtdbanekjjibpbaaOdH
import Derived.Test.YtdbanekjjibpbaaOdC
import Derived.Test.YtdbanekjjibpbaaOdE
namespace Go.Proofs.Ytdbanekjjibpbaa
open Go.RowKit

theorem od_place_err {xs : List Od} {x : Od} (h : ¬ (x.st = 1 ∧ x.rcv = 0 ∧ x.bil = 0 ∧ x.paid = 0)) : placeO xs x = (12, []) := by unfold placeO; rw [if_neg h]
theorem od_place_ok {xs : List Od} {x : Od} (h : x.st = 1 ∧ x.rcv = 0 ∧ x.bil = 0 ∧ x.paid = 0) : placeO xs x = if rightO (xs ++ [x]) = 0 then (0, xs ++ [x]) else (rightO (xs ++ [x]), []) := by unfold placeO; rw [if_pos h]

/-- Clone, with what it leaves of an older world. -/
theorem oclone_at (A : Option Addr) (c : Nat) (xs : List Od) (w W : World) (hs : Ods W W.heap.size A xs.length c xs) (hn : xs.length ≤ 1000) (hW : Below w.heap.size w W) :
    Calls Try.prog 43 #[.slice A xs.length c] W fun e w' => ∃ v, e = .returned v ∧ Odo w' W.heap.size v xs ∧ Below W.heap.size W w' ∧ Below w.heap.size w w' :=
  (od_clone A xs.length c xs W hs hn).mono fun _ _ ⟨v, he, ho, hb⟩ => ⟨v, he, ho, hb, hW.trans (hb.mono hW.size)⟩

set_option maxRecDepth 100000 in
set_option maxHeartbeats 2000000 in
theorem oplace_any (A : Option Addr) (n c : Nat) (xs : List Od) (x : Od) (w : World) (hs : Ods w w.heap.size A n c xs) (hss : ∀ y ∈ xs, OdS w w.heap.size y) (hx : OdS w w.heap.size x) (hn : n ≤ 60) :
    Calls Try.prog 30 #[.slice A n c, odV x] w (ResO w (placeO xs x)) := by
  obtain ⟨i0, hi0, hz0, hz1, hz2⟩ := info_parts od_info
  obtain rfl := hs.len
  have HI := hide (And.intro hi0 (And.intro hz0 (And.intro hz1 hz2)))
  have hle := hs.le
  have hbig := hs.big
  have HBW := hide ((Below.refl w.heap.size w).alloc (Nat.le_refl _) (.cells (odC x) 37))
  have HBX := hide (Box.new w 37 (odC x))
  obtain ⟨_, d0, d1, d2, d3, d4, d5, d6, d7, d8, d9⟩ := od_box HBX.out (Below.refl _ _)
  clear hi0 hz0 hz1 hz2
  by_cases hg : x.st = 1 ∧ x.rcv = 0 ∧ x.bil = 0 ∧ x.paid = 0
  · rw [od_place_ok hg]
    obtain ⟨g1, g2, g3, g4⟩ := hg
    have hsl : ∀ W, Below w.heap.size w W → Ods W W.heap.size A xs.length c xs := fun W hW => (hs.below hW).more hW.size
    have HC := hide (fun W (hW : Below w.heap.size w W) => oclone_at A c xs w W (hsl W hW) (by omega) hW)
    have hR : ∀ W A1 n1 c1, Below w.heap.size w W → Ods W W.heap.size A1 n1 c1 (xs ++ [x]) → Calls Try.prog 28 #[.slice A1 n1 c1] W fun e w' => e = .returned (.int .i64 (rightO (xs ++ [x]))) ∧ Below W.heap.size W w' :=
      fun W A1 n1 c1 hW h => oright_any A1 n1 c1 (xs ++ [x]) W h (fun y hy => by
        rcases List.mem_append.1 hy with hy | hy
        · exact ((hss y hy).below hW).more hW.size
        · rw [List.mem_singleton.1 hy]; exact (hx.below hW).more hW.size)
    have hyl : (xs ++ [x]).length = xs.length + 1 := by simp
    have HYL := hide hyl
    have hvb : ∀ W, Below ((w.alloc (.cells (odC x) 37)).alloc (.cells (odC x) 37)).drew.heap.size ((w.alloc (.cells (odC x) 37)).alloc (.cells (odC x) 37)).drew W → Ods W (w.heap.size + 1 + 1) (some ⟨w.heap.size + 1, 0, none⟩) 1 1 [x] := fun W hW => by
      have h := ((Box.new (w.alloc (.cells (odC x) 37)) 37 (odC x)).drew).below hW (by simp)
      rw [World.size_alloc] at h
      exact od_sl1 h
    have HVB := hide hvb
    clear hvb
    clear hs hss hx hsl hyl d0 d1 d2 d3 d4 d9
    have b1 : (x.st != 1) = false := by simpa using g1
    have b2 : (x.rcv != 0) = false := by simpa using g2
    have b3 : (x.bil != 0) = false := by simpa using g3
    have b4 : (x.paid != 0) = false := by simpa using g4
    clear g1 g2 g3 g4
    by_cases hr0 : rightO (xs ++ [x]) = 0
    · rw [if_pos hr0]
      rw [hr0] at hR
      have HR := hide hR
      clear hR hr0
      unfold odV
      go_enter Try.func30, Try.ntmps30
      go_wp2_with fail
      go_region_law (first
        | (go_simp; go_at_call 43; refine (HC.out _ (by first | exact HBW.out.drew | exact (HBW.out.alloc (by simp) _).drew | exact HBW.out.drew.alloc (by simp) _)).mono ?_; rintro e w4 ⟨v, rfl, hown, hb, hb4⟩; obtain ⟨_, s0, s1, s2, s3, s4, s5, s6, s7, s8, s9⟩ := od_box (by first | exact HBX.out.drew | exact (HBX.out.alloc _).drew | exact HBX.out.drew.alloc _) (hb.mono (by simp)); have HBk := hide hb; have hz4 := hb4.size; have HO4 := hide (own_base hown (by first | (simp; done) | (simp; omega)) : Odo w4 w.heap.size v xs); have HB4 := hide hb4; clear hown hb hb4)
        | (refine step_append_sl rfl (.tmp 27) (.tmp 29) 22 rfl w.heap.size 37 i0 _ 96 Try.underlying22 HI.out.1 HI.out.2.1 HI.out.2.2.1 HI.out.2.2.2 rfl (by decide) odE_len odE_one _ _ _ (by simp [Act.eval]; rfl) (by first | exact HO4.out | exact HO4.out.alloc _) _ 1 1 (by simp [Act.eval]; rfl) (by first | exact HVB.out _ HBk.out | exact od_sl1 (x := x) (Box.new _ _ _)) (by unfold maxLen; omega) (by omega) (by first | (simp; done) | (simp; omega) | omega) ?_; intro v1 w5 hown hg hat; have H5 := hide hown; have B5 := hide ((by first | exact HB4.out | exact HB4.out.alloc (by omega) _ : Below w.heap.size w _).grown hg (by first | omega | (simp; omega)) (by intro q hq; exact (HO4.out.lt q hq).1)); clear hown hg hat))
      all_goals
        have hl : (xs ++ [x]).flatMap odE = xs.flatMap odE ++ ([x] : List Od).flatMap odE := List.flatMap_append
        have ho : Odo w5 w.heap.size v1 (xs ++ [x]) := by unfold Odo; rw [HYL.out, hl]; exact H5.out
        obtain ⟨A1, c1, hv, hsl⟩ := Odo_sl ho (by rw [HYL.out]; omega)
        subst hv
        have HS6 := hide hsl
        have HR6 := hide (HR.out w5 A1 _ c1 B5.out hsl)
        generalize hm : (xs ++ [x]).length = m at HS6 HR6
        have HM := hide hm
        clear hl ho hsl hm H5
        go_wp2_with fail
        refine HR6.out.mono ?_
        rintro e w6 ⟨rfl, hb6⟩
        have HB6 := hide hb6
        clear hb6
        go_wp2
        go_ret2
        exact ⟨_, _, _, rfl, (HS6.out.below HB6.out).more HB6.out.size, B5.out.trans (HB6.out.mono B5.out.size)⟩
    · rw [if_neg hr0]
      have hrb : (rightO (xs ++ [x]) != 0) = true := by simpa using hr0
      generalize rightO (xs ++ [x]) = r at hR hrb ⊢
      have HR := hide hR
      clear hR hr0
      unfold odV
      go_enter Try.func30, Try.ntmps30
      go_wp2_with fail
      go_region_law (first
        | (go_simp; go_at_call 43; refine (HC.out _ (by first | exact HBW.out.drew | exact (HBW.out.alloc (by simp) _).drew | exact HBW.out.drew.alloc (by simp) _)).mono ?_; rintro e w4 ⟨v, rfl, hown, hb, hb4⟩; obtain ⟨_, s0, s1, s2, s3, s4, s5, s6, s7, s8, s9⟩ := od_box (by first | exact HBX.out.drew | exact (HBX.out.alloc _).drew | exact HBX.out.drew.alloc _) (hb.mono (by simp)); have HBk := hide hb; have hz4 := hb4.size; have HO4 := hide (own_base hown (by first | (simp; done) | (simp; omega)) : Odo w4 w.heap.size v xs); have HB4 := hide hb4; clear hown hb hb4)
        | (refine step_append_sl rfl (.tmp 27) (.tmp 29) 22 rfl w.heap.size 37 i0 _ 96 Try.underlying22 HI.out.1 HI.out.2.1 HI.out.2.2.1 HI.out.2.2.2 rfl (by decide) odE_len odE_one _ _ _ (by simp [Act.eval]; rfl) (by first | exact HO4.out | exact HO4.out.alloc _) _ 1 1 (by simp [Act.eval]; rfl) (by first | exact HVB.out _ HBk.out | exact od_sl1 (x := x) (Box.new _ _ _)) (by unfold maxLen; omega) (by omega) (by first | (simp; done) | (simp; omega) | omega) ?_; intro v1 w5 hown hg hat; have H5 := hide hown; have B5 := hide ((by first | exact HB4.out | exact HB4.out.alloc (by omega) _ : Below w.heap.size w _).grown hg (by first | omega | (simp; omega)) (by intro q hq; exact (HO4.out.lt q hq).1)); clear hown hg hat))
      all_goals
        have hl : (xs ++ [x]).flatMap odE = xs.flatMap odE ++ ([x] : List Od).flatMap odE := List.flatMap_append
        have ho : Odo w5 w.heap.size v1 (xs ++ [x]) := by unfold Odo; rw [HYL.out, hl]; exact H5.out
        obtain ⟨A1, c1, hv, hsl⟩ := Odo_sl ho (by rw [HYL.out]; omega)
        subst hv
        have HS6 := hide hsl
        have HR6 := hide (HR.out w5 A1 _ c1 B5.out hsl)
        generalize hm : (xs ++ [x]).length = m at HS6 HR6
        have HM := hide hm
        clear hl ho hsl hm H5
        go_wp2_with fail
        refine HR6.out.mono ?_
        rintro e w6 ⟨rfl, hb6⟩
        have HB6 := hide hb6
        clear hb6
        go_wp2
        go_ret2
        exact ResO.nil (B5.out.trans (HB6.out.mono B5.out.size))
  · rw [od_place_err hg]
    clear hs hss hx hn HI
    unfold odV
    by_cases h1 : x.st = 1
    · have b1 : (x.st != 1) = false := by simpa using h1
      by_cases h2 : x.rcv = 0
      · have b2 : (x.rcv != 0) = false := by simpa using h2
        by_cases h3 : x.bil = 0
        · have b3 : (x.bil != 0) = false := by simpa using h3
          have b4 : (x.paid != 0) = true := by simp only [bne_iff_ne]; intro h; exact hg ⟨h1, h2, h3, h⟩
          clear hg h1 h2 h3
          go_enter Try.func30, Try.ntmps30
          go_wp2
          go_ret2
          exact ResO.nil HBW.out
        · have b3 : (x.bil != 0) = true := by simpa using h3
          clear hg h1 h2 h3
          go_enter Try.func30, Try.ntmps30
          go_wp2
          go_ret2
          exact ResO.nil HBW.out
      · have b2 : (x.rcv != 0) = true := by simpa using h2
        clear hg h1 h2
        go_enter Try.func30, Try.ntmps30
        go_wp2
        go_ret2
        exact ResO.nil HBW.out
    · have b1 : (x.st != 1) = true := by simpa using h1
      clear hg h1
      go_enter Try.func30, Try.ntmps30
      go_wp2
      go_ret2
      exact ResO.nil HBW.out
end Go.Proofs.Ytdbanekjjibpbaa
