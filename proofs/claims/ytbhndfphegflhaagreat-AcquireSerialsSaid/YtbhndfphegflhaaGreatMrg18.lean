/- Texts laid together by merge.py: OdE, OdI, OdP, AqA. -/
import Derived.Test.YtbhndfphegflhaaGreatMrg17
import Derived.Test.YtbhndfphegflhaaGreatMrg7
import Derived.Test.YtbhndfphegflhaaGreatMrg5
import Derived.Test.YtbhndfphegflhaaGreatMrg15
import Derived.BigGuardPart
set_option linter.unusedSimpArgs false
set_option linter.unusedVariables false
/- Walks: libraryref39.Right. Printed by gen_od_right.py. -/
namespace Go.Proofs.YtbhndfphegflhaaGreat
open Go.RowKit

set_option maxRecDepth 100000 in
set_option maxHeartbeats 2000000 in
theorem r39right_any (A : Option Addr) (n c : Nat) (xs : List Od) (w : World) (hs : Ods w w.heap.size A n c xs) (hss : ∀ x ∈ xs, OdS w w.heap.size x) :
    Calls Tryz.prog 56 #[.slice A n c] w fun e w' => e = .returned (.int .i64 (rightO xs)) ∧ Below w.heap.size w w' := by
  obtain rfl := hs.len
  have hle := hs.le
  have hbig := hs.big
  have HS := hide hs
  have HSS := hide hss
  clear hs hss
  by_cases h64 : 64 < xs.length
  · have hr : rightO xs = 13 := by unfold rightO; rw [if_pos h64]
    rw [hr]
    clear hr
    go_enter Tryz.func56, Tryz.ntmps56
    go_wp2
    go_ret
    exact ⟨rfl, Below.refl _ _⟩
  · have hr : rightO xs = chkOs none xs := by unfold rightO; rw [if_neg h64]
    have HR := hide hr
    clear hr
    go_enter Tryz.func56, Tryz.ntmps56
    go_wp2
    go_loopw [3] (fun i wr => ∃ k : Nat, k ≤ xs.length ∧ i = .int .i64 k ∧ Below w.heap.size w wr ∧ chkOs none xs = chkOs (prevO xs k) (xs.drop k)) (fun i _ => xs.length - (intOf i).toNat)
    case atStart => exact ⟨0, Nat.zero_le _, rfl, Below.refl _ _, rfl⟩
    case round =>
      obtain ⟨k, hk, rfl, hb, ha⟩ := hrel
      have HA := hide ha
      have HB := hide hb
      have hz := hb.size
      clear ha hb
      by_cases hlt : k < xs.length
      · obtain ⟨b, off, x, rfl, hbB, hx, c0, c1, c2, c3, c4, c5, c6, c7, c8, c9⟩ := Ods_at (HS.out.below HB.out) hlt
        have HX := hide (chkOs_step hx)
        have HBW := HB
        have hc := fun W (hW : Below w.heap.size w W) => shape_any x W (((HSS.out x (List.mem_of_getElem? hx)).below hW).more hW.size)
        generalize chkO x = ce at hc HX
        unfold odV at hc
        have HC := hide hc
        clear hx hc
        by_cases hk0 : k = 0
        · subst hk0
          simp only [Nat.zero_mul, Nat.add_zero] at c0 c1 c2 c3 c4 c5 c6 c7 c8 c9
          have HLE := hide (show ¬ (prevO xs 0).any (fun q => decide (x.id ≤ q)) = true from by rw [prevO, anyO_none]; decide)
          by_cases hce : (ce != 0) = true
          · have hn : ¬ ce = 0 := by simpa using hce
            have HCE := hide hce
            clear hce
            go_wp2_with fail
            go_quiet (fail)
            go_wp2_with fail
            refine (HC.out _ (below_drewN HBW.out _)).mono ?_
            rintro e w' ⟨rfl, hb'⟩
            go_wp2
            go_ret
            exact ⟨ret_int (by rw [HR.out, HA.out, HX.out, if_neg HLE.out, if_pos HCE.out]), (below_drewN HBW.out _).trans (hb'.mono (Below.size (below_drewN HBW.out _)))⟩
          · have hn : ce = 0 := by simpa using hce
            have HCE := hide hce
            clear hce
            subst hn
            go_wp2_with fail
            go_quiet (fail)
            go_wp2_with fail
            refine (HC.out _ (below_drewN HBW.out _)).mono ?_
            rintro e w' ⟨rfl, hb'⟩
            go_wp2
            go_roundw
            case rel => exact ⟨1, by omega, rfl, (below_drewN HBW.out _).trans (hb'.mono (Below.size (below_drewN HBW.out _))), by rw [HA.out, HX.out, if_neg HLE.out, if_neg HCE.out]⟩
            case measure => simp [intOf]; omega
        · obtain ⟨b', off', y, hA, hbB', hy, d0, d1, d2, d3, d4, d5, d6, d7, d8, d9⟩ := Ods_at (HS.out.below HB.out) (k := k - 1) (by omega)
          cases hA
          have hpr : prevO xs k = some y.id := by
            obtain ⟨j, rfl⟩ : ∃ j, k = j + 1 := ⟨k - 1, by omega⟩
            rw [prevO]
            simp only [Nat.add_sub_cancel] at hy
            rw [hy]; rfl
          have d0' := fun o => (World.cell?_alloc_lt wr o ⟨b, off + (k - 1) * 10, none⟩ (Nat.lt_of_lt_of_le hbB hz)).trans d0
          have HPR := hide hpr
          clear hy d1 d2 d3 d4 d5 d6 d7 d8 d9 hpr
          have hk1 : (0 : Int) < (k : Int) := by omega
          have hk2 : 0 < k := by omega
          by_cases hxy : x.id ≤ y.id
          · have HXY := hide hxy
            go_wp2_with fail
            go_quiet (fail)
            go_wp2
            go_ret
            exact ⟨ret_int (by rw [HR.out, HA.out, HX.out, HPR.out, if_pos (show (some y.id).any (fun q => decide (x.id ≤ q)) = true from decide_eq_true HXY.out)]), below_drewN HBW.out _⟩
          · have HLE := hide (show ¬ (prevO xs k).any (fun q => decide (x.id ≤ q)) = true from by rw [HPR.out]; simpa using hxy)
            have hd : decide (x.id ≤ y.id) = false := by simpa using hxy
            by_cases hce : (ce != 0) = true
            · have hn : ¬ ce = 0 := by simpa using hce
              have HCE := hide hce
              clear hce
              go_wp2_with fail
              go_quiet (fail)
              go_wp2_with fail
              refine (HC.out _ (below_drewN HBW.out _)).mono ?_
              rintro e w' ⟨rfl, hb'⟩
              go_wp2
              go_ret
              exact ⟨ret_int (by rw [HR.out, HA.out, HX.out, if_neg HLE.out, if_pos HCE.out]), (below_drewN HBW.out _).trans (hb'.mono (Below.size (below_drewN HBW.out _)))⟩
            · have hn : ce = 0 := by simpa using hce
              have HCE := hide hce
              clear hce
              subst hn
              go_wp2_with fail
              go_quiet (fail)
              go_wp2_with fail
              refine (HC.out _ (below_drewN HBW.out _)).mono ?_
              rintro e w' ⟨rfl, hb'⟩
              go_wp2
              go_roundw
              case rel => exact ⟨k + 1, by omega, by go_num, (below_drewN HBW.out _).trans (hb'.mono (Below.size (below_drewN HBW.out _))), by rw [HA.out, HX.out, if_neg HLE.out, if_neg HCE.out]⟩
              case measure => simp [intOf]; omega
      · obtain rfl : k = xs.length := by omega
        go_wp2
        go_ret
        exact ⟨ret_int (by rw [HR.out, HA.out, List.drop_length]; rfl), HB.out⟩
end Go.Proofs.YtbhndfphegflhaaGreat

/- Walks: Place of both. -/
namespace Go.Proofs.YtbhndfphegflhaaGreat
open Go.RowKit

theorem od_place_err {xs : List Od} {x : Od} (h : ¬ (x.st = 1 ∧ x.rcv = 0 ∧ x.bil = 0 ∧ x.paid = 0)) : placeO xs x = (12, []) := by unfold placeO; rw [if_neg h]
theorem od_place_ok {xs : List Od} {x : Od} (h : x.st = 1 ∧ x.rcv = 0 ∧ x.bil = 0 ∧ x.paid = 0) : placeO xs x = if rightO (xs ++ [x]) = 0 then (0, xs ++ [x]) else (rightO (xs ++ [x]), []) := by unfold placeO; rw [if_pos h]

/-- Clone, with what it leaves of an older world. -/
theorem oclone_at (A : Option Addr) (c : Nat) (xs : List Od) (w W : World) (hs : Ods W W.heap.size A xs.length c xs) (hn : xs.length ≤ 1000) (hW : Below w.heap.size w W) :
    Calls Tryz.prog 117 #[.slice A xs.length c] W fun e w' => ∃ v, e = .returned v ∧ Odo w' W.heap.size v xs ∧ Below W.heap.size W w' ∧ Below w.heap.size w w' :=
  (od_clone A xs.length c xs W hs hn).mono fun _ _ ⟨v, he, ho, hb⟩ => ⟨v, he, ho, hb, hW.trans (hb.mono hW.size)⟩

set_option maxRecDepth 100000 in
set_option maxHeartbeats 2000000 in
theorem oplace_any (A : Option Addr) (n c : Nat) (xs : List Od) (x : Od) (w : World) (hs : Ods w w.heap.size A n c xs) (hss : ∀ y ∈ xs, OdS w w.heap.size y) (hx : OdS w w.heap.size x) (hn : n ≤ 60) :
    Calls Tryz.prog 60 #[.slice A n c, odV x] w (ResO w (placeO xs x)) := by
  obtain ⟨i0, hi0, hz0, hz1, hz2⟩ := info_parts od_info
  obtain rfl := hs.len
  have HI := hide (And.intro hi0 (And.intro hz0 (And.intro hz1 hz2)))
  have hle := hs.le
  have hbig := hs.big
  have HBW := hide ((Below.refl w.heap.size w).alloc (Nat.le_refl _) (.cells (odC x) 35))
  have HBX := hide (Box.new w 35 (odC x))
  obtain ⟨_, d0, d1, d2, d3, d4, d5, d6, d7, d8, d9⟩ := od_box HBX.out (Below.refl _ _)
  clear hi0 hz0 hz1 hz2
  by_cases hg : x.st = 1 ∧ x.rcv = 0 ∧ x.bil = 0 ∧ x.paid = 0
  · rw [od_place_ok hg]
    obtain ⟨g1, g2, g3, g4⟩ := hg
    have hsl : ∀ W, Below w.heap.size w W → Ods W W.heap.size A xs.length c xs := fun W hW => (hs.below hW).more hW.size
    have HC := hide (fun W (hW : Below w.heap.size w W) => oclone_at A c xs w W (hsl W hW) (by omega) hW)
    have hR : ∀ W A1 n1 c1, Below w.heap.size w W → Ods W W.heap.size A1 n1 c1 (xs ++ [x]) → Calls Tryz.prog 108 #[.slice A1 n1 c1] W fun e w' => e = .returned (.int .i64 (rightO (xs ++ [x]))) ∧ Below W.heap.size W w' :=
      fun W A1 n1 c1 hW h => oright_any A1 n1 c1 (xs ++ [x]) W h (fun y hy => by
        rcases List.mem_append.1 hy with hy | hy
        · exact ((hss y hy).below hW).more hW.size
        · rw [List.mem_singleton.1 hy]; exact (hx.below hW).more hW.size)
    have hyl : (xs ++ [x]).length = xs.length + 1 := by simp
    have HYL := hide hyl
    have hvb : ∀ W, Below ((w.alloc (.cells (odC x) 35)).alloc (.cells (odC x) 35)).drew.heap.size ((w.alloc (.cells (odC x) 35)).alloc (.cells (odC x) 35)).drew W → Ods W (w.heap.size + 1 + 1) (some ⟨w.heap.size + 1, 0, none⟩) 1 1 [x] := fun W hW => by
      have h := ((Box.new (w.alloc (.cells (odC x) 35)) 35 (odC x)).drew).below hW (by simp)
      rw [World.size_alloc] at h
      exact od_sl1 h
    have HVB := hide hvb
    clear hvb
    clear hs hss hx hsl hyl d0 d1 d2 d3 d4 d9
    have b1 : (x.st != 1) = false := by simpa using g1
    have b2 : (x.rcv != 0) = false := by simpa using g2
    have b3 : (x.bil != 0) = false := by simpa using g3
    have b4 : (x.paid != 0) = false := by simpa using g4
    clear g1 g2 g3 g4
    by_cases hr0 : rightO (xs ++ [x]) = 0
    · rw [if_pos hr0]
      rw [hr0] at hR
      have HR := hide hR
      clear hR hr0
      unfold odV
      go_enter Tryz.func60, Tryz.ntmps60
      go_wp2_with fail
      go_region_law (first
        | (go_simp; go_at_call 117; refine (HC.out _ (by first | exact HBW.out.drew | exact (HBW.out.alloc (by simp) _).drew | exact HBW.out.drew.alloc (by simp) _)).mono ?_; rintro e w4 ⟨v, rfl, hown, hb, hb4⟩; obtain ⟨_, s0, s1, s2, s3, s4, s5, s6, s7, s8, s9⟩ := od_box (by first | exact HBX.out.drew | exact (HBX.out.alloc _).drew | exact HBX.out.drew.alloc _) (hb.mono (by simp)); have HBk := hide hb; have hz4 := hb4.size; have HO4 := hide (own_base hown (by first | (simp; done) | (simp; omega)) : Odo w4 w.heap.size v xs); have HB4 := hide hb4; clear hown hb hb4)
        | (refine step_append_sl rfl (.tmp 27) (.tmp 29) 23 rfl w.heap.size 35 i0 _ 96 Tryz.underlying23 HI.out.1 HI.out.2.1 HI.out.2.2.1 HI.out.2.2.2 rfl (by decide) odE_len odE_one _ _ _ (by simp [Act.eval]; rfl) (by first | exact HO4.out | exact HO4.out.alloc _) _ 1 1 (by simp [Act.eval]; rfl) (by first | exact HVB.out _ HBk.out | exact od_sl1 (x := x) (Box.new _ _ _)) (by unfold maxLen; omega) (by omega) (by first | (simp; done) | (simp; omega) | omega) ?_; intro v1 w5 hown hg hat; have H5 := hide hown; have B5 := hide ((by first | exact HB4.out | exact HB4.out.alloc (by omega) _ : Below w.heap.size w _).grown hg (by first | omega | (simp; omega)) (by intro q hq; exact (HO4.out.lt q hq).1)); clear hown hg hat))
      all_goals
        have hl : (xs ++ [x]).flatMap odE = xs.flatMap odE ++ ([x] : List Od).flatMap odE := List.flatMap_append
        have ho : Odo w5 w.heap.size v1 (xs ++ [x]) := by unfold Odo; rw [HYL.out, hl]; exact H5.out
        obtain ⟨A1, c1, hv, hsl⟩ := Odo_sl ho (by rw [HYL.out]; omega)
        subst hv
        have HS6 := hide hsl
        have HR6 := hide (HR.out w5 A1 _ c1 B5.out hsl)
        generalize hm : (xs ++ [x]).length = m at HS6 HR6
        have HM := hide hm
        clear hl ho hsl hm H5
        go_wp2_with fail
        refine HR6.out.mono ?_
        rintro e w6 ⟨rfl, hb6⟩
        have HB6 := hide hb6
        clear hb6
        go_wp2
        go_ret2
        exact ⟨_, _, _, rfl, (HS6.out.below HB6.out).more HB6.out.size, B5.out.trans (HB6.out.mono B5.out.size)⟩
    · rw [if_neg hr0]
      have hrb : (rightO (xs ++ [x]) != 0) = true := by simpa using hr0
      generalize rightO (xs ++ [x]) = r at hR hrb ⊢
      have HR := hide hR
      clear hR hr0
      unfold odV
      go_enter Tryz.func60, Tryz.ntmps60
      go_wp2_with fail
      go_region_law (first
        | (go_simp; go_at_call 117; refine (HC.out _ (by first | exact HBW.out.drew | exact (HBW.out.alloc (by simp) _).drew | exact HBW.out.drew.alloc (by simp) _)).mono ?_; rintro e w4 ⟨v, rfl, hown, hb, hb4⟩; obtain ⟨_, s0, s1, s2, s3, s4, s5, s6, s7, s8, s9⟩ := od_box (by first | exact HBX.out.drew | exact (HBX.out.alloc _).drew | exact HBX.out.drew.alloc _) (hb.mono (by simp)); have HBk := hide hb; have hz4 := hb4.size; have HO4 := hide (own_base hown (by first | (simp; done) | (simp; omega)) : Odo w4 w.heap.size v xs); have HB4 := hide hb4; clear hown hb hb4)
        | (refine step_append_sl rfl (.tmp 27) (.tmp 29) 23 rfl w.heap.size 35 i0 _ 96 Tryz.underlying23 HI.out.1 HI.out.2.1 HI.out.2.2.1 HI.out.2.2.2 rfl (by decide) odE_len odE_one _ _ _ (by simp [Act.eval]; rfl) (by first | exact HO4.out | exact HO4.out.alloc _) _ 1 1 (by simp [Act.eval]; rfl) (by first | exact HVB.out _ HBk.out | exact od_sl1 (x := x) (Box.new _ _ _)) (by unfold maxLen; omega) (by omega) (by first | (simp; done) | (simp; omega) | omega) ?_; intro v1 w5 hown hg hat; have H5 := hide hown; have B5 := hide ((by first | exact HB4.out | exact HB4.out.alloc (by omega) _ : Below w.heap.size w _).grown hg (by first | omega | (simp; omega)) (by intro q hq; exact (HO4.out.lt q hq).1)); clear hown hg hat))
      all_goals
        have hl : (xs ++ [x]).flatMap odE = xs.flatMap odE ++ ([x] : List Od).flatMap odE := List.flatMap_append
        have ho : Odo w5 w.heap.size v1 (xs ++ [x]) := by unfold Odo; rw [HYL.out, hl]; exact H5.out
        obtain ⟨A1, c1, hv, hsl⟩ := Odo_sl ho (by rw [HYL.out]; omega)
        subst hv
        have HS6 := hide hsl
        have HR6 := hide (HR.out w5 A1 _ c1 B5.out hsl)
        generalize hm : (xs ++ [x]).length = m at HS6 HR6
        have HM := hide hm
        clear hl ho hsl hm H5
        go_wp2_with fail
        refine HR6.out.mono ?_
        rintro e w6 ⟨rfl, hb6⟩
        have HB6 := hide hb6
        clear hb6
        go_wp2
        go_ret2
        exact ResO.nil (B5.out.trans (HB6.out.mono B5.out.size))
  · rw [od_place_err hg]
    clear hs hss hx hn HI
    unfold odV
    by_cases h1 : x.st = 1
    · have b1 : (x.st != 1) = false := by simpa using h1
      by_cases h2 : x.rcv = 0
      · have b2 : (x.rcv != 0) = false := by simpa using h2
        by_cases h3 : x.bil = 0
        · have b3 : (x.bil != 0) = false := by simpa using h3
          have b4 : (x.paid != 0) = true := by simp only [bne_iff_ne]; intro h; exact hg ⟨h1, h2, h3, h⟩
          clear hg h1 h2 h3
          go_enter Tryz.func60, Tryz.ntmps60
          go_wp2
          go_ret2
          exact ResO.nil HBW.out
        · have b3 : (x.bil != 0) = true := by simpa using h3
          clear hg h1 h2 h3
          go_enter Tryz.func60, Tryz.ntmps60
          go_wp2
          go_ret2
          exact ResO.nil HBW.out
      · have b2 : (x.rcv != 0) = true := by simpa using h2
        clear hg h1 h2
        go_enter Tryz.func60, Tryz.ntmps60
        go_wp2
        go_ret2
        exact ResO.nil HBW.out
    · have b1 : (x.st != 1) = true := by simpa using h1
      clear hg h1
      go_enter Tryz.func60, Tryz.ntmps60
      go_wp2
      go_ret2
      exact ResO.nil HBW.out
end Go.Proofs.YtbhndfphegflhaaGreat

/- Walks: the reference's Split; few, valid, one. -/
namespace Go.Proofs.YtbhndfphegflhaaGreat
open Go.RowKit

theorem mnyS_win (t : Int) : winB t 0 100000000 = mnyS t := rfl
set_option maxRecDepth 100000 in
set_option maxHeartbeats 2000000 in
theorem rsplit_any (x : Od) (t : Int) (w : World) (hs : OdS w w.heap.size x) (hv : sharesV x.sh = true) :
    Calls Tryz.prog 125 #[odV x, .int .i64 t] w (ResI w (splitO x t)) := by
  obtain ⟨i0, hi0, hz0, hz1, hz2⟩ := info_parts int_info
  have HI := hide (And.intro hi0 (And.intro hz0 (And.intro hz1 hz2)))
  obtain ⟨⟨v1, v2⟩, _⟩ := sharesV_W hv
  have hlen := hs.len
  have hle := hs.le
  have hbig := hs.big
  have HBW := hide ((Below.refl w.heap.size w).alloc (Nat.le_refl _) (.cells (odC x) 35))
  have HBX := hide (Box.new w 35 (odC x))
  have H1 := hide (fun W => r04right_any t W)
  rw [mnyS_win] at H1
  clear hi0 hz0 hz1 hz2
  by_cases ht : mnyS t = true
  · have e1 : splitO x t = (0, shareF t (wsO x)) := by unfold splitO; rw [if_pos ht]
    rw [e1]
    have HV := hide (wsO_V hv ht)
    have hn4 : x.shn ≤ 4 := by omega
    rw [ht] at H1
    have HS := hide hs
    have HLEN := hide hlen
    clear hs hv ht e1 hlen v1 v2
    unfold odV
    go_enter Tryz.func125, Tryz.ntmps125
    go_wp2_with (go_at_call 163; refine (H1.out _).mono ?_; rintro e w' ⟨rfl, rfl⟩)
    go_loopw [6, 7] (fun v s7 wr => ∃ k : Nat, k ≤ x.shn ∧ s7 = .int .i64 k ∧ Ino wr (w.heap.size + 1) v (wsT x k) ∧ Below (w.heap.size + 1) (w.alloc (.cells (odC x) 35)) wr) (fun _ s7 _ => x.shn - (intOf s7).toNat)
    case atStart => exact ⟨0, Nat.zero_le _, rfl, World.ownsRow_nil _ _ _ _, Below.refl _ _⟩
    case round =>
      obtain ⟨k, hk, rfl, ho, hb⟩ := hrel
      have hbw : Below w.heap.size w wr := below_call (o := .cells (odC x) 35) (by rw [World.size_alloc]; exact hb)
      have HO := hide ho
      have HB := hide hb
      clear HBW
      have HBW := hide hbw
      have hz : w.heap.size + 1 ≤ wr.heap.size := by have := hb.size; simpa using this
      obtain ⟨_, d0, d1, d2, d3, d4, d5, d6, d7, d8, d9⟩ := od_box HBX.out hb
      have hl : (wsT x k).length = k := ws_len (by have := HLEN.out; omega)
      have HL := hide hl
      clear ho hb hl hbw d0 d1 d2 d3 d4 d5 d6 d7 d8
      by_cases hlt : k < x.shn
      · obtain ⟨b, off, y, hA, hbB, hy, c0, c1⟩ := Shs_at (HS.out.below HBW.out) hlt
        have HST := hide (ws_step hy)
        have HSRC := hide (fun w' g (z : Int) (h : Box w' g 3 #[.int .i64 z]) => in_sl1 h)
        have hown2 : ∀ o, (wr.alloc o).ownsRow (w.heap.size + 1) 3 1 u6 (wsT x k).length ((wsT x k).flatMap inE) := fun o => HO.out.alloc o
        have HO2 := hide hown2
        have hkz : (k : Int) < (x.shn : Int) := by omega
        rw [hA] at d9
        have HA := hide hA
        clear hy hown2 hA
        go_wp2_with (at_builtin; go_must (refine wpList_append_sl _ rfl _ _ 65 rfl (w.heap.size + 1) 3 i0 _ 8 Tryz.underlying65 HI.out.1 HI.out.2.1 HI.out.2.2.1 HI.out.2.2.2 rfl (by decide) inE_len inE_one _ _ _ rfl (HO2.out _) _ 1 1 rfl (HSRC.out _ _ y.weight (Box.new _ _ _)) (by rw [HL.out]; unfold maxLen; omega) (by rw [HL.out]; omega) (by simp; omega) ?_))
        intro v' w1 hown hg hat
        have H5 := hide hown
        have H6 := hide ((HB.out.alloc (by simpa using hz) _).grown hg (by simp; omega) (by intro q hq; exact (HO.out.lt q hq).1))
        clear hown hg hat
        go_wp2
        go_roundw
        case rel =>
          refine ⟨k + 1, by omega, by go_num, ?_, H6.out⟩
          unfold Ino
          rw [HST.out, List.flatMap_append, List.length_append]
          simpa using H5.out
        case measure => simp [intOf]; omega
      · have hkx : wsT x k = wsO x := ws_all (by have := HLEN.out; omega)
        have ho := HO.out
        rw [hkx] at ho
        have hwl : (wsO x).length = x.shn := by have := HLEN.out; simp [wsO]; omega
        obtain ⟨A1, c1, hv, hsl⟩ := Ino_sl ho (by omega)
        rw [hwl] at hv hsl
        subst hv
        have HP := hide (rshare_any t A1 _ c1 (wsO x) wr hsl HV.out)
        have HWL := hide hwl
        clear hkx ho hwl hsl HO HL
        go_wp2_with fail
        refine HP.out.mono ?_
        rintro e w3 ⟨v, rfl, hown, hb3⟩
        have H5 := hide hown
        have H6 := hide hb3
        clear hown hb3
        go_wp2
        go_ret2
        exact ⟨_, rfl, own_base H5.out (by omega), HBW.out.trans (H6.out.mono (by omega))⟩
  · have ht' : mnyS t = false := by simpa using ht
    have e1 : splitO x t = (2, []) := by unfold splitO; rw [if_neg ht]
    rw [e1]
    rw [ht'] at H1
    clear hs hv ht ht' e1
    unfold odV
    go_enter Tryz.func125, Tryz.ntmps125
    go_wp2_with (go_at_call 163; refine (H1.out _).mono ?_; rintro e w' ⟨rfl, rfl⟩)
    go_ret2
    exact ResI.nil HBW.out

end Go.Proofs.YtbhndfphegflhaaGreat

/- Walks: part and Reserved of the reference. -/
namespace Go.Proofs.YtbhndfphegflhaaGreat
open Go.RowKit

theorem zip_step {α β : Type} {xs : List α} {ys : List β} {k : Nat} {x : α} {y : β} (h : xs[k]? = some x) (h' : ys[k]? = some y) : (xs.zip ys).take (k + 1) = (xs.zip ys).take k ++ [(x, y)] :=
  take_step (List.getElem?_zip_eq_some.2 ⟨h, h'⟩)
theorem partO_zip {o : Od} {am : Int} (id : Int) (ht : mnyS am = true) : partO o am id = prtL (o.sh.zip (shareF am (wsO o))) id := by
  unfold partO splitO; rw [if_pos ht, if_pos rfl]
theorem partO_bad {o : Od} {am : Int} (id : Int) (ht : ¬ mnyS am = true) : partO o am id = 0 := by
  unfold partO splitO; rw [if_neg ht]; rfl

set_option maxRecDepth 100000 in
set_option maxHeartbeats 2000000 in
theorem rpart_any (o : Od) (am id : Int) (w : World) (hs : OdS w w.heap.size o) (hv : sharesV o.sh = true) :
    Calls Tryz.prog 66 #[odV o, .int .i64 am, .int .i64 id] w fun e w' => e = .returned (.int .i64 (partO o am id)) ∧ Below w.heap.size w w' := by
  have B0 := hide ((Below.refl w.heap.size w).alloc (Nat.le_refl _) (.cells (odC o) 35))
  have X0 := hide (Box.new w 35 (odC o))
  have HSp := hide (rsplit_any o am _ ((hs.below B0.out).more B0.out.size) hv)
  obtain ⟨⟨v1, v2⟩, _⟩ := sharesV_W hv
  have hlen := hs.len
  have hbig := hs.big
  have hn4 : o.shn ≤ 4 := by omega
  have HS := hide hs
  by_cases ht : mnyS am = true
  · rw [partO_zip id ht]
    have hw := wsO_V hv ht
    have HBD := hide (shareF_bd' hw)
    have HLS := hide (show (shareF am (wsO o)).length = o.shn by rw [shareF_len, wsO, List.length_map, hlen])
    have e1 : splitO o am = (0, shareF am (wsO o)) := by unfold splitO; rw [if_pos ht]
    rw [e1] at HSp
    obtain ⟨l, hl⟩ : ∃ l, shareF am (wsO o) = l := ⟨_, rfl⟩
    rw [hl] at HSp HBD HLS ⊢
    have HLEN := hide hlen
    clear hw ht e1 hl hv hs v1 v2 hlen
    unfold odV at HSp ⊢
    go_enter Tryz.func66, Tryz.ntmps66
    go_wp2_with fail
    refine HSp.out.mono ?_
    rintro e w1 ⟨v, rfl, ho, hb⟩
    obtain ⟨A1, c1, hv, hsl⟩ := Ino_sl ho (by show l.length ≤ _; have := HLS.out; omega)
    subst hv
    have hll : l.length = o.shn := HLS.out
    rw [hll] at hsl ⊢
    have HSL := hide hsl
    have B1 := hide (B0.out.trans (hb.mono B0.out.size))
    have X1 := hide (X0.out.below hb (by simp))
    have q9 := X1.out.cell 9
    simp at q9
    clear ho hb hsl HSp hll
    go_wp2
    go_loop [9, 10] (fun s9 s10 => ∃ k : Nat, k ≤ o.shn ∧ s10 = .int .i64 k ∧ s9 = .int .i64 (prtL ((o.sh.zip l).take k) id)) (fun _ s10 => o.shn - (intOf s10).toNat)
    case atStart => exact ⟨0, Nat.zero_le _, rfl, rfl⟩
    case round =>
      obtain ⟨k, hk, rfl, rfl⟩ := hrel
      obtain ⟨sm, hsm⟩ : ∃ sm, prtL ((o.sh.zip l).take k) id = sm := ⟨_, rfl⟩
      have hbs : 0 ≤ sm ∧ sm ≤ 100000000016 * 4 := by
        have h := prtL_bd ((o.sh.zip l).take k) id (fun p hp => HBD.out p.2 (List.of_mem_zip (List.mem_of_mem_take hp)).2)
        rw [hsm, List.length_take] at h
        omega
      have HSM := hide hsm
      rw [hsm]
      clear hsm
      by_cases hlt : k < o.shn
      · obtain ⟨b, off, y, hA, hbB, hy, c0, _⟩ := Shs_at (HS.out.below B1.out) hlt
        obtain ⟨b', off', u, hA', hbB', hu, d0⟩ := Is_at HSL.out hlt
        have hkz : (k : Int) < (o.shn : Int) := by omega
        have HST := hide (zip_step hy hu)
        have hu2 := HBD.out u (List.mem_of_getElem? hu)
        rw [hA] at q9
        subst hA'
        have e1 : IntKind.i64.wrap (sm + u) = sm + u := by rw [IntKind.wrap_i64]; omega
        clear hy hu hA
        by_cases hq : y.fund = id
        · have hq' : (y.fund == id) = true := by simpa using hq
          have HNX := hide (show prtL ((o.sh.zip l).take (k + 1)) id = sm + u by rw [HST.out, prtL_snoc, HSM.out, if_pos hq])
          clear hq
          go_wp2
          go_round
          case rel => exact ⟨k + 1, by omega, by go_num, by rw [HNX.out]⟩
          case measure => simp [intOf]; omega
        · have hq' : (y.fund == id) = false := by simpa using hq
          have HNX := hide (show prtL ((o.sh.zip l).take (k + 1)) id = sm by rw [HST.out, prtL_snoc, HSM.out, if_neg hq]; omega)
          clear hq
          go_wp2
          go_round
          case rel => exact ⟨k + 1, by omega, by go_num, by rw [HNX.out]⟩
          case measure => simp [intOf]; omega
      · have hkz : ¬ (k : Int) < (o.shn : Int) := by omega
        have HR := hide (show prtL (o.sh.zip l) id = sm by rw [← HSM.out, List.take_of_length_le (by rw [List.length_zip, HLS.out]; omega)])
        go_wp2
        go_ret
        exact ⟨ret_int HR.out.symm, B1.out⟩
  · rw [partO_bad id ht]
    have e1 : splitO o am = (2, []) := by unfold splitO; rw [if_neg ht]
    rw [e1] at HSp
    clear ht e1 hv hs v1 v2 hlen
    unfold odV at HSp ⊢
    go_enter Tryz.func66, Tryz.ntmps66
    go_wp2_with fail
    refine HSp.out.mono ?_
    rintro e w1 ⟨v, rfl, ho, hb⟩
    have B1 := hide (B0.out.trans (hb.mono B0.out.size))
    clear hb HSp
    go_wp2
    go_ret
    exact ⟨rfl, B1.out⟩

set_option maxRecDepth 100000 in
set_option maxHeartbeats 4000000 in
theorem rrsvA_any (a : Aq) (id : Int) (w : World) (hs : Ods w w.heap.size a.oA a.on a.oc a.o) (hss : ∀ x ∈ a.o, OdS w w.heap.size x) (hv : VldO a.o) :
    Calls Tryz.prog 40 #[aqV a, .int .i64 id] w fun e w' => e = .returned (.int .i64 (rsvA a.o id)) ∧ Below w.heap.size w w' := by
  have Z0 := hide (Below.refl (w.heap.size + 1) (w.alloc (.cells (aqC a) 27)))
  have B0 := hide ((Below.refl w.heap.size w).alloc (Nat.le_refl _) (.cells (aqC a) 27))
  have X0 := hide (Box.new w 27 (aqC a))
  have hlen := hs.len
  have hbig := hs.big
  have h64 : a.on ≤ 64 := by have := hv.len; omega
  have HS := hide hs
  have HSS := hide hss
  have HV := hide hv
  have HLEN := hide hlen
  clear hs hss hv hlen
  unfold aqV
  go_enter Tryz.func40, Tryz.ntmps40
  go_wp2
  go_loopw [5, 6] (fun s5 s6 wr => ∃ k : Nat, k ≤ a.on ∧ s6 = .int .i64 k ∧ s5 = .int .i64 (rsvA (a.o.take k) id) ∧ Below (w.heap.size + 1) (w.alloc (.cells (aqC a) 27)) wr) (fun _ s6 _ => a.on - (intOf s6).toNat)
  case atStart => exact ⟨0, Nat.zero_le _, rfl, rfl, Z0.out⟩
  case round =>
    obtain ⟨k, hk, rfl, rfl, hb⟩ := hrel
    have Z1 := hide hb
    have X1 := hide (X0.out.below hb (by omega))
    have hz1 : w.heap.size + 1 ≤ wr.heap.size := by have := hb.size; simpa using this
    have B1 := hide (B0.out.trans (hb.mono (by omega)))
    have q2 := X1.out.cell 2
    simp at q2
    clear hb
    obtain ⟨sm, hsm⟩ : ∃ sm, rsvA (a.o.take k) id = sm := ⟨_, rfl⟩
    have hbs : 0 ≤ sm ∧ sm ≤ 400000000064 * 64 := by
      have h := rsvA_bd (os := a.o.take k) (fun o ho => HV.out.sh o (List.mem_of_mem_take ho)) id
      rw [hsm, List.length_take] at h
      omega
    have HSM := hide hsm
    rw [hsm]
    clear hsm
    by_cases hlt : k < a.on
    · obtain ⟨b, off, x, hA, hbB, hx, c0, c1, c2, c3, c4, c5, c6, c7, c8, c9⟩ := Ods_at (HS.out.below B1.out) hlt
      have hkz : (k : Int) < (a.on : Int) := by omega
      have hm := List.mem_of_getElem? hx
      have hsv := HV.out.sh x hm
      have HRS := hide (fun W => rresv_any x W (HV.out.M x hm))
      have HPT := hide (fun am W (hW : Below w.heap.size w W) => rpart_any x am id W (((HSS.out x hm).below hW).more hW.size) hsv)
      have hpb := partO_bd hsv (resvO x) id
      have HST := hide (show rsvA (a.o.take (k + 1)) id = sm + partO x (resvO x) id by rw [take_step hx, rsv_snoc, HSM.out])
      obtain ⟨rv, hrv⟩ : ∃ rv, resvO x = rv := ⟨_, rfl⟩
      rw [hrv] at HRS hpb HST
      have HPT := hide (fun W hW => HPT.out rv W hW)
      obtain ⟨pt, hpt⟩ : ∃ pt, partO x rv id = pt := ⟨_, rfl⟩
      rw [hpt] at HPT hpb HST
      rw [hA] at q2
      have e1 : IntKind.i64.wrap (sm + pt) = sm + pt := by rw [IntKind.wrap_i64]; omega
      unfold odV at HRS HPT
      have g2 := Grn.cell q2
      have g0 := Grn.cell c0
      have g1 := Grn.cell c1
      have g3 := Grn.cell c3
      have g4 := Grn.cell c4
      have g5 := Grn.cell c5
      have g6 := Grn.cell c6
      have g7 := Grn.cell c7
      have g8 := Grn.cell c8
      have g9 := Grn.cell c9
      have gv := Grn.cell c2
      clear hx hm hsv hrv hpt hA
      go_wp2_with fail
      refine wp_region_grn (by kernel_rfl) (by kernel_rfl) ?_
      repeat (go_big_quiet_step (first | (go_at_call 67; exact Calls_grn (HRS.out _)) | (go_at_call 66; exact Calls_grn (HPT.out _ (B1.out.trans ((Grn.h _).mono B1.out.size))))))
      refine wpQuiet_nil ?_
      rintro _ ⟨q, rfl⟩
      have Z2 := hide (Z1.out.trans (q.h.mono hz1))
      go_wp2
      go_roundw
      case rel => exact ⟨k + 1, by omega, by go_num, by rw [HST.out], Z2.out⟩
      case measure => simp [intOf]; omega
    · have hkz : ¬ (k : Int) < (a.on : Int) := by omega
      have HR := hide (show rsvA a.o id = sm by rw [← HSM.out, List.take_of_length_le (by have := HLEN.out; omega)])
      go_wp2
      go_ret
      exact ⟨ret_int HR.out.symm, B1.out⟩
end Go.Proofs.YtbhndfphegflhaaGreat
