/- Texts laid together by merge.py: AqRi. -/
import Derived.Test.YtbhndfphegflhaaGreatMrg42
import Derived.Test.YtbhndfphegflhaaGreatMrg27
import Derived.Test.YtbhndfphegflhaaGreatMrg37
import Derived.Test.YtbhndfphegflhaaGreatMrg43
set_option linter.unusedSimpArgs false
set_option linter.unusedVariables false
/- The law AcquireRights: New of both for any year; Right of both. -/
namespace Go.Proofs.YtbhndfphegflhaaGreat
open Go.RowKit

def clipY (y : Int) : Int := if y < 1900 then 1900 else if 2199 < y then 2199 else y
def newY (y : Int) : Aq := { aq0 with yr := clipY y, nx := 1 }
set_option maxRecDepth 100000 in
theorem pnewY_any (y : Int) (w : World) :
    Calls Tryz.prog 13 #[.int .i64 y] w (fun e w' => e = .returned (aqV (newY y)) ∧ Below w.heap.size w w') := by
  by_cases h1 : y < 1900
  · have HE := hide (show newY y = { aq0 with yr := 1900, nx := 1 } by unfold newY clipY; rw [if_pos h1])
    rw [HE.out]
    go_enter Tryz.func13, Tryz.ntmps13
    go_wp2
    all_goals first
      | (exfalso; omega)
      | (refine bodyPost_ret (v := aqV { aq0 with yr := 1900, nx := 1 }) (by first | simp [results, Tryz.results13, go_sem, aqV, aq0] | (simp [results, Tryz.results13, go_sem, aqV, aq0]; omega)) rfl ⟨rfl, ?_⟩
         exact (Below.refl w.heap.size w).alloc (Nat.le_refl _) _)
  · by_cases h2 : 2199 < y
    · have HE := hide (show newY y = { aq0 with yr := 2199, nx := 1 } by unfold newY clipY; rw [if_neg h1, if_pos h2])
      rw [HE.out]
      go_enter Tryz.func13, Tryz.ntmps13
      go_wp2
      all_goals first
        | (exfalso; omega)
        | (refine bodyPost_ret (v := aqV { aq0 with yr := 2199, nx := 1 }) (by first | simp [results, Tryz.results13, go_sem, aqV, aq0] | (simp [results, Tryz.results13, go_sem, aqV, aq0]; omega)) rfl ⟨rfl, ?_⟩
           exact (Below.refl w.heap.size w).alloc (Nat.le_refl _) _)
    · rw [show newY y = { aq0 with yr := y, nx := 1 } by unfold newY clipY; rw [if_neg h1, if_neg h2]]
      exact pnew_any y w ⟨by omega, by omega⟩
set_option maxRecDepth 100000 in
theorem rnewY_any (y : Int) (w : World) :
    Calls Tryz.prog 14 #[.int .i64 y] w (fun e w' => e = .returned (aqV (newY y)) ∧ Below w.heap.size w w') := by
  by_cases h1 : y < 1900
  · have HE := hide (show newY y = { aq0 with yr := 1900, nx := 1 } by unfold newY clipY; rw [if_pos h1])
    rw [HE.out]
    go_enter Tryz.func14, Tryz.ntmps14
    go_wp2
    all_goals first
      | (exfalso; omega)
      | (refine bodyPost_ret (v := aqV { aq0 with yr := 1900, nx := 1 }) (by first | simp [results, Tryz.results14, go_sem, aqV, aq0] | (simp [results, Tryz.results14, go_sem, aqV, aq0]; omega)) rfl ⟨rfl, ?_⟩
         exact (Below.refl w.heap.size w).alloc (Nat.le_refl _) _)
  · by_cases h2 : 2199 < y
    · have HE := hide (show newY y = { aq0 with yr := 2199, nx := 1 } by unfold newY clipY; rw [if_neg h1, if_pos h2])
      rw [HE.out]
      go_enter Tryz.func14, Tryz.ntmps14
      go_wp2
      all_goals first
        | (exfalso; omega)
        | (refine bodyPost_ret (v := aqV { aq0 with yr := 2199, nx := 1 }) (by first | simp [results, Tryz.results14, go_sem, aqV, aq0] | (simp [results, Tryz.results14, go_sem, aqV, aq0]; omega)) rfl ⟨rfl, ?_⟩
           exact (Below.refl w.heap.size w).alloc (Nat.le_refl _) _)
    · have HE := hide (show newY y = { aq0 with yr := y, nx := 1 } by unfold newY clipY; rw [if_neg h1, if_neg h2])
      rw [HE.out]
      go_enter Tryz.func14, Tryz.ntmps14
      go_wp2
      all_goals first
        | (exfalso; omega)
        | (refine bodyPost_ret (v := aqV { aq0 with yr := y, nx := 1 }) (by first | simp [results, Tryz.results14, go_sem, aqV, aq0] | (simp [results, Tryz.results14, go_sem, aqV, aq0]; omega)) rfl ⟨rfl, ?_⟩
           exact (Below.refl w.heap.size w).alloc (Nat.le_refl _) _)
theorem newY_S (y : Int) (w : World) : AqS w w.heap.size (newY y) := ⟨Sl.none_, Sl.none_, fun _ h => (by cases h), Sl.none_, Sl.none_, fun _ h => (by cases h)⟩
theorem prights_any (a : Aq) (w : World) (hs : AqS w w.heap.size a) :
    Calls Tryz.prog 16 #[aqV a] w fun e w' => e = .returned (.bool (okA (aqP a))) ∧ Below w.heap.size w w' :=
  pright40_any a w hs seErr (fun _ => rfl) (fun x hx W hW => sright_any x W (((hs.ss x hx).below hW).more hW.size))

set_option maxRecDepth 100000 in
set_option maxHeartbeats 4000000 in
theorem acquireRights_any (a : Aq) (y : Int) (w : World) (ho : AqO w a) :
    Calls Tryz.prog 3 #[aqV a, .int .i64 y] w fun e w' => e = .returned (.bool true) ∧ Below w.heap.size w w' := by
  have B0 := hide ((Below.refl w.heap.size w).alloc (Nat.le_refl _) (.cells (aqC a) 27))
  have X0 := hide (Box.new w 27 (aqC a))
  have HO := hide ho
  have HAL := hide (fun W => aalive_any W)
  have HPN := hide (fun W => pnewY_any y W)
  have HRN := hide (fun W => rnewY_any y W)
  have HSA := hide (fun W => same40_any (newY y) (newY y) W (AqQ.of rfl) (newY_S y W) (newY_S y W))
  have HSM := hide (fun W (hW : Below w.heap.size w W) => smallD_any a W (HO.out.below hW))
  have HPR := hide (fun W (hW : Below w.heap.size w W) (h : smB a = true) => prights_any a W ((HO.out.below hW).st (smB_A HO.out h)))
  have HRR := hide (fun W (hW : Below w.heap.size w W) (h : smB a = true) => rrightA_any a W ((HO.out.below hW).st (smB_A HO.out h)))
  obtain ⟨n1, hn1⟩ : ∃ v, aqV (newY y) = v := ⟨_, rfl⟩
  rw [hn1] at HPN HRN HSA
  obtain ⟨q1, hq1⟩ : ∃ q, okA (aqP a) = q := ⟨_, rfl⟩
  rw [hq1] at HPR HRR
  obtain ⟨q0, hq0⟩ : ∃ q, smB a = q := ⟨_, rfl⟩
  rw [hq0] at HSM HPR HRR
  clear ho hn1 hq1 hq0
  unfold aqV
  unfold aqV at HSM HPR HRR
  go_enter Tryz.func3, Tryz.ntmps3
  go_upto_region 1 with fail
  obtain ⟨W0, hW0⟩ : ∃ W0, W0 = w.alloc (.cells (aqC a) 27) := ⟨_, rfl⟩
  rw [← hW0] at B0 X0 ⊢
  clear hW0
  have c0 := X0.out.cell 0
  have c1 := X0.out.cell 1
  have c2 := X0.out.cell 2
  have c3 := X0.out.cell 3
  have c4 := X0.out.cell 4
  have c5 := X0.out.cell 5
  simp at c0 c1 c2 c3 c4 c5
  have g0 := Grn.cell c0
  have g1 := Grn.cell c1
  have g2 := Grn.cell c2
  have g3 := Grn.cell c3
  have g4 := Grn.cell c4
  have g5 := Grn.cell c5
  clear c0 c1 c2 c3 c4 c5
  cases q0 with
  | false =>
    refine wp_region_grn (by kernel_rfl) (by kernel_rfl) ?_
    repeat (go_big_quiet_step (first
      | (go_at_call 11; exact Calls_grn (HAL.out _))
      | (go_at_call 13; exact Calls_grn (HPN.out _))
      | (go_at_call 14; exact Calls_grn (HRN.out _))
      | (go_at_call 12; exact Calls_grn (HSA.out _))
      | (go_at_call 15; exact Calls_grn (HSM.out _ (B0.out.trans ((Grn.h _).mono B0.out.size))))))
    refine wpQuiet_nil ?_
    rintro _ ⟨q, rfl⟩
    have B1 := hide (B0.out.trans (q.h.mono B0.out.size))
    go_wp2
    go_ret
    exact ⟨rfl, B1.out⟩
  | true =>
    refine wp_region_grn (by kernel_rfl) (by kernel_rfl) ?_
    repeat (go_big_quiet_step (first
      | (go_at_call 11; exact Calls_grn (HAL.out _))
      | (go_at_call 13; exact Calls_grn (HPN.out _))
      | (go_at_call 14; exact Calls_grn (HRN.out _))
      | (go_at_call 12; exact Calls_grn (HSA.out _))
      | (go_at_call 15; exact Calls_grn (HSM.out _ (B0.out.trans ((Grn.h _).mono B0.out.size))))
      | (go_at_call 16; exact Calls_grn (HPR.out _ (B0.out.trans ((Grn.h _).mono B0.out.size)) rfl))
      | (go_at_call 17; exact Calls_grn (HRR.out _ (B0.out.trans ((Grn.h _).mono B0.out.size)) rfl))))
    refine wpQuiet_nil ?_
    rintro _ ⟨q, rfl⟩
    have B1 := hide (B0.out.trans (q.h.mono B0.out.size))
    go_wp2
    go_ret
    exact ⟨by simp, B1.out⟩
end Go.Proofs.YtbhndfphegflhaaGreat
