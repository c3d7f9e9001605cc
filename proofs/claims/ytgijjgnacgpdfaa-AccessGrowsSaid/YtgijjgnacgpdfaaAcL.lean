/- Walks: the law AccessGrows. Printed by gen_acg.py. -/
import Derived.Test.YtgijjgnacgpdfaaAcG
import Derived.Test.YtgijjgnacgpdfaaStep
namespace Go.Proofs.Ytgijjgnacgpdfaa
open Go.RowKit

theorem inE_one (x : Int) : ∀ u ∈ inE x, u.oneCell' = true := by
  intro u hu; simp only [inE, List.mem_cons, List.not_mem_nil, or_false] at hu; subst hu; rfl
theorem int_info : (Try.prog.info? 3).map (fun i => (i.zero, i.size, i.bytes)) = some (some (.int .i64 0), 1, 8) := by kernel_rfl
theorem own_is {w : World} {B m : Nat} {v : Value} {xs : List Int} (h : w.ownsRow B 3 1 v m (xs.flatMap inE)) (hl : xs.length = m) (hn : m ≤ 140737488355328) : ∃ A c, v = .slice A m c ∧ Is w w.heap.size A m c xs := by
  have h' := h
  rcases h.2 with ⟨rfl, h0⟩ | ⟨g, cap, _, rfl, _⟩
  · exact ⟨none, 0, by rw [h0], by subst h0; exact Sl.of_own inE_len h' hl (by omega)⟩
  · exact ⟨_, cap, rfl, Sl.of_own inE_len h' hl hn⟩
theorem may_grows {r : Rg} {day : Int} {xs ys : List Int} (h : mayF r day false (hasF xs r.gr) = true) :
    mayF r day false (hasF (ys ++ xs) r.gr) = true ∧ mayF r day true (hasF [] r.gr) = true ∧ rgE r = 0 := by
  unfold mayF at h ⊢
  by_cases h0 : rgE r = 0
  · rw [if_pos h0] at h ⊢
    rw [if_pos h0]
    by_cases h1 : lvF r day = 1
    · simp [h1, h0]
    · by_cases h2 : lvF r day = 2
      · rw [if_neg h1, if_pos h2] at h
        have h' : hasF xs r.gr = true := by simpa using h
        have h3 : hasF (ys ++ xs) r.gr = true := by unfold hasF at h' ⊢; rw [List.any_append, h']; simp
        simp [h2, h0, h3]
      · rw [if_neg h1, if_neg h2] at h
        by_cases h3 : lvF r day = 3
        · simp [h3] at h
        · simp [h3] at h
  · rw [if_neg h0] at h; cases h

set_option maxRecDepth 100000 in
set_option maxHeartbeats 2000000 in
theorem accessGrows_any (r : Rg) (day : Int) (A0 : Option Addr) (n0 c0 : Nat) (xs0 : List Int) (A1 : Option Addr) (n1 c1 : Nat) (xs1 : List Int) (w : World)
    (h0 : n0 ≤ 140737488355328 → Is w w.heap.size A0 n0 c0 xs0) (h1 : n1 ≤ 140737488355328 → Is w w.heap.size A1 n1 c1 xs1) :
    Law 8 #[rgV r, .int .i64 day, .agg #[.slice A0 n0 c0, .slice A1 n1 c1]] w := by
  unfold Law
  have B0 := hide (((Below.refl w.heap.size w).alloc (Nat.le_refl _) (.cells #[.int .i64 r.lv, .int .i64 r.gr, .int .i64 r.un, .int .i64 r.th] 23)).alloc (by simp) (.cells #[.slice A0 n0 c0, .slice A1 n1 c1] 42))
  have Z0 := hide (Below.refl (w.heap.size + 2) ((w.alloc (.cells #[.int .i64 r.lv, .int .i64 r.gr, .int .i64 r.un, .int .i64 r.th] 23)).alloc (.cells #[.slice A0 n0 c0, .slice A1 n1 c1] 42)))
  have HX : Hid (∀ W, Below (w.heap.size + 2) ((w.alloc (.cells #[.int .i64 r.lv, .int .i64 r.gr, .int .i64 r.un, .int .i64 r.th] 23)).alloc (.cells #[.slice A0 n0 c0, .slice A1 n1 c1] 42)) W → Box W w.heap.size 23 (rgC r)) := hide (fun W hW => ((Box.new w 23 (rgC r)).alloc (.cells #[.slice A0 n0 c0, .slice A1 n1 c1] 42)).below hW (by omega))
  have HG : Hid (∀ W, Below (w.heap.size + 2) ((w.alloc (.cells #[.int .i64 r.lv, .int .i64 r.gr, .int .i64 r.un, .int .i64 r.th] 23)).alloc (.cells #[.slice A0 n0 c0, .slice A1 n1 c1] 42)) W → Box W (w.heap.size + 1) 42 #[.slice A0 n0 c0, .slice A1 n1 c1]) := hide (fun W hW => by
    have h := (Box.new (w.alloc (.cells #[.int .i64 r.lv, .int .i64 r.gr, .int .i64 r.un, .int .i64 r.th] 23)) 42 #[.slice A0 n0 c0, .slice A1 n1 c1]).below hW (by simp)
    rwa [World.size_alloc] at h)
  unfold rgV
  by_cases g0 : 30 < n0
  · have hg : (30 : Int) < (n0 : Int) := by omega
    go_enter Try.func8, Try.ntmps8
    go_wp2_with fail
    refine (alive_any _).mono ?_
    rintro e w1 ⟨rfl, hb⟩
    have B1 := hide (B0.out.trans (hb.mono (Nat.le_trans (by simp) B0.out.size)))
    have Z1 := hide (Z0.out.trans (hb.mono (Nat.le_trans (by simp) Z0.out.size)))
    clear hb 
    go_wp2
    go_ret
    exact ⟨rfl, B1.out⟩
  · by_cases g1 : 30 < n1
    · have hg0 : ¬ (30 : Int) < (n0 : Int) := by omega
      have hg : (30 : Int) < (n1 : Int) := by omega
      go_enter Try.func8, Try.ntmps8
      go_wp2_with fail
      refine (alive_any _).mono ?_
      rintro e w1 ⟨rfl, hb⟩
      have B1 := hide (B0.out.trans (hb.mono (Nat.le_trans (by simp) B0.out.size)))
      have Z1 := hide (Z0.out.trans (hb.mono (Nat.le_trans (by simp) Z0.out.size)))
      clear hb 
      go_wp2
      go_ret
      exact ⟨rfl, B1.out⟩
    · have hg0 : ¬ (30 : Int) < (n0 : Int) := by omega
      have hg1 : ¬ (30 : Int) < (n1 : Int) := by omega
      have s0 := h0 (by omega)
      have s1 := h1 (by omega)
      have HS0 := hide (fun W (hW : Below w.heap.size w W) => (s0.below hW).more hW.size)
      have HS1 := hide (fun W (hW : Below w.heap.size w W) => (s1.below hW).more hW.size)
      have l0 := s0.len
      have l1 := s1.len
      have m1 := fun W hW => amay_any r day false A0 n0 c0 xs0 W (HS0.out W hW)
      unfold rgV at m1
      clear s0 s1 h0 h1
      cases hm : mayF r day false (hasF xs0 r.gr) with
      | false =>
        rw [hm] at m1
        have M1 := hide m1
        clear m1 hm
        go_enter Try.func8, Try.ntmps8
        go_wp2_with fail
        refine (M1.out _ B0.out).mono ?_
        rintro e w1 ⟨rfl, hb⟩
        have B1 := hide (B0.out.trans (hb.mono (Nat.le_trans (by simp) B0.out.size)))
        have Z1 := hide (Z0.out.trans (hb.mono (Nat.le_trans (by simp) Z0.out.size)))
        clear hb 
        go_wp2_with fail
        refine (alive_any _).mono ?_
        rintro e w2 ⟨rfl, hb⟩
        have B2 := hide (B1.out.trans (hb.mono (Nat.le_trans (by simp) B1.out.size)))
        have Z2 := hide (Z1.out.trans (hb.mono (Nat.le_trans (by simp) Z1.out.size)))
        clear hb B1 Z1
        go_wp2
        go_ret
        exact ⟨rfl, B2.out⟩
      | true =>
        obtain ⟨p1, p2, p3⟩ := may_grows (ys := xs1) hm
        rw [hm] at m1
        have m2 := fun A n c W hs => amay_any r day false A n c (xs1 ++ xs0) W hs
        rw [p1] at m2
        have m3 := fun W => amay_any r day true none 0 0 [] W Sl.none_
        rw [p2] at m3
        have m4 := fun W => aright_any r W
        rw [p3] at m4
        unfold rgV at m2 m3 m4
        obtain ⟨i0, hi0, hz0, hz1, hz2⟩ := info_parts int_info
        have HI := hide (And.intro hi0 (And.intro hz0 (And.intro hz1 hz2)))
        have M1 := hide m1
        have M2 := hide m2
        have M3 := hide m3
        have M4 := hide m4
        have L0 := hide l0
        have L1 := hide l1
        clear m1 m2 m3 m4 p1 p2 p3 hm hi0 hz0 hz1 hz2 l0 l1
        go_enter Try.func8, Try.ntmps8
        go_wp2_with fail
        refine (M1.out _ B0.out).mono ?_
        rintro e w1 ⟨rfl, hb⟩
        have B1 := hide (B0.out.trans (hb.mono (Nat.le_trans (by simp) B0.out.size)))
        have Z1 := hide (Z0.out.trans (hb.mono (Nat.le_trans (by simp) Z0.out.size)))
        clear hb 
        obtain ⟨q0, q1, q2, q3⟩ := (rbox (w' := w1) (HX.out _ Z1.out) (Below.refl _ _)).2
        have e0 := (HG.out _ Z1.out).cell 0
        have e1 := (HG.out _ Z1.out).cell 1
        simp at e0 e1
        have hz1 := B1.out.size
        have hzz := Z1.out.size
        simp at hzz
        have hlt1 : w.heap.size + 1 < w1.heap.size := by omega
        have B1e := hide (B1.out.alloc hz1 (.cells #[] 3))
        have Z1e := hide (Z1.out.alloc (by omega) (.cells #[] 3))
        go_wp2_with fail
        go_region_law (first
          | (refine step_append_sl rfl (.tmp 26) (.tmp 28) 34 rfl w.heap.size 3 i0 _ 8 Try.underlying34 HI.out.1 HI.out.2.1 HI.out.2.2.1 HI.out.2.2.2 rfl (by decide) inE_len inE_one _ 0 [] (by simp [Act.eval, Act.put]) (World.ownsRow_made _ #[] 0 (by first | omega | (simp; omega)) (Nat.zero_le _) rfl) _ _ _ (by simp [Act.eval, Act.put]) (HS1.out _ B1e.out.drew) (by unfold maxLen; omega) (by omega) (by first | (simp; done) | (simp; omega) | omega) ?_; intro v1 w2 hown1 hgr1 hat1; have B2 := hide ((B1e.out.drew).grown hgr1 (by simp; omega) (by intro q hq; simp [Value.ownBlock] at hq; omega)); have Z2 := hide ((Z1e.out.drew).grown hgr1 (by simp; omega) (by intro q hq; simp [Value.ownBlock] at hq; omega)); have HO1 := hide hown1; have HG1 := hide (And.intro hgr1 hat1); have hz2 := B2.out.size; have hzz2 := Z2.out.size; simp only [World.size_alloc] at hzz2; have f0 := (HG.out _ Z2.out).cell 0; have f1 := (HG.out _ Z2.out).cell 1; simp at f0 f1; clear hown1 hgr1 hat1)
          | (refine step_append_sl rfl (.tmp 29) (.tmp 31) 34 rfl w.heap.size 3 i0 _ 8 Try.underlying34 HI.out.1 HI.out.2.1 HI.out.2.2.1 HI.out.2.2.2 rfl (by decide) inE_len inE_one _ _ _ (by simp [Act.eval, Act.put]) HO1.out _ _ _ (by simp [Act.eval, Act.put]) (HS0.out _ B2.out) (by unfold maxLen; omega) (by omega) (by first | (simp; done) | (simp; omega) | omega) ?_; intro v2 w3 hown2 hgr2 hat2; have B3 := hide (B2.out.grown hgr2 (by omega) (by intro q hq; exact (HO1.out.lt q hq).1)); have Z3 := hide (Z2.out.grown hgr2 (by omega) (by intro q hq; rcases HG1.out.2 with e | e <;> rw [hq] at e <;> simp [Value.ownBlock] at e <;> omega)); have HO2 := hide hown2; clear hown2 hgr2 hat2))
        all_goals
          have ho : w3.ownsRow w.heap.size 3 1 v2 (n1 + n0) ((xs1 ++ xs0).flatMap inE) := by rw [List.flatMap_append]; simpa using HO2.out
          obtain ⟨A2, c2, hv, hsl⟩ := own_is ho (by rw [List.length_append, L0.out, L1.out]) (by omega)
          subst hv
          have HS2 := hide hsl
          have hz3 := B3.out.size
          clear ho hsl HO2 HO1 HG1 f0 f1 e0 e1 q0 q1 q2 q3
          obtain ⟨q0, q1, q2, q3⟩ := (rbox (w' := w3) (HX.out _ Z3.out) (Below.refl _ _)).2
          have e0 := (HG.out _ Z3.out).cell 0
          have e1 := (HG.out _ Z3.out).cell 1
          simp at e0 e1
          go_wp2_with fail
          refine (M2.out _ _ _ _ HS2.out).mono ?_
          rintro e w4 ⟨rfl, hb⟩
          have B4 := hide (B3.out.trans (hb.mono (Nat.le_trans (by simp) B3.out.size)))
          have Z4 := hide (Z3.out.trans (hb.mono (Nat.le_trans (by simp) Z3.out.size)))
          clear hb B3 Z3
          clear q0 q1 q2 q3 e0 e1
          obtain ⟨q0, q1, q2, q3⟩ := (rbox (w' := w4) (HX.out _ Z4.out) (Below.refl _ _)).2
          have e0 := (HG.out _ Z4.out).cell 0
          have e1 := (HG.out _ Z4.out).cell 1
          simp at e0 e1
          go_wp2_with fail
          refine (M3.out _).mono ?_
          rintro e w5 ⟨rfl, hb⟩
          have B5 := hide (B4.out.trans (hb.mono (Nat.le_trans (by simp) B4.out.size)))
          have Z5 := hide (Z4.out.trans (hb.mono (Nat.le_trans (by simp) Z4.out.size)))
          clear hb B4 Z4
          clear q0 q1 q2 q3 e0 e1
          obtain ⟨q0, q1, q2, q3⟩ := (rbox (w' := w5) (HX.out _ Z5.out) (Below.refl _ _)).2
          have e0 := (HG.out _ Z5.out).cell 0
          have e1 := (HG.out _ Z5.out).cell 1
          simp at e0 e1
          go_wp2_with fail
          refine (M4.out _).mono ?_
          rintro e w6 ⟨rfl, hb⟩
          have B6 := hide (B5.out.trans (hb.mono (Nat.le_trans (by simp) B5.out.size)))
          have Z6 := hide (Z5.out.trans (hb.mono (Nat.le_trans (by simp) Z5.out.size)))
          clear hb B5 Z5
          clear q0 q1 q2 q3 e0 e1
          go_wp2_with fail
          refine (alive_any _).mono ?_
          rintro e w7 ⟨rfl, hb⟩
          have B7 := hide (B6.out.trans (hb.mono (Nat.le_trans (by simp) B6.out.size)))
          have Z7 := hide (Z6.out.trans (hb.mono (Nat.le_trans (by simp) Z6.out.size)))
          clear hb B6 Z6
          go_wp2
          go_ret
          exact ⟨rfl, B7.out⟩
end Go.Proofs.Ytgijjgnacgpdfaa
