/- Walks: the law AccessOpens. -/
import Derived.Test.YtgijjgnacgpdfaaAcG
namespace Go.Proofs.Ytgijjgnacgpdfaa
open Go.RowKit

theorem may_open {r : Rg} (h : rgE r = 0) (D : Int) : mayF r D false (hasF [] r.gr) = (lvF r D == 1) := by
  unfold mayF
  rw [if_pos h, show hasF [] r.gr = false from rfl]
  by_cases h1 : lvF r D = 1
  · simp [h1]
  · by_cases h2 : lvF r D = 2
    · simp [h2]
    · simp [h1, h2]
theorem rg_valid {r : Rg} (h : rgE r = 0) : (1 ≤ r.lv ∧ r.lv ≤ 4) ∧ (0 ≤ r.un ∧ r.un ≤ 109572) ∧ (r.un = 0 → r.th = 0) ∧ (r.un ≠ 0 → 1 ≤ r.th ∧ r.th ≤ 4) := by
  unfold rgE at h
  split at h
  · simp at h
  · rename_i h1
    split at h
    · simp at h
    · rename_i h2
      simp [wiB] at h1 h2
      refine ⟨?_, ?_, ?_, ?_⟩
      · omega
      · omega
      · intro h0; exact h1.1.2 h0
      · intro h0
        have := h1.2
        omega
theorem lv_cases (r : Rg) (D : Int) : ((0 < r.un ∧ r.un ≤ D) ∧ lvF r D = r.th) ∨ (¬ (0 < r.un ∧ r.un ≤ D) ∧ lvF r D = r.lv) := by
  unfold lvF
  by_cases h : 0 < r.un ∧ r.un ≤ D
  · left; refine ⟨h, ?_⟩; rw [if_pos (by simpa using h)]
  · right; refine ⟨h, ?_⟩; rw [if_neg (by simpa using h)]

/-- What the law on Opens needs of valid rights. -/
theorem opens_cases {r : Rg} (h : rgE r = 0) (l : Int) (hl : 0 ≤ l) :
    (opnF r = (0, false) ∧ (lvF r 109572 == 1) = false ∧ (lvF r (109572 + l) == 1) = false) ∨
    (opnF r = (0, true) ∧ (lvF r 0 == 1) = true ∧ (lvF r l == 1) = true) ∨
    (opnF r = (r.un, true) ∧ (1 ≤ r.un ∧ r.un ≤ 109572) ∧ (lvF r r.un == 1) = true ∧ (lvF r (r.un + l) == 1) = true ∧ (lvF r (r.un - 1) == 1) = false) := by
  obtain ⟨v1, v2, v3, v4⟩ := rg_valid h
  by_cases h1 : r.lv = 1
  · by_cases h2 : r.un = 0
    · right; left
      refine ⟨by simp [opnF, h1, h2], ?_, ?_⟩
      · rcases lv_cases r 0 with ⟨h5, h6⟩ | ⟨h5, h6⟩
        · omega
        · simp [h6, h1]
      · rcases lv_cases r l with ⟨h5, h6⟩ | ⟨h5, h6⟩
        · omega
        · simp [h6, h1]
    · by_cases h3 : r.th = 1
      · right; left
        refine ⟨by simp [opnF, h1, h3], ?_, ?_⟩
        · rcases lv_cases r 0 with ⟨h5, h6⟩ | ⟨h5, h6⟩
          · omega
          · simp [h6, h1]
        · rcases lv_cases r l with ⟨h5, h6⟩ | ⟨h5, h6⟩
          · simp [h6, h3]
          · simp [h6, h1]
      · left
        refine ⟨by simp [opnF, h1, h2, h3], ?_, ?_⟩
        · rcases lv_cases r 109572 with ⟨h5, h6⟩ | ⟨h5, h6⟩
          · simp [h6, h3]
          · omega
        · rcases lv_cases r (109572 + l) with ⟨h5, h6⟩ | ⟨h5, h6⟩
          · simp [h6, h3]
          · omega
  · by_cases h3 : r.th = 1
    · right; right
      have hu : r.un ≠ 0 := fun e => by have := v3 e; omega
      refine ⟨by simp [opnF, h1, h3], by omega, ?_, ?_, ?_⟩
      · rcases lv_cases r r.un with ⟨h5, h6⟩ | ⟨h5, h6⟩
        · simp [h6, h3]
        · omega
      · rcases lv_cases r (r.un + l) with ⟨h5, h6⟩ | ⟨h5, h6⟩
        · simp [h6, h3]
        · omega
      · rcases lv_cases r (r.un - 1) with ⟨h5, h6⟩ | ⟨h5, h6⟩
        · omega
        · simp [h6, h1]
    · left
      refine ⟨by simp [opnF, h1, h3], ?_, ?_⟩
      · rcases lv_cases r 109572 with ⟨h5, h6⟩ | ⟨h5, h6⟩
        · simp [h6, h3]
        · simp [h6, h1]
      · rcases lv_cases r (109572 + l) with ⟨h5, h6⟩ | ⟨h5, h6⟩
        · simp [h6, h3]
        · simp [h6, h1]

set_option maxRecDepth 100000 in
set_option maxHeartbeats 2000000 in
theorem accessOpens_any (r : Rg) (l : Int) (w : World) (hl0 : 0 ≤ l) (hl1 : l ≤ 65535) : Law 7 #[rgV r, .int .u16 l] w := by
  unfold Law
  have hb0 := (Below.refl w.heap.size w).alloc (Nat.le_refl _) (.cells (rgC r) 23)
  have hx := Box.new w 23 (rgC r)
  have h2 := fun W => aright_any r W
  have h3 := fun W => aopens_any r W
  have h4 := fun D W => amay_any r D false none 0 0 [] W Sl.none_
  have HB := hide hb0
  have HX := hide hx
  have B0 := hide (Below.refl (w.heap.size + 1) (w.alloc (.cells (rgC r) 23)))
  clear hb0 hx
  by_cases hz : rgE r = 0
  · have hcs := opens_cases hz l hl0
    have h4' : ∀ D b, (lvF r D == 1) = b → ∀ W, Calls Try.prog 17 #[rgV r, .int .i64 D, .bool false, .slice none 0 0] W fun e w' => e = .returned (.bool b) ∧ Below W.heap.size W w' := by
      intro D b hb W
      have := h4 D W
      rwa [may_open hz, hb] at this
    rw [hz] at h2
    have H2 := hide h2
    clear h2 h4 hz
    rcases hcs with ⟨ho, e1, e2⟩ | ⟨ho, e1, e2⟩ | ⟨ho, hu, e1, e2, e3⟩
    · rw [ho] at h3
      have m0 := h4' (109572) false e1
      have m1 := h4' (109572 + l) false e2
      unfold rgV at h3 m0 m1 H2 ⊢
      have H3 := hide h3
      have M0 := hide m0
      have M1 := hide m1
      clear h3 h4' ho m0 m1 e1 e2
      go_enter Try.func7, Try.ntmps7
      go_wp2_with fail
      refine (H2.out _).mono ?_
      rintro e w1 ⟨rfl, hb⟩
      have B1 := hide (B0.out.trans (hb.mono (by simp)))
      clear hb
      obtain ⟨_, c0, c1, c2, c3⟩ := rbox HX.out B1.out
      go_wp2_with fail
      refine (H3.out _).mono ?_
      rintro e w2 ⟨rfl, hb⟩
      have B2 := hide (B1.out.trans (hb.mono (by have := B1.out.size; simpa using this)))
      clear hb
      clear c0 c1 c2 c3
      obtain ⟨_, c0, c1, c2, c3⟩ := rbox HX.out B2.out
      go_wp2_with fail
      refine (M0.out _).mono ?_
      rintro e w3 ⟨rfl, hb⟩
      have B3 := hide (B2.out.trans (hb.mono (by have := B2.out.size; simpa using this)))
      clear hb
      clear c0 c1 c2 c3
      obtain ⟨_, c0, c1, c2, c3⟩ := rbox HX.out B3.out
      go_wp2_with fail
      refine (M1.out _).mono ?_
      rintro e w4 ⟨rfl, hb⟩
      have B4 := hide (B3.out.trans (hb.mono (by have := B3.out.size; simpa using this)))
      clear hb
      clear c0 c1 c2 c3
      obtain ⟨_, c0, c1, c2, c3⟩ := rbox HX.out B4.out
      go_wp2_with fail
      refine (alive_any _).mono ?_
      rintro e w5 ⟨rfl, hb⟩
      have B5 := hide (B4.out.trans (hb.mono (by have := B4.out.size; simpa using this)))
      clear hb
      clear c0 c1 c2 c3
      obtain ⟨_, c0, c1, c2, c3⟩ := rbox HX.out B5.out
      go_wp2
      go_ret
      exact ⟨rfl, HB.out.trans (B5.out.mono (by omega))⟩
    · rw [ho] at h3
      have m0 := h4' (0) true e1
      have m1 := h4' (l) true e2
      unfold rgV at h3 m0 m1 H2 ⊢
      have H3 := hide h3
      have M0 := hide m0
      have M1 := hide m1
      clear h3 h4' ho m0 m1 e1 e2
      go_enter Try.func7, Try.ntmps7
      go_wp2_with fail
      refine (H2.out _).mono ?_
      rintro e w1 ⟨rfl, hb⟩
      have B1 := hide (B0.out.trans (hb.mono (by simp)))
      clear hb
      obtain ⟨_, c0, c1, c2, c3⟩ := rbox HX.out B1.out
      go_wp2_with fail
      refine (H3.out _).mono ?_
      rintro e w2 ⟨rfl, hb⟩
      have B2 := hide (B1.out.trans (hb.mono (by have := B1.out.size; simpa using this)))
      clear hb
      clear c0 c1 c2 c3
      obtain ⟨_, c0, c1, c2, c3⟩ := rbox HX.out B2.out
      go_wp2_with fail
      refine (M0.out _).mono ?_
      rintro e w3 ⟨rfl, hb⟩
      have B3 := hide (B2.out.trans (hb.mono (by have := B2.out.size; simpa using this)))
      clear hb
      clear c0 c1 c2 c3
      obtain ⟨_, c0, c1, c2, c3⟩ := rbox HX.out B3.out
      go_wp2_with fail
      refine (M1.out _).mono ?_
      rintro e w4 ⟨rfl, hb⟩
      have B4 := hide (B3.out.trans (hb.mono (by have := B3.out.size; simpa using this)))
      clear hb
      clear c0 c1 c2 c3
      obtain ⟨_, c0, c1, c2, c3⟩ := rbox HX.out B4.out
      go_wp2_with fail
      refine (alive_any _).mono ?_
      rintro e w5 ⟨rfl, hb⟩
      have B5 := hide (B4.out.trans (hb.mono (by have := B4.out.size; simpa using this)))
      clear hb
      clear c0 c1 c2 c3
      obtain ⟨_, c0, c1, c2, c3⟩ := rbox HX.out B5.out
      go_wp2
      go_ret
      exact ⟨rfl, HB.out.trans (B5.out.mono (by omega))⟩
    · rw [ho] at h3
      have m0 := h4' (r.un) true e1
      have m1 := h4' (r.un + l) true e2
      have m2 := h4' (r.un - 1) false e3
      unfold rgV at h3 m0 m1 m2 H2 ⊢
      have H3 := hide h3
      have M0 := hide m0
      have M1 := hide m1
      have M2 := hide m2
      clear h3 h4' ho m0 m1 m2 e1 e2 e3
      obtain ⟨u1, u2⟩ := hu
      have hu0 : (r.un == 0) = false := by simp; omega
      go_enter Try.func7, Try.ntmps7
      go_wp2_with fail
      refine (H2.out _).mono ?_
      rintro e w1 ⟨rfl, hb⟩
      have B1 := hide (B0.out.trans (hb.mono (by simp)))
      clear hb
      obtain ⟨_, c0, c1, c2, c3⟩ := rbox HX.out B1.out
      go_wp2_with fail
      refine (H3.out _).mono ?_
      rintro e w2 ⟨rfl, hb⟩
      have B2 := hide (B1.out.trans (hb.mono (by have := B1.out.size; simpa using this)))
      clear hb
      clear c0 c1 c2 c3
      obtain ⟨_, c0, c1, c2, c3⟩ := rbox HX.out B2.out
      go_wp2_with fail
      refine (M0.out _).mono ?_
      rintro e w3 ⟨rfl, hb⟩
      have B3 := hide (B2.out.trans (hb.mono (by have := B2.out.size; simpa using this)))
      clear hb
      clear c0 c1 c2 c3
      obtain ⟨_, c0, c1, c2, c3⟩ := rbox HX.out B3.out
      go_wp2_with fail
      refine (M1.out _).mono ?_
      rintro e w4 ⟨rfl, hb⟩
      have B4 := hide (B3.out.trans (hb.mono (by have := B3.out.size; simpa using this)))
      clear hb
      clear c0 c1 c2 c3
      obtain ⟨_, c0, c1, c2, c3⟩ := rbox HX.out B4.out
      go_wp2_with fail
      refine (M2.out _).mono ?_
      rintro e w5 ⟨rfl, hb⟩
      have B5 := hide (B4.out.trans (hb.mono (by have := B4.out.size; simpa using this)))
      clear hb
      clear c0 c1 c2 c3
      obtain ⟨_, c0, c1, c2, c3⟩ := rbox HX.out B5.out
      go_wp2_with fail
      refine (alive_any _).mono ?_
      rintro e w6 ⟨rfl, hb⟩
      have B6 := hide (B5.out.trans (hb.mono (by have := B5.out.size; simpa using this)))
      clear hb
      clear c0 c1 c2 c3
      obtain ⟨_, c0, c1, c2, c3⟩ := rbox HX.out B6.out
      go_wp2
      go_ret
      exact ⟨rfl, HB.out.trans (B6.out.mono (by omega))⟩
  · have hzb : (rgE r == 0) = false := by simpa using hz
    generalize rgE r = q at h2 hzb
    unfold rgV at h2 ⊢
    have H2 := hide h2
    clear h2 h3 h4 hz
    go_enter Try.func7, Try.ntmps7
    go_wp2_with fail
    refine (H2.out _).mono ?_
    rintro e w1 ⟨rfl, hb⟩
    have B1 := hide (B0.out.trans (hb.mono (by simp)))
    clear hb
    go_wp2_with fail
    refine (alive_any _).mono ?_
    rintro e w2 ⟨rfl, hb⟩
    have B2 := hide (B1.out.trans (hb.mono (by have := B1.out.size; simpa using this)))
    clear hb
    go_wp2
    go_ret
    exact ⟨rfl, HB.out.trans (B2.out.mono (by omega))⟩
end Go.Proofs.Ytgijjgnacgpdfaa
