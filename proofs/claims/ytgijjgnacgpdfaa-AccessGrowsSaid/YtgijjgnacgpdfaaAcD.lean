/- Walks: '==' of rights; Embargo of both. -/
import Derived.Test.YtgijjgnacgpdfaaDtF
import Derived.Test.YtgijjgnacgpdfaaAcC
namespace Go.Proofs.Ytgijjgnacgpdfaa
open Go.RowKit

theorem rg_struct : Try.prog.underlying 23 = some (.struct (Try.prog.fieldsOf 23)) := by kernel_rfl
theorem rg_stood : Try.prog.stoodInHeld 23 = false := by kernel_rfl
theorem rg_eq (x y : Rg) (w : World) : (Op.equalIn 10000 23 (rgV x) (rgV y)).run Try.prog w = .ok (decide (x = y)) w := by
  obtain ⟨a0, a1, a2, a3⟩ := x
  obtain ⟨b0, b1, b2, b3⟩ := y
  have u3 := Try.underlying3
  simp only [rgV]
  rw [show (10000 : Nat) = 9999 + 1 from rfl, run_equalIn_agg w 9999 23 _ _ rg_struct rg_stood]
  simp only [Program.fieldsOf, Try.underlying23]
  go_simp
  by_cases h0 : a0 = b0 <;> by_cases h1 : a1 = b1 <;> by_cases h2 : a2 = b2 <;> by_cases h3 : a3 = b3 <;> simp [h0, h1, h2, h3]

theorem rg_neq (x y : Rg) (w : World) : (binOp .neq 23 (rgV x) (rgV y)).run Try.prog w = .ok (.bool (!decide (x = y))) w := by
  have h := rg_eq x y w
  unfold rgV at h ⊢
  rw [run_neq_struct, h]; rfl
theorem rg_eql (x y : Rg) (w : World) : (binOp .eql 23 (rgV x) (rgV y)).run Try.prog w = .ok (.bool (decide (x = y))) w := by
  have h := rg_eq x y w
  unfold rgV at h ⊢
  rw [run_eql_struct, h]; rfl

theorem rg_guard : Try.prog.eqGuardType Try.prog.depth 23 = false := by kernel_rfl

theorem mon_exists (day n : Int) : ∃ q : Int × Int, ∀ y m d, PartsOf day y m d → monR y m d n = q := by
  by_cases h : ∃ y m d, PartsOf day y m d
  · obtain ⟨y, m, d, hp⟩ := h
    exact ⟨monR y m d n, fun y' m' d' hp' => by obtain ⟨rfl, rfl, rfl⟩ := hp.uniq hp'; rfl⟩
  · exact ⟨(0, 0), fun y m d hp => absurd ⟨y, m, d, hp⟩ h⟩
def embF (q : Int × Int) (level day months : Int) : Rg × Int :=
  if (level != 3 && level != 4) = true then (rg0, 1) else if (!wiB day 0 109572 || !wiB months 1 1200) = true then (rg0, 2)
  else if q.2 ≠ 0 then (rg0, q.2) else (⟨level, 0, q.1, 1⟩, 0)

theorem below_box4 {B : Nat} {a w : World} (h : Go.RowKit.Below B a w) {b : Nat} (hb : B ≤ b) (u0 u1 u2 u3 : Value) :
    Go.RowKit.Below B a ((((w.setCell ⟨b, 0, none⟩ u0).setCell ⟨b, 1, none⟩ u1).setCell ⟨b, 2, none⟩ u2).setCell ⟨b, 3, none⟩ u3) :=
  (((h.setCell hb u0).setCell hb u1).setCell hb u2).setCell hb u3

set_option maxRecDepth 100000 in
set_option maxHeartbeats 2000000 in
theorem pemb_any (q : Int × Int) (level day months : Int) (w : World) (hq : ∀ y m d, PartsOf day y m d → monR y m d months = q) :
    Calls Try.prog 19 #[.int .i64 level, .int .i64 day, .int .i64 months] w fun e w' => e = .returned (.tuple #[rgV (embF q level day months).1, .int .i64 (embF q level day months).2]) ∧ Below w.heap.size w w' := by
  have h0 : Below w.heap.size w w := Below.refl _ _
  have H0 := hide h0
  have HA := hide (fun o => h0.alloc (Nat.le_refl _) o : ∀ o, Below w.heap.size w (w.alloc o))
  clear h0
  by_cases hl : (level != 3 && level != 4) = true
  · have hr : embF q level day months = (rg0, 1) := by unfold embF; rw [if_pos hl]
    rw [hr]
    have hl1 : (level == 3) = false := by simp at hl ⊢; exact hl.1
    have hl2 : (level == 4) = false := by simp at hl ⊢; exact hl.2
    have h1 : ¬ level = 3 := by simpa using hl1
    have h2 : ¬ level = 4 := by simpa using hl2
    have h3 : (level != 3) = true := by simpa using hl1
    have h4 : (level != 4) = true := by simpa using hl2
    clear hl hr hq
    go_enter Try.func19, Try.ntmps19
    go_wp2
    refine bodyPost_ret (v := .tuple #[rgV rg0, .int .i64 1]) (by simp [results, Try.results19, go_sem, rgV, rg0]) rfl ⟨by first | rfl | simp [rgV, rg0], ?_⟩
    first | exact HA.out _ | exact below_box4 (HA.out _) (Nat.le_refl _) _ _ _ _
  · have hlev : level = 3 ∨ level = 4 := by simp at hl; omega
    have HL := hide hl
    have hc : ∀ {P : Prop}, (level = 3 → P) → (level = 4 → P) → P := fun f g => hlev.elim f g
    clear hl
    by_cases hr : (!wiB day 0 109572 || !wiB months 1 1200) = true
    · have he : embF q level day months = (rg0, 2) := by unfold embF; rw [if_neg HL.out, if_pos hr]
      rw [he]
      clear he hq HL
      have hw1 := fun W => within_any day 0 109572 W
      have hw2 := fun W => within_any months 1 1200 W
      generalize wiB day 0 109572 = b1 at hr hw1
      generalize wiB months 1 1200 = b2 at hr hw2
      have W1 := hide hw1
      have W2 := hide hw2
      clear hw1 hw2
      cases b1 with
      | false =>
        clear hr
        refine hc ?_ ?_ <;> (intro hlv; subst hlv; clear hc hlev)
        all_goals
          go_enter Try.func19, Try.ntmps19
          go_wp2_with fail
          refine (W1.out _).mono ?_
          rintro e w1 ⟨rfl, rfl⟩
          go_wp2
          refine bodyPost_ret (v := .tuple #[rgV rg0, .int .i64 2]) (by simp [results, Try.results19, go_sem, rgV, rg0]) rfl ⟨by first | rfl | simp [rgV, rg0], ?_⟩
          first | exact HA.out _ | exact below_box4 (HA.out _) (Nat.le_refl _) _ _ _ _
      | true =>
        have hb2 : b2 = false := by simpa using hr
        subst hb2
        clear hr
        refine hc ?_ ?_ <;> (intro hlv; subst hlv; clear hc hlev)
        all_goals
          go_enter Try.func19, Try.ntmps19
          go_wp2_with fail
          refine (W1.out _).mono ?_
          rintro e w1 ⟨rfl, rfl⟩
          go_wp2_with fail
          refine (W2.out _).mono ?_
          rintro e w1 ⟨rfl, rfl⟩
          go_wp2
          refine bodyPost_ret (v := .tuple #[rgV rg0, .int .i64 2]) (by simp [results, Try.results19, go_sem, rgV, rg0]) rfl ⟨by first | rfl | simp [rgV, rg0], ?_⟩
          first | exact HA.out _ | exact below_box4 (HA.out _) (Nat.le_refl _) _ _ _ _
    · have hr1 : wiB day 0 109572 = true := by simp at hr; exact hr.1
      have hr2 : wiB months 1 1200 = true := by simp at hr; exact hr.2
      have hday : 0 ≤ day ∧ day ≤ 109572 := by simpa [wiB] using hr1
      have hmon : 1 ≤ months ∧ months ≤ 1200 := by simpa [wiB] using hr2
      obtain ⟨d1, d2⟩ := hday
      obtain ⟨n1, n2⟩ := hmon
      obtain ⟨y, m, d, hp⟩ := parts_exist d1 d2
      have he : embF q level day months = if q.2 ≠ 0 then (rg0, q.2) else (⟨level, 0, q.1, 1⟩, 0) := by unfold embF; rw [if_neg HL.out, if_neg hr]
      have hw1 := fun W => within_any day 0 109572 W
      have hw2 := fun W => within_any months 1 1200 W
      rw [hr1] at hw1
      rw [hr2] at hw2
      have W1 := hide hw1
      have W2 := hide hw2
      have hmo := fun W => pmonths_any day y m d months W hp d1 d2 n1 n2
      rw [hq y m d hp] at hmo
      obtain ⟨q1, q2⟩ := q
      simp only at hmo he
      have MO := hide hmo
      clear hw1 hw2 hr hr1 hr2 hp hq HL hmo
      by_cases hz : q2 = 0
      · subst hz
        rw [if_neg (by simp)] at he
        rw [he]
        clear he
        refine hc ?_ ?_ <;> (intro hlv; subst hlv; clear hc hlev)
        all_goals
          go_enter Try.func19, Try.ntmps19
          go_wp2_with fail
          refine (W1.out _).mono ?_
          rintro e w1 ⟨rfl, rfl⟩
          go_wp2_with fail
          refine (W2.out _).mono ?_
          rintro e w1 ⟨rfl, rfl⟩
          go_wp2_with fail
          refine (MO.out _).mono ?_
          rintro e w1 ⟨rfl, rfl⟩
          go_wp2
          refine bodyPost_ret (v := .tuple #[rgV ⟨_, 0, q1, 1⟩, .int .i64 0]) (by simp [results, Try.results19, go_sem, rgV]) rfl ⟨rfl, ?_⟩
          exact HA.out _
      · have hzb : (q2 == 0) = false := by simpa using hz
        rw [if_pos hz] at he
        rw [he]
        clear he hz
        refine hc ?_ ?_ <;> (intro hlv; subst hlv; clear hc hlev)
        all_goals
          go_enter Try.func19, Try.ntmps19
          go_wp2_with fail
          refine (W1.out _).mono ?_
          rintro e w1 ⟨rfl, rfl⟩
          go_wp2_with fail
          refine (W2.out _).mono ?_
          rintro e w1 ⟨rfl, rfl⟩
          go_wp2_with fail
          refine (MO.out _).mono ?_
          rintro e w1 ⟨rfl, rfl⟩
          go_wp2
          refine bodyPost_ret (v := .tuple #[rgV rg0, .int .i64 q2]) (by simp [results, Try.results19, go_sem, rgV, rg0]) rfl ⟨by first | rfl | simp [rgV, rg0], ?_⟩
          exact HA.out _
end Go.Proofs.Ytgijjgnacgpdfaa
