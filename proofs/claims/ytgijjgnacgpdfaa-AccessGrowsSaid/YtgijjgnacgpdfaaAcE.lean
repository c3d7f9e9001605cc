/- Walks: the reference's Embargo. -/
import Derived.Test.YtgijjgnacgpdfaaAcD
namespace Go.Proofs.Ytgijjgnacgpdfaa
open Go.RowKit

set_option maxRecDepth 100000 in
set_option maxHeartbeats 2000000 in
theorem remb_any (q : Int × Int) (level day months : Int) (w : World) (hq : ∀ y m d, PartsOf day y m d → monR y m d months = q) :
    Calls Try.prog 20 #[.int .i64 level, .int .i64 day, .int .i64 months] w fun e w' => e = .returned (.tuple #[rgV (embF q level day months).1, .int .i64 (embF q level day months).2]) ∧ Below w.heap.size w w' := by
  have h0 : Below w.heap.size w w := Below.refl _ _
  have H0 := hide h0
  have HA := hide (fun o => h0.alloc (Nat.le_refl _) o : ∀ o, Below w.heap.size w (w.alloc o))
  clear h0
  by_cases hl : (level != 3 && level != 4) = true
  · have hr : embF q level day months = (rg0, 1) := by unfold embF; rw [if_pos hl]
    rw [hr]
    have hl1 : (level == 3) = false := by simp at hl ⊢; exact hl.1
    have hl2 : (level == 4) = false := by simp at hl ⊢; exact hl.2
    have h1 : ¬ level = 3 := by simpa using hl1
    have h2 : ¬ level = 4 := by simpa using hl2
    have h3 : (level != 3) = true := by simpa using hl1
    have h4 : (level != 4) = true := by simpa using hl2
    clear hl hr hq
    go_enter Try.func20, Try.ntmps20
    go_wp2
    refine bodyPost_ret (v := .tuple #[rgV rg0, .int .i64 1]) (by simp [results, Try.results20, go_sem, rgV, rg0]) rfl ⟨by first | rfl | simp [rgV, rg0], ?_⟩
    first | exact HA.out _ | exact below_box4 (HA.out _) (Nat.le_refl _) _ _ _ _
  · have hlev : level = 3 ∨ level = 4 := by simp at hl; omega
    have HL := hide hl
    have hc : ∀ {P : Prop}, (level = 3 → P) → (level = 4 → P) → P := fun f g => hlev.elim f g
    clear hl
    by_cases hr : (!wiB day 0 109572 || !wiB months 1 1200) = true
    · have he : embF q level day months = (rg0, 2) := by unfold embF; rw [if_neg HL.out, if_pos hr]
      rw [he]
      clear he hq HL
      have hr' : day < 0 ∨ 109572 < day ∨ months < 1 ∨ 1200 < months := by simp [wiB] at hr; omega
      clear hr
      refine hc ?_ ?_ <;> (intro hlv; subst hlv; clear hc hlev)
      all_goals
        by_cases a1 : day < 0
        · clear hr'
          go_enter Try.func20, Try.ntmps20
          go_wp2
          refine bodyPost_ret (v := .tuple #[rgV rg0, .int .i64 2]) (by simp [results, Try.results20, go_sem, rgV, rg0]) rfl ⟨by first | rfl | simp [rgV, rg0], ?_⟩
          first | exact HA.out _ | exact below_box4 (HA.out _) (Nat.le_refl _) _ _ _ _
        · by_cases a2 : 109572 < day
          · clear hr'
            go_enter Try.func20, Try.ntmps20
            go_wp2
            refine bodyPost_ret (v := .tuple #[rgV rg0, .int .i64 2]) (by simp [results, Try.results20, go_sem, rgV, rg0]) rfl ⟨by first | rfl | simp [rgV, rg0], ?_⟩
            first | exact HA.out _ | exact below_box4 (HA.out _) (Nat.le_refl _) _ _ _ _
          · by_cases a3 : months < 1
            · clear hr'
              go_enter Try.func20, Try.ntmps20
              go_wp2
              refine bodyPost_ret (v := .tuple #[rgV rg0, .int .i64 2]) (by simp [results, Try.results20, go_sem, rgV, rg0]) rfl ⟨by first | rfl | simp [rgV, rg0], ?_⟩
              first | exact HA.out _ | exact below_box4 (HA.out _) (Nat.le_refl _) _ _ _ _
            · have a4 : 1200 < months := by omega
              clear hr'
              go_enter Try.func20, Try.ntmps20
              go_wp2
              refine bodyPost_ret (v := .tuple #[rgV rg0, .int .i64 2]) (by simp [results, Try.results20, go_sem, rgV, rg0]) rfl ⟨by first | rfl | simp [rgV, rg0], ?_⟩
              first | exact HA.out _ | exact below_box4 (HA.out _) (Nat.le_refl _) _ _ _ _
    · have hr1 : wiB day 0 109572 = true := by simp at hr; exact hr.1
      have hr2 : wiB months 1 1200 = true := by simp at hr; exact hr.2
      have hday : 0 ≤ day ∧ day ≤ 109572 := by simpa [wiB] using hr1
      have hmon : 1 ≤ months ∧ months ≤ 1200 := by simpa [wiB] using hr2
      obtain ⟨d1, d2⟩ := hday
      obtain ⟨n1, n2⟩ := hmon
      obtain ⟨y, m, d, hp⟩ := parts_exist d1 d2
      have he : embF q level day months = if q.2 ≠ 0 then (rg0, q.2) else (⟨level, 0, q.1, 1⟩, 0) := by unfold embF; rw [if_neg HL.out, if_neg hr]
      have hw1 := fun W => within_any day 0 109572 W
      have hw2 := fun W => within_any months 1 1200 W
      rw [hr1] at hw1
      rw [hr2] at hw2
      have W1 := hide hw1
      have W2 := hide hw2
      have hmo := fun W => rmonths_any day y m d months W hp d1 d2 n1 n2
      rw [hq y m d hp] at hmo
      obtain ⟨q1, q2⟩ := q
      simp only at hmo he
      have MO := hide hmo
      clear hw1 hw2 hr hr1 hr2 hp hq HL hmo
      by_cases hz : q2 = 0
      · subst hz
        rw [if_neg (by simp)] at he
        rw [he]
        clear he
        refine hc ?_ ?_ <;> (intro hlv; subst hlv; clear hc hlev)
        all_goals
          go_enter Try.func20, Try.ntmps20
          go_wp2_with fail
          refine (MO.out _).mono ?_
          rintro e w1 ⟨rfl, hb⟩
          have HB := hide (below_call hb)
          have hz1 : w.heap.size < w1.heap.size := by have := hb.size; simp at this; omega
          have hbx := (Box.new w 23 #[.int .i64 0, .int .i64 0, .int .i64 0, .int .i64 0]).below hb (by simp)
          have g0 : w1.cell? ⟨w.heap.size, 0, none⟩ = some (.int .i64 0) := hbx.cell 0
          have g1 : w1.cell? ⟨w.heap.size, 1, none⟩ = some (.int .i64 0) := hbx.cell 1
          have g2 : w1.cell? ⟨w.heap.size, 2, none⟩ = some (.int .i64 0) := hbx.cell 2
          have g3 : w1.cell? ⟨w.heap.size, 3, none⟩ = some (.int .i64 0) := hbx.cell 3
          have hfz := hbx.frz
          clear hb hbx
          go_wp2
          refine bodyPost_ret (v := .tuple #[rgV ⟨_, 0, q1, 1⟩, .int .i64 0]) (by simp [results, Try.results20, go_sem, rgV, g0, g1, g2, g3, hz1]) rfl ⟨rfl, ?_⟩
          exact below_box4 HB.out (Nat.le_refl _) _ _ _ _
      · have hzb : (q2 == 0) = false := by simpa using hz
        rw [if_pos hz] at he
        rw [he]
        clear he hz
        refine hc ?_ ?_ <;> (intro hlv; subst hlv; clear hc hlev)
        all_goals
          go_enter Try.func20, Try.ntmps20
          go_wp2_with fail
          refine (MO.out _).mono ?_
          rintro e w1 ⟨rfl, hb⟩
          have HB := hide (below_call hb)
          have hz1 : w.heap.size < w1.heap.size := by have := hb.size; simp at this; omega
          have hbx := (Box.new w 23 #[.int .i64 0, .int .i64 0, .int .i64 0, .int .i64 0]).below hb (by simp)
          have g0 : w1.cell? ⟨w.heap.size, 0, none⟩ = some (.int .i64 0) := hbx.cell 0
          have g1 : w1.cell? ⟨w.heap.size, 1, none⟩ = some (.int .i64 0) := hbx.cell 1
          have g2 : w1.cell? ⟨w.heap.size, 2, none⟩ = some (.int .i64 0) := hbx.cell 2
          have g3 : w1.cell? ⟨w.heap.size, 3, none⟩ = some (.int .i64 0) := hbx.cell 3
          have hfz := hbx.frz
          clear hb hbx
          go_wp2
          refine bodyPost_ret (v := .tuple #[rgV rg0, .int .i64 q2]) (by simp [results, Try.results20, go_sem, rgV, rg0, g0, g1, g2, g3, hz1]) rfl ⟨by first | rfl | simp [rgV, rg0], ?_⟩
          exact below_box4 HB.out (Nat.le_refl _) _ _ _ _
end Go.Proofs.Ytgijjgnacgpdfaa
