/- Walks: the law AccessEnds. -/
import Derived.Test.YtgijjgnacgpdfaaAcI
namespace Go.Proofs.Ytgijjgnacgpdfaa
open Go.RowKit

theorem mon_later {day y m d n v : Int} (hp : PartsOf day y m d) (hn : 1 ≤ n) (h : monR y m d n = (v, 0)) : day < v ∧ v ≤ 109572 := by
  unfold monR at h
  split at h
  · simp at h
  · rename_i hk
    obtain ⟨d1, _⟩ := parts_day hp
    have hy' : (1900 + ((y - 1900) * 12 + m - 1 + n) / 12 = y ∧ m < ((y - 1900) * 12 + m - 1 + n) % 12 + 1) ∨ y < 1900 + ((y - 1900) * 12 + m - 1 + n) / 12 := by
      have := hp.m1; have := hp.m2; omega
    have hb1 : 1900 ≤ 1900 + ((y - 1900) * 12 + m - 1 + n) / 12 ∧ 1900 + ((y - 1900) * 12 + m - 1 + n) / 12 ≤ 2199 := by omega
    have hb2 : 1 ≤ ((y - 1900) * 12 + m - 1 + n) % 12 + 1 ∧ ((y - 1900) * 12 + m - 1 + n) % 12 + 1 ≤ 12 := by omega
    generalize 1900 + ((y - 1900) * 12 + m - 1 + n) / 12 = Y at h hy' hb1
    generalize ((y - 1900) * 12 + m - 1 + n) % 12 + 1 = M at h hy' hb2
    obtain ⟨b1, b2⟩ := hb1
    obtain ⟨b3, b4⟩ := hb2
    unfold ofR at h
    split at h
    · simp at h
    · rename_i hd
      generalize min d (ml Y M) = D at h hd
      simp at h
      have s1 := bef_step (y := Y) (m := M) b1 b2 b3 b4
      have s2 := bef_mono (y := Y) b1 b2 (m := M + 1) (m' := 13) (by omega) (by omega) (by omega)
      have s3 := bef_mono (y := Y) b1 b2 (m := 1) (m' := M) (by omega) b3 (by omega)
      rw [bef_13] at s2
      rw [bef_1] at s3
      have s4 : ny ((Y - 1900).toNat + 1) = ny (Y - 1900).toNat + 365 + lpn Y := by
        rw [ny, show 1900 + (((Y - 1900).toNat : Nat) : Int) = Y from by omega]
      have s5 := ny_mono (a := (Y - 1900).toNat + 1) (b := 300) (by omega)
      rw [ny_300] at s5
      refine ⟨?_, by omega⟩
      rcases hy' with ⟨rfl, hm⟩ | hlt
      · have e1 := bef_mono b1 b2 (m := m + 1) (m' := M) (by have := hp.m1; omega) (by omega) (by omega)
        have e2 := hp.mu
        omega
      · have e1 := ny_mono (a := (y - 1900).toNat + 1) (b := (Y - 1900).toNat) (by have := hp.y1; omega)
        have e2 : ny ((y - 1900).toNat + 1) = ny (y - 1900).toNat + 365 + lpn y := by
          rw [ny, show 1900 + (((y - 1900).toNat : Nat) : Int) = y from by have := hp.y1; omega]
        have e3 := hp.yu
        omega

theorem ends_may {L un : Int} (hL : L = 3 ∨ L = 4) (h1 : 1 ≤ un) (h2 : un ≤ 109572) (h : Bool) :
    rgE ⟨L, 0, un, 1⟩ = 0 ∧ mayF ⟨L, 0, un, 1⟩ (un - 1) false h = false ∧ mayF ⟨L, 0, un, 1⟩ (un - 1) true h = (L == 3) ∧ mayF ⟨L, 0, un, 1⟩ un false h = true := by
  have e0 : rgE ⟨L, 0, un, 1⟩ = 0 := by
    have a1 : (un == 0) = false := by simp; omega
    have a2 : (un != 0) = true := by simp; omega
    rcases hL with rfl | rfl <;> simp [rgE, a1, a2, wiB] <;> omega
  have e1 : lvF ⟨L, 0, un, 1⟩ (un - 1) = L := by
    rcases lv_cases ⟨L, 0, un, 1⟩ (un - 1) with ⟨h5, h6⟩ | ⟨h5, h6⟩
    · simp only at h5; omega
    · exact h6
  have e2 : lvF ⟨L, 0, un, 1⟩ un = 1 := by
    rcases lv_cases ⟨L, 0, un, 1⟩ un with ⟨h5, h6⟩ | ⟨h5, h6⟩
    · exact h6
    · simp only at h5; omega
  refine ⟨e0, ?_, ?_, ?_⟩
  · unfold mayF; rw [if_pos e0, e1]; rcases hL with rfl | rfl <;> simp
  · unfold mayF; rw [if_pos e0, e1]; rcases hL with rfl | rfl <;> simp
  · unfold mayF; rw [if_pos e0, e2]; simp

theorem emb_cases (q : Int × Int) (level day months : Int) (hq : ∀ y m d, PartsOf day y m d → monR y m d months = q) :
    (∃ e, embF q level day months = (rg0, e) ∧ (e == 0) = false) ∨
    (∃ un, embF q level day months = (⟨level, 0, un, 1⟩, 0) ∧ (level = 3 ∨ level = 4) ∧ day < un ∧ 1 ≤ un ∧ un ≤ 109572) := by
  unfold embF
  split
  · left; exact ⟨1, rfl, rfl⟩
  · rename_i hl
    split
    · left; exact ⟨2, rfl, rfl⟩
    · rename_i hr
      split
      · rename_i h2; left; exact ⟨q.2, rfl, by simpa using h2⟩
      · rename_i h2
        right
        simp [wiB] at hr hl
        obtain ⟨⟨d1, d2⟩, n1, n2⟩ := hr
        obtain ⟨y, m, d, hp⟩ := parts_exist d1 d2
        have hm := hq y m d hp
        have h2' : q.2 = 0 := by simpa using h2
        have := mon_later hp n1 (v := q.1) (by rw [hm, ← h2'])
        exact ⟨q.1, rfl, by omega, this.1, by omega, this.2⟩

set_option maxRecDepth 100000 in
set_option maxHeartbeats 2000000 in
theorem accessEnds_any (level day months : Int) (w : World) : Law 9 #[.int .i64 level, .int .i64 day, .int .i64 months] w := by
  unfold Law
  obtain ⟨q, hq⟩ := mon_exists day months
  have h1 := fun W => pemb_any q level day months W hq
  have hgd := rg_guard
  have B := hide (Below.refl w.heap.size w)
  rcases emb_cases q level day months hq with ⟨e, he, hez⟩ | ⟨un, he, hL, hlt, hu1, hu2⟩
  · rw [he] at h1
    have heq := rg_eql rg0 rg0
    rw [decide_eq_true rfl] at heq
    unfold rgV at h1 heq
    simp only [rg0] at h1 heq
    have H1 := hide h1
    clear h1 hq he
    go_enter Try.func9, Try.ntmps9
    go_wp2_with fail
    refine (H1.out _).mono ?_
    rintro e w1 ⟨rfl, hb⟩
    have B1 := hide ((B.out.trans hb).alloc (B.out.trans hb).size (.cells (rgC rg0) 23))
    clear hb
    go_wp2_with fail
    refine (alive_any _).mono ?_
    rintro e w2 ⟨rfl, hb⟩
    have B2 := hide (B1.out.trans (hb.mono B1.out.size))
    clear hb
    go_wp2
    go_ret
    exact ⟨rfl, B2.out⟩
  · rw [he] at h1
    obtain ⟨a0, a1, a2, a3⟩ := ends_may hL hu1 hu2 (hasF [] 0)
    have h2 := fun W => aright_any ⟨level, 0, un, 1⟩ W
    have h3 := fun W => amay_any ⟨level, 0, un, 1⟩ (un - 1) false none 0 0 [] W Sl.none_
    have h4 := fun W => amay_any ⟨level, 0, un, 1⟩ (un - 1) true none 0 0 [] W Sl.none_
    have h5 := fun W => amay_any ⟨level, 0, un, 1⟩ un false none 0 0 [] W Sl.none_
    rw [a0] at h2
    rw [a1] at h3
    rw [a2] at h4
    rw [a3] at h5
    unfold rgV at h1 h2 h3 h4 h5
    have H1 := hide h1
    have H2 := hide h2
    have H3 := hide h3
    have H4 := hide h4
    have H5 := hide h5
    clear h1 h2 h3 h4 h5 hq he a0 a1 a2 a3 hL
    go_enter Try.func9, Try.ntmps9
    go_wp2_with fail
    refine (H1.out _).mono ?_
    rintro e w1 ⟨rfl, hb⟩
    have HB := hide ((B.out.trans hb).alloc (B.out.trans hb).size (.cells (rgC ⟨level, 0, un, 1⟩) 23))
    have hwz : w.heap.size ≤ w1.heap.size := (B.out.trans hb).size
    have HX := hide (Box.new w1 23 (rgC ⟨level, 0, un, 1⟩))
    have B1 := hide (Below.refl (w1.heap.size + 1) (w1.alloc (.cells (rgC ⟨level, 0, un, 1⟩) 23)))
    clear hb
    go_wp2_with fail
    refine (H2.out _).mono ?_
    rintro e w2 ⟨rfl, hb⟩
    have B2 := hide (B1.out.trans (hb.mono (by simp)))
    clear hb
    obtain ⟨_, c0, c1, c2, c3⟩ := rbox HX.out B2.out
    go_wp2_with fail
    refine (H3.out _).mono ?_
    rintro e w3 ⟨rfl, hb⟩
    have B3 := hide (B2.out.trans (hb.mono (by have := B2.out.size; simpa using this)))
    clear hb
    clear c0 c1 c2 c3
    obtain ⟨_, c0, c1, c2, c3⟩ := rbox HX.out B3.out
    go_wp2_with fail
    refine (H4.out _).mono ?_
    rintro e w4 ⟨rfl, hb⟩
    have B4 := hide (B3.out.trans (hb.mono (by have := B3.out.size; simpa using this)))
    clear hb
    clear c0 c1 c2 c3
    obtain ⟨_, c0, c1, c2, c3⟩ := rbox HX.out B4.out
    go_wp2_with fail
    refine (H5.out _).mono ?_
    rintro e w5 ⟨rfl, hb⟩
    have B5 := hide (B4.out.trans (hb.mono (by have := B4.out.size; simpa using this)))
    clear hb
    clear c0 c1 c2 c3
    obtain ⟨_, c0, c1, c2, c3⟩ := rbox HX.out B5.out
    go_wp2_with fail
    refine (alive_any _).mono ?_
    rintro e w6 ⟨rfl, hb⟩
    have B6 := hide (B5.out.trans (hb.mono (by have := B5.out.size; simpa using this)))
    clear hb
    clear c0 c1 c2 c3
    obtain ⟨_, c0, c1, c2, c3⟩ := rbox HX.out B6.out
    go_wp2
    go_ret
    exact ⟨rfl, HB.out.trans (B6.out.mono (by omega))⟩
end Go.Proofs.Ytgijjgnacgpdfaa
