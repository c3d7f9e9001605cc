/- Walks: May. -/
import Derived.Test.YtgijjgnacgpdfaaAcB
namespace Go.Proofs.Ytgijjgnacgpdfaa
open Go.RowKit

set_option maxHeartbeats 1000000 in
theorem amay_any (r : Rg) (day : Int) (staff : Bool) (A : Option Addr) (n c : Nat) (xs : List Int) (w : World) (hs : Is w w.heap.size A n c xs) :
    Calls Try.prog 17 #[rgV r, .int .i64 day, .bool staff, .slice A n c] w fun e w' => e = .returned (.bool (mayF r day staff (hasF xs r.gr))) ∧ Below w.heap.size w w' := by
  have hb0 : Below w.heap.size w (w.alloc (.cells #[.int .i64 r.lv, .int .i64 r.gr, .int .i64 r.un, .int .i64 r.th] 23)) := (Below.refl w.heap.size w).alloc (Nat.le_refl _) _
  have hcell : ∀ W, Below (w.heap.size + 1) (w.alloc (.cells #[.int .i64 r.lv, .int .i64 r.gr, .int .i64 r.un, .int .i64 r.th] 23)) W → (W.cell? ⟨w.heap.size, 0, none⟩ = some (.int .i64 r.lv) ∧ W.cell? ⟨w.heap.size, 1, none⟩ = some (.int .i64 r.gr) ∧ W.cell? ⟨w.heap.size, 2, none⟩ = some (.int .i64 r.un) ∧ W.cell? ⟨w.heap.size, 3, none⟩ = some (.int .i64 r.th)) := fun W hW =>
    have hB := (Box.new w 23 #[.int .i64 r.lv, .int .i64 r.gr, .int .i64 r.un, .int .i64 r.th]).below hW (by omega)
    ⟨hB.cell 0, hB.cell 1, hB.cell 2, hB.cell 3⟩
  have HB0 := hide hb0
  have HC := hide hcell
  have HS := hide hs
  clear hs hcell hb0
  have hri := fun o => aright_any r (w.alloc o)
  unfold rgV at hri ⊢
  by_cases h0 : rgE r = 0
  · rw [h0] at hri
    have HRI := hide hri
    have H0 := hide h0
    clear hri h0
    have hmay : mayF r day staff (hasF xs r.gr) = if lvF r day = 1 then true else if lvF r day = 2 then (staff || hasF xs r.gr) else if lvF r day = 3 then staff else false := by
      unfold mayF; rw [if_pos H0.out]
    have HMAY := hide hmay
    have hlv := fun w => alevel_any r day w
    unfold rgV at hlv
    generalize lvF r day = l at hlv HMAY
    have HLV := hide hlv
    clear hlv hmay
    go_enter Try.func17, Try.ntmps17
    go_wp2_with fail
    refine (HRI.out _).mono ?_
    rintro e w1 ⟨rfl, hb⟩
    have B1 := hide (show Below (w.heap.size + 1) _ w1 by simpa using hb)
    obtain ⟨c0, c1, c2, c3⟩ := HC.out w1 B1.out
    clear hb
    go_wp2_with fail
    refine (HLV.out _).mono ?_
    rintro e w2 ⟨rfl, hb⟩
    have B2 := hide (B1.out.trans (hb.mono (by have := B1.out.size; simpa using this)))
    have hB2 := hide (HB0.out.trans (B2.out.mono (by omega)))
    obtain ⟨d0, d1, d2, d3⟩ := HC.out w2 B2.out
    clear hb c0 c1 c2 c3
    by_cases h1 : l = 1
    · have h1' : (l == 1) = true := by simpa using h1
      have H1 := hide h1
      clear h1
      go_wp2
      go_ret
      exact ⟨ret_bool (by rw [HMAY.out, if_pos H1.out]), hB2.out⟩
    · have h1' : (l == 1) = false := by simpa using h1
      have H1 := hide h1
      clear h1
      by_cases h2 : l = 2
      · have h2' : (l == 2) = true := by simpa using h2
        have H2 := hide h2
        clear h2
        cases staff with
        | true =>
          go_wp2
          go_ret
          exact ⟨ret_bool (by rw [HMAY.out, if_neg H1.out, if_pos H2.out]; rfl), hB2.out⟩
        | false =>
          have hcon := contains_any A n c xs r.gr w2 _ (HS.out.below hB2.out)
          have HCON := hide hcon
          clear hcon
          go_wp2_with fail
          refine HCON.out.mono ?_
          rintro e w3 ⟨rfl, rfl⟩
          go_wp2
          go_ret
          exact ⟨ret_bool (by rw [HMAY.out, if_neg H1.out, if_pos H2.out]; rfl), hB2.out⟩
      · have h2' : (l == 2) = false := by simpa using h2
        have H2 := hide h2
        clear h2
        by_cases h3 : l = 3
        · have h3' : (l == 3) = true := by simpa using h3
          have H3 := hide h3
          clear h3
          go_wp2
          go_ret
          exact ⟨ret_bool (by rw [HMAY.out, if_neg H1.out, if_neg H2.out, if_pos H3.out]), hB2.out⟩
        · have h3' : (l == 3) = false := by simpa using h3
          have H3 := hide h3
          clear h3
          go_wp2
          go_ret
          exact ⟨ret_bool (by rw [HMAY.out, if_neg H1.out, if_neg H2.out, if_neg H3.out]), hB2.out⟩
  · have h0' : (rgE r != 0) = true := by simpa using h0
    have hmay : mayF r day staff (hasF xs r.gr) = false := by unfold mayF; rw [if_neg h0]
    have HMAY := hide hmay
    have HRI := hide hri
    clear hri hmay h0
    go_enter Try.func17, Try.ntmps17
    go_wp2_with fail
    refine (HRI.out _).mono ?_
    rintro e w1 ⟨rfl, hb⟩
    have B1 := hide (show Below (w.heap.size + 1) _ w1 by simpa using hb)
    clear hb
    go_wp2
    go_ret
    exact ⟨ret_bool HMAY.out.symm, HB0.out.trans (B1.out.mono (by omega))⟩

set_option maxHeartbeats 1000000 in
theorem rmay_any (r : Rg) (day : Int) (staff : Bool) (A : Option Addr) (n c : Nat) (xs : List Int) (w : World) (hs : Is w w.heap.size A n c xs) :
    Calls Try.prog 18 #[rgV r, .int .i64 day, .bool staff, .slice A n c] w fun e w' => e = .returned (.bool (mayF r day staff (hasF xs r.gr))) ∧ Below w.heap.size w w' := by
  have hb0 : Below w.heap.size w (w.alloc (.cells #[.int .i64 r.lv, .int .i64 r.gr, .int .i64 r.un, .int .i64 r.th] 23)) := (Below.refl w.heap.size w).alloc (Nat.le_refl _) _
  have hcell : ∀ W, Below (w.heap.size + 1) (w.alloc (.cells #[.int .i64 r.lv, .int .i64 r.gr, .int .i64 r.un, .int .i64 r.th] 23)) W → (W.cell? ⟨w.heap.size, 0, none⟩ = some (.int .i64 r.lv) ∧ W.cell? ⟨w.heap.size, 1, none⟩ = some (.int .i64 r.gr) ∧ W.cell? ⟨w.heap.size, 2, none⟩ = some (.int .i64 r.un) ∧ W.cell? ⟨w.heap.size, 3, none⟩ = some (.int .i64 r.th)) := fun W hW =>
    have hB := (Box.new w 23 #[.int .i64 r.lv, .int .i64 r.gr, .int .i64 r.un, .int .i64 r.th]).below hW (by omega)
    ⟨hB.cell 0, hB.cell 1, hB.cell 2, hB.cell 3⟩
  have HB0 := hide hb0
  have HC := hide hcell
  have HS := hide hs
  clear hs hcell hb0
  have hri := fun o => rright_any r (w.alloc o)
  unfold rgV at hri ⊢
  by_cases h0 : rgE r = 0
  · rw [h0] at hri
    have HRI := hide hri
    have H0 := hide h0
    clear hri h0
    have hmay : mayF r day staff (hasF xs r.gr) = if lvF r day = 1 then true else if lvF r day = 2 then (staff || hasF xs r.gr) else if lvF r day = 3 then staff else false := by
      unfold mayF; rw [if_pos H0.out]
    have HMAY := hide hmay
    have hlv := fun w => rlevel_any r day w
    unfold rgV at hlv
    generalize lvF r day = l at hlv HMAY
    have HLV := hide hlv
    clear hlv hmay
    go_enter Try.func18, Try.ntmps18
    go_wp2_with fail
    refine (HRI.out _).mono ?_
    rintro e w1 ⟨rfl, hb⟩
    have B1 := hide (show Below (w.heap.size + 1) _ w1 by simpa using hb)
    obtain ⟨c0, c1, c2, c3⟩ := HC.out w1 B1.out
    clear hb
    go_wp2_with fail
    refine (HLV.out _).mono ?_
    rintro e w2 ⟨rfl, hb⟩
    have B2 := hide (B1.out.trans (hb.mono (by have := B1.out.size; simpa using this)))
    have hB2 := hide (HB0.out.trans (B2.out.mono (by omega)))
    obtain ⟨d0, d1, d2, d3⟩ := HC.out w2 B2.out
    clear hb c0 c1 c2 c3
    by_cases h1 : l = 1
    · have h1' : (l == 1) = true := by simpa using h1
      have H1 := hide h1
      clear h1
      go_wp2
      go_ret
      exact ⟨ret_bool (by rw [HMAY.out, if_pos H1.out]), hB2.out⟩
    · have h1' : (l == 1) = false := by simpa using h1
      have H1 := hide h1
      clear h1
      by_cases h2 : l = 2
      · have h2' : (l == 2) = true := by simpa using h2
        have H2 := hide h2
        clear h2
        cases staff with
        | true =>
          go_wp2
          go_ret
          exact ⟨ret_bool (by rw [HMAY.out, if_neg H1.out, if_pos H2.out]; rfl), hB2.out⟩
        | false =>
          have hcon := has_any A n c xs r.gr w2 _ (HS.out.below hB2.out)
          have HCON := hide hcon
          clear hcon
          go_wp2_with fail
          refine HCON.out.mono ?_
          rintro e w3 ⟨rfl, rfl⟩
          go_wp2
          go_ret
          exact ⟨ret_bool (by rw [HMAY.out, if_neg H1.out, if_pos H2.out]; rfl), hB2.out⟩
      · have h2' : (l == 2) = false := by simpa using h2
        have H2 := hide h2
        clear h2
        by_cases h3 : l = 3
        · have h3' : (l == 3) = true := by simpa using h3
          have H3 := hide h3
          clear h3
          go_wp2
          go_ret
          exact ⟨ret_bool (by rw [HMAY.out, if_neg H1.out, if_neg H2.out, if_pos H3.out]), hB2.out⟩
        · have h3' : (l == 3) = false := by simpa using h3
          have H3 := hide h3
          clear h3
          go_wp2
          go_ret
          exact ⟨ret_bool (by rw [HMAY.out, if_neg H1.out, if_neg H2.out, if_neg H3.out]), hB2.out⟩
  · have h0' : (rgE r != 0) = true := by simpa using h0
    have hmay : mayF r day staff (hasF xs r.gr) = false := by unfold mayF; rw [if_neg h0]
    have HMAY := hide hmay
    have HRI := hide hri
    clear hri hmay h0
    go_enter Try.func18, Try.ntmps18
    go_wp2_with fail
    refine (HRI.out _).mono ?_
    rintro e w1 ⟨rfl, hb⟩
    have B1 := hide (show Below (w.heap.size + 1) _ w1 by simpa using hb)
    clear hb
    go_wp2
    go_ret
    exact ⟨ret_bool HMAY.out.symm, HB0.out.trans (B1.out.mono (by omega))⟩
end Go.Proofs.Ytgijjgnacgpdfaa
