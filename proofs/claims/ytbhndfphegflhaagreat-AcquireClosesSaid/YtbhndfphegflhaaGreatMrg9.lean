/- Texts laid together by merge.py: PtB, PtD, PtE, SeKit. -/
import Derived.Test.YtbhndfphegflhaaGreatMrg8
import Derived.BigGuardPart
import Derived.Test.YtbhndfphegflhaaGreatMrg3
import Derived.Test.YtbhndfphegflhaaGreatMrg0
import Derived.Test.YtbhndfphegflhaaGreatProg
import Derived.Shelf.Abstract
set_option linter.unusedSimpArgs false
set_option linter.unusedVariables false
/- Walks: following of the reference; nominal and next of the program. -/
namespace Go.Proofs.YtbhndfphegflhaaGreat
open Go.RowKit

theorem ret_tup2 {k k' : IntKind} {a b c d : Int} (h1 : a = c) (h2 : b = d) : Ending.returned (.tuple #[.int k a, .int k' b]) = .returned (.tuple #[.int k c, .int k' d]) := by rw [h1, h2]
set_option maxRecDepth 100000 in
set_option maxHeartbeats 4000000 in
theorem rfol_any (p : Pt) (k : Nat) (w : World) (hp : PtM p) (hs : PtS w w.heap.size p) (hk : k ≤ 16001) :
    Calls Tryz.prog 148 #[ptV p, .int .i64 k] w fun e w' => e = .returned (.tuple #[.int .i64 (fol p k).1, .int .i64 ((fol p k).2 : Nat)]) ∧ Below w.heap.size w w' := by
  have B0 := hide ((Below.refl w.heap.size w).alloc (Nat.le_refl _) (.cells (ptC p) 67))
  have Z0 := hide (Below.refl (w.heap.size + 1) (w.alloc (.cells (ptC p) 67)))
  have X0 := hide (Box.new w 67 (ptC p))
  have HN := hide (fun (j : Nat) (hj : j ≤ 20000) W => rnom_any p j W hp hj)
  have HMo := hide (fun d (h1 : 0 ≤ d) (h2 : d ≤ 109572) W => rmonth_any d W h1 h2)
  have HIn := hide (fun v W (hW : Below w.heap.size w W) => rin_any p.skA p.skn p.skc p.sk v W _ (hs.1.below hW))
  have HP := hide hp
  clear hp hs
  unfold ptV at HN ⊢
  go_enter Tryz.func148, Tryz.ntmps148
  go_wp2
  go_loopw [1] (fun s1 wr => ∃ j : Nat, j ≤ 16001 ∧ s1 = .int .i64 j ∧ fol p k = fol p j ∧ Below (w.heap.size + 1) (w.alloc (.cells (ptC p) 67)) wr) (fun s1 _ => 16001 - (intOf s1).toNat)
  case atStart => exact ⟨k, hk, rfl, rfl, Z0.out⟩
  case round =>
    obtain ⟨j, hj, rfl, hf, hb⟩ := hrel
    have HF := hide hf
    have Z1 := hide hb
    have X1 := hide (X0.out.below hb (by omega))
    have q0 := X1.out.cell 0
    have q1 := X1.out.cell 1
    have q2 := X1.out.cell 2
    have q3 := X1.out.cell 3
    have q4 := X1.out.cell 4
    have q5 := X1.out.cell 5
    simp at q0 q1 q2 q3 q4 q5
    have HNj := hide (HN.out j (by omega) wr)
    clear hf hb
    cases hn : nomF p j with
    | none =>
      rw [hn] at HNj
      have HR := hide (fol_none hn)
      have B1 := hide (B0.out.trans (Z1.out.mono (by omega)))
      clear hn
      go_wp2_with fail
      refine HNj.out.mono ?_
      rintro e w1 ⟨rfl, hb⟩
      have B2 := hide (B1.out.trans (hb.mono B1.out.size))
      clear hb
      simp only [Option.getD_none]
      go_wp2
      go_ret2
      exact ⟨ret_tup2 (by rw [HF.out, HR.out]) (by rw [HF.out, HR.out]), B2.out⟩
    | some d =>
      rw [hn] at HNj
      obtain ⟨d1, d2, d3⟩ := nomF_day HP.out hn
      have d0 : ¬ d < 0 := by omega
      have HMd := hide (fun W => HMo.out d d1 d2 W)
      have B1 := hide (B0.out.trans (Z1.out.mono (by omega)))
      have hz1 : w.heap.size + 1 ≤ wr.heap.size := by have := Z1.out.size; simpa using this
      cases hsk : inL p.sk (mthF d) with
      | true =>
        have HR := hide (fol_skip HP.out hn hsk)
        have HI := hide (fun W hW => by have h := HIn.out (mthF d) W hW; rw [hsk] at h; exact h)
        clear hn hsk
        go_wp2_with fail
        refine HNj.out.mono ?_
        rintro e w1 ⟨rfl, hb⟩
        have B2 := hide (B1.out.trans (hb.mono B1.out.size))
        have Z2 := hide (Z1.out.trans (hb.mono hz1))
        have X2 := X1.out.below hb X1.out.lt
        have r4 := X2.cell 4
        simp at r4
        have f4 := Grn.cell r4
        clear hb X2
        simp only [Option.getD_some]
        go_wp2_with fail
        refine wp_region_grn (by kernel_rfl) (by kernel_rfl) ?_
        repeat (go_big_quiet_step (first | (go_at_call 150; exact Calls_grn (HMd.out _)) | (go_at_call 149; exact Calls_grn_same (HI.out _ (B2.out.trans ((Grn.h _).mono B2.out.size))))))
        refine wpQuiet_nil ?_
        rintro _ ⟨q, rfl⟩
        have Z3 := hide (Z2.out.trans (q.h.mono (Nat.le_trans (by simp) Z2.out.size)))
        go_wp2
        go_roundw
        case rel => exact ⟨j + 1, by omega, by go_num, by rw [HF.out, HR.out], Z3.out⟩
        case measure => have e : IntKind.i64.wrap ((j : Int) + 1) = (j : Int) + 1 := (by rw [IntKind.wrap_i64]; omega); simp [intOf, e]; omega
      | false =>
        have HR := hide (fol_hit HP.out hn hsk)
        have HI := hide (fun W hW => by have h := HIn.out (mthF d) W hW; rw [hsk] at h; exact h)
        clear hn hsk
        go_wp2_with fail
        refine HNj.out.mono ?_
        rintro e w1 ⟨rfl, hb⟩
        have B2 := hide (B1.out.trans (hb.mono B1.out.size))
        have X2 := X1.out.below hb X1.out.lt
        have r4 := X2.cell 4
        simp at r4
        have f4 := Grn.cell r4
        clear hb X2
        simp only [Option.getD_some]
        go_wp2_with fail
        refine wp_region_grn (by kernel_rfl) (by kernel_rfl) ?_
        repeat (go_big_quiet_step (first | (go_at_call 150; exact Calls_grn (HMd.out _)) | (go_at_call 149; exact Calls_grn_same (HI.out _ (B2.out.trans ((Grn.h _).mono B2.out.size))))))
        refine wpQuiet_nil ?_
        rintro _ ⟨q, rfl⟩
        have B3 := hide (B2.out.trans (q.h.mono B2.out.size))
        go_wp2
        go_ret2
        exact ⟨ret_tup2 (by rw [HF.out, HR.out]) (by rw [HF.out, HR.out]), B3.out⟩
end Go.Proofs.YtbhndfphegflhaaGreat

/- Walks: months of both; Right of the reference. Printed by gen_pt_d.py. -/
namespace Go.Proofs.YtbhndfphegflhaaGreat
open Go.RowKit

def mbad (m : Int) : Bool := decide (m < 1) || decide (12 < m)
theorem mon_bad {xs : List Int} {k : Nat} {y : Int} (h : xs[k]? = some y) (hb : mbad y = true) : monErr xs = 2 := by
  unfold monErr
  rw [if_pos (show (xs.any fun m => decide (m < 1) || decide (12 < m)) = true from List.any_eq_true.2 ⟨y, List.mem_of_getElem? h, hb⟩)]
theorem mon_any {xs : List Int} (h : ∀ y ∈ xs, mbad y = false) : xs.any (fun m => decide (m < 1) || decide (12 < m)) = false := by
  rw [List.any_eq_false]
  intro y hy hb
  have := h y hy
  unfold mbad at this
  rw [this] at hb; cases hb
theorem mon_7 {xs : List Int} {i : Nat} {a b : Int} (h : ∀ y ∈ xs, mbad y = false) (ha : xs[i]? = some a) (hb : xs[i + 1]? = some b) (hle : b ≤ a) : monErr xs = 7 := by
  unfold monErr
  have hl := (List.getElem?_eq_some_iff.1 hb).1
  rw [mon_any h, if_neg (by simp), if_pos (show ((List.range (xs.length - 1)).any fun i => decide (xs.getD (i + 1) 0 ≤ xs.getD i 0)) = true from List.any_eq_true.2 ⟨i, List.mem_range.2 (by omega), by simp [List.getD_eq_getElem?_getD, ha, hb, hle]⟩)]
theorem mon_0 {xs : List Int} (h : ∀ y ∈ xs, mbad y = false) (hi : ∀ i a b, xs[i]? = some a → xs[i + 1]? = some b → a < b) : monErr xs = 0 := by
  unfold monErr
  rw [mon_any h, if_neg (by simp), if_neg]
  intro hq
  obtain ⟨i, hi1, hi2⟩ := List.any_eq_true.1 hq
  have hi3 := List.mem_range.1 hi1
  obtain ⟨a, ha⟩ : ∃ a, xs[i]? = some a := ⟨_, List.getElem?_eq_getElem (by omega)⟩
  obtain ⟨b, hb⟩ : ∃ b, xs[i + 1]? = some b := ⟨_, List.getElem?_eq_getElem (by omega)⟩
  have := hi i a b ha hb
  simp [List.getD_eq_getElem?_getD, ha, hb] at hi2
  omega
theorem mon_snoc {xs : List Int} {k : Nat} {y : Int} (h : xs[k]? = some y) (ha : ∀ z ∈ xs.take k, mbad z = false) (hb : mbad y = false) : ∀ z ∈ xs.take (k + 1), mbad z = false := by
  intro z hz
  rw [take_step h] at hz
  rcases List.mem_append.1 hz with hz | hz
  · exact ha z hz
  · rw [List.mem_singleton.1 hz]; exact hb

set_option maxRecDepth 100000 in
set_option maxHeartbeats 2000000 in
theorem rmonths36_any (A : Option Addr) (n c : Nat) (xs : List Int) (w : World) (B : Nat) (hs : Is w B A n c xs) (hB : B ≤ w.heap.size) :
    Calls Tryz.prog 164 #[.slice A n c] w fun e w' => e = .returned (.int .i64 (monErr xs)) ∧ Below w.heap.size w w' := by
  obtain rfl := hs.len
  have hbig := hs.big
  have hle := hs.le
  have HS := hide (hs.more hB)
  clear hs
  go_enter Tryz.func164, Tryz.ntmps164
  go_wp2
  go_loop [3] (fun i => ∃ k : Nat, k ≤ xs.length ∧ i = .int .i64 k ∧ ∀ y ∈ xs.take k, mbad y = false) (fun i => xs.length - (intOf i).toNat)
  case atStart => exact ⟨0, Nat.zero_le _, rfl, by simp⟩
  case round =>
    obtain ⟨k, hk, rfl, ha⟩ := hrel
    have HA := hide ha
    clear ha
    by_cases hlt : k < xs.length
    · obtain ⟨b, off, x, rfl, hbB, hx, c0⟩ := Is_at HS.out hlt
      have hkz : (k : Int) < (xs.length : Int) := by omega
      by_cases hq : mbad x = true
      · have HR := hide (mon_bad hx hq)
        have hcs : x < 1 ∨ (¬ x < 1 ∧ 12 < x) := by
          unfold mbad at hq
          rw [Bool.or_eq_true, decide_eq_true_eq, decide_eq_true_eq] at hq
          omega
        clear hq hx
        rcases hcs with h1 | ⟨h1, h2⟩
        all_goals
          go_wp2
          go_ret
          exact ⟨ret_int HR.out.symm, Below.refl _ _⟩
      · have hq' : mbad x = false := by simpa using hq
        have HA2 := hide (mon_snoc hx HA.out hq')
        have h12 : ¬ x < 1 ∧ ¬ 12 < x := by
          unfold mbad at hq'
          rw [Bool.or_eq_false_iff, decide_eq_false_iff_not, decide_eq_false_iff_not] at hq'
          exact hq'
        obtain ⟨h1, h2⟩ := h12
        clear hx HA hq hq'
        go_wp2
        go_round
        case rel => exact ⟨k + 1, by omega, by go_num, HA2.out⟩
        case measure => simp [intOf]; omega
    · have hkz : ¬ (k : Int) < (xs.length : Int) := by omega
      have HOK := hide (show ∀ y ∈ xs, mbad y = false by have h := HA.out; rwa [List.take_of_length_le (by omega)] at h)
      clear HA
      go_wp2
      go_loopw [4] (fun s wr => ∃ i : Nat, s = .int .i64 ((i : Int) + 1) ∧ i ≤ xs.length ∧ (∀ t a b, t < i → xs[t]? = some a → xs[t + 1]? = some b → a < b) ∧ Below w.heap.size w wr) (fun s _ => xs.length + 1 - (intOf s).toNat)
      case atStart => exact ⟨0, rfl, Nat.zero_le _, (fun t a b h => by omega), Below.refl _ _⟩
      case round =>
        obtain ⟨i, rfl, hil, hpr, hb⟩ := hrel
        have HPR := hide hpr
        have HB := hide hb
        clear hpr hb
        by_cases hlt2 : i + 1 < xs.length
        · obtain ⟨b, off, x, hA, hbB, hx, c0⟩ := Is_at (HS.out.below HB.out) (k := i) (by omega)
          subst hA
          obtain ⟨b', off', y, hA', hbB', hy, c1'⟩ := Is_at (HS.out.below HB.out) hlt2
          cases hA'
          have hz1 : ((i : Int) + 1) < (xs.length : Int) := by omega
          have e1 : IntKind.i64.wrap ((i : Int) + 1 - 1) = (i : Int) := by rw [IntKind.wrap_i64]; omega
          have e2 : ((i : Int) + 1).toNat = i + 1 := by omega
          have e7 : ((i : Int) + 1 - 1) = (i : Int) := by omega
          have e3 : (0 : Int) ≤ (i : Int) + 1 := by omega
          have f0 := Grn.cell c0
          have f1 := Grn.cell c1'
          by_cases hq : y ≤ x
          · have HR := hide (mon_7 HOK.out hx hy hq)
            clear hx hy
            go_wp2_with fail
            refine wp_region_grn (by kernel_rfl) (by kernel_rfl) ?_
            repeat (go_big_quiet_step (fail))
            refine wpQuiet_nil ?_
            rintro _ ⟨q, rfl⟩
            have B2 := hide (HB.out.trans (q.h.mono HB.out.size))
            go_wp2
            go_ret
            exact ⟨ret_int HR.out.symm, B2.out⟩
          · have hq' : ¬ y ≤ x := hq
            have HP2 := hide (show ∀ t a b, t < i + 1 → xs[t]? = some a → xs[t + 1]? = some b → a < b by
              intro t a b ht ha hb
              by_cases e : t = i
              · subst e; rw [hx] at ha; rw [hy] at hb; cases ha; cases hb; omega
              · exact HPR.out t a b (by omega) ha hb)
            clear hx hy HPR
            go_wp2_with fail
            refine wp_region_grn (by kernel_rfl) (by kernel_rfl) ?_
            repeat (go_big_quiet_step (fail))
            refine wpQuiet_nil ?_
            rintro _ ⟨q, rfl⟩
            have B2 := hide (HB.out.trans (q.h.mono HB.out.size))
            go_wp2
            go_roundw
            case rel => exact ⟨i + 1, by go_num, by omega, HP2.out, B2.out⟩
            case measure => have e : IntKind.i64.wrap ((i : Int) + 1 + 1) = (i : Int) + 1 + 1 := (by rw [IntKind.wrap_i64]; omega); simp [intOf, e]; omega
        · have hz1 : ¬ ((i : Int) + 1) < (xs.length : Int) := by omega
          have HR := hide (mon_0 HOK.out (fun t a b ha hb => HPR.out t a b (by have := (List.getElem?_eq_some_iff.1 hb).1; omega) ha hb))
          clear HPR
          go_wp2
          go_ret
          exact ⟨ret_int HR.out.symm, HB.out⟩
set_option maxRecDepth 100000 in
set_option maxHeartbeats 2000000 in
theorem pmonths36_any (A : Option Addr) (n c : Nat) (xs : List Int) (w : World) (B : Nat) (hs : Is w B A n c xs) (hB : B ≤ w.heap.size) :
    Calls Tryz.prog 157 #[.slice A n c] w fun e w' => e = .returned (.int .i64 (monErr xs)) ∧ Below w.heap.size w w' := by
  obtain rfl := hs.len
  have hbig := hs.big
  have hle := hs.le
  have HS := hide (hs.more hB)
  clear hs
  go_enter Tryz.func157, Tryz.ntmps157
  go_wp2
  go_loop [8] (fun i => ∃ k : Nat, k ≤ xs.length ∧ i = .int .i64 k ∧ ∀ y ∈ xs.take k, mbad y = false) (fun i => xs.length - (intOf i).toNat)
  case atStart => exact ⟨0, Nat.zero_le _, rfl, by simp⟩
  case round =>
    obtain ⟨k, hk, rfl, ha⟩ := hrel
    have HA := hide ha
    clear ha
    by_cases hlt : k < xs.length
    · obtain ⟨b, off, x, rfl, hbB, hx, c0⟩ := Is_at HS.out hlt
      have hkz : (k : Int) < (xs.length : Int) := by omega
      by_cases hq : mbad x = true
      · have HR := hide (mon_bad hx hq)
        have hcs : x < 1 ∨ (¬ x < 1 ∧ 12 < x) := by
          unfold mbad at hq
          rw [Bool.or_eq_true, decide_eq_true_eq, decide_eq_true_eq] at hq
          omega
        clear hq hx
        rcases hcs with h1 | ⟨h1, h2⟩
        all_goals
          go_wp2
          go_ret
          exact ⟨ret_int HR.out.symm, Below.refl _ _⟩
      · have hq' : mbad x = false := by simpa using hq
        have HA2 := hide (mon_snoc hx HA.out hq')
        have h12 : ¬ x < 1 ∧ ¬ 12 < x := by
          unfold mbad at hq'
          rw [Bool.or_eq_false_iff, decide_eq_false_iff_not, decide_eq_false_iff_not] at hq'
          exact hq'
        obtain ⟨h1, h2⟩ := h12
        clear hx HA hq hq'
        go_wp2
        go_round
        case rel => exact ⟨k + 1, by omega, by go_num, HA2.out⟩
        case measure => simp [intOf]; omega
    · have hkz : ¬ (k : Int) < (xs.length : Int) := by omega
      have HOK := hide (show ∀ y ∈ xs, mbad y = false by have h := HA.out; rwa [List.take_of_length_le (by omega)] at h)
      clear HA
      go_wp2
      go_loopw [5] (fun s wr => ∃ i : Nat, s = .int .i64 ((i : Int) + 1) ∧ i ≤ xs.length ∧ (∀ t a b, t < i → xs[t]? = some a → xs[t + 1]? = some b → a < b) ∧ Below w.heap.size w wr) (fun s _ => xs.length + 1 - (intOf s).toNat)
      case atStart => exact ⟨0, rfl, Nat.zero_le _, (fun t a b h => by omega), Below.refl _ _⟩
      case round =>
        obtain ⟨i, rfl, hil, hpr, hb⟩ := hrel
        have HPR := hide hpr
        have HB := hide hb
        clear hpr hb
        by_cases hlt2 : i + 1 < xs.length
        · obtain ⟨b, off, x, hA, hbB, hx, c0⟩ := Is_at (HS.out.below HB.out) (k := i) (by omega)
          subst hA
          obtain ⟨b', off', y, hA', hbB', hy, c1'⟩ := Is_at (HS.out.below HB.out) hlt2
          cases hA'
          have hz1 : ((i : Int) + 1) < (xs.length : Int) := by omega
          have e1 : IntKind.i64.wrap ((i : Int) + 1 - 1) = (i : Int) := by rw [IntKind.wrap_i64]; omega
          have e2 : ((i : Int) + 1).toNat = i + 1 := by omega
          have e7 : ((i : Int) + 1 - 1) = (i : Int) := by omega
          have e3 : (0 : Int) ≤ (i : Int) + 1 := by omega
          have f0 := Grn.cell c0
          have f1 := Grn.cell c1'
          by_cases hq : y ≤ x
          · have HR := hide (mon_7 HOK.out hx hy hq)
            clear hx hy
            go_wp2_with fail
            refine wp_region_grn (by kernel_rfl) (by kernel_rfl) ?_
            repeat (go_big_quiet_step (fail))
            refine wpQuiet_nil ?_
            rintro _ ⟨q, rfl⟩
            have B2 := hide (HB.out.trans (q.h.mono HB.out.size))
            go_wp2
            go_ret
            exact ⟨ret_int HR.out.symm, B2.out⟩
          · have hq' : ¬ y ≤ x := hq
            have HP2 := hide (show ∀ t a b, t < i + 1 → xs[t]? = some a → xs[t + 1]? = some b → a < b by
              intro t a b ht ha hb
              by_cases e : t = i
              · subst e; rw [hx] at ha; rw [hy] at hb; cases ha; cases hb; omega
              · exact HPR.out t a b (by omega) ha hb)
            clear hx hy HPR
            go_wp2_with fail
            refine wp_region_grn (by kernel_rfl) (by kernel_rfl) ?_
            repeat (go_big_quiet_step (fail))
            refine wpQuiet_nil ?_
            rintro _ ⟨q, rfl⟩
            have B2 := hide (HB.out.trans (q.h.mono HB.out.size))
            go_wp2
            go_roundw
            case rel => exact ⟨i + 1, by go_num, by omega, HP2.out, B2.out⟩
            case measure => have e : IntKind.i64.wrap ((i : Int) + 1 + 1) = (i : Int) + 1 + 1 := (by rw [IntKind.wrap_i64]; omega); simp [intOf, e]; omega
        · have hz1 : ¬ ((i : Int) + 1) < (xs.length : Int) := by omega
          have HR := hide (mon_0 HOK.out (fun t a b ha hb => HPR.out t a b (by have := (List.getElem?_eq_some_iff.1 hb).1; omega) ha hb))
          clear HPR
          go_wp2
          go_ret
          exact ⟨ret_int HR.out.symm, HB.out⟩
end Go.Proofs.YtbhndfphegflhaaGreat

/- Walks: Right of the reference (patterns). Printed by gen_pt_e.py. -/
namespace Go.Proofs.YtbhndfphegflhaaGreat
open Go.RowKit

theorem ptBad1_iff {p : Pt} : ptBad1 p = false ↔ 0 ≤ p.start ∧ p.start ≤ 109572 ∧ 1 ≤ p.pv ∧ p.pv ≤ 366 ∧ 1 ≤ p.fv ∧ p.fv ≤ 9999 := by
  unfold ptBad1
  simp only [Bool.or_eq_false_iff, decide_eq_false_iff_not]
  omega
theorem ptBad2_iff {p : Pt} : ptBad2 p = false ↔ 1 ≤ p.every ∧ p.every ≤ 4 := by
  unfold ptBad2
  simp only [Bool.or_eq_false_iff, decide_eq_false_iff_not]
  omega
theorem ptBad3_iff {p : Pt} : ptBad3 p = false ↔ ¬ p.sk.length = 12 ∧ (p.sk.length = 0 ∨ p.every < 3) ∧ (p.db.length = 0 ∨ p.every = 2) := by
  unfold ptBad3
  simp only [Bool.or_eq_false_iff, Bool.and_eq_false_iff, decide_eq_false_iff_not, beq_eq_false_iff_ne, bne_eq_false_iff_eq]
  omega
theorem pt_err1 {p : Pt} (h : ptBad1 p = true) : ptErr p = 2 := by unfold ptErr; rw [if_pos h]
theorem pt_err2 {p : Pt} (h1 : ptBad1 p = false) (h : ptBad2 p = true) : ptErr p = 1 := by unfold ptErr; rw [h1, if_neg (by decide), if_pos h]
theorem pt_err3 {p : Pt} (h1 : ptBad1 p = false) (h2 : ptBad2 p = false) (h : (monErr p.sk != 0) = true) : ptErr p = monErr p.sk := by unfold ptErr; rw [h1, if_neg (by decide), h2, if_neg (by decide), if_pos h]
theorem pt_err4 {p : Pt} (h1 : ptBad1 p = false) (h2 : ptBad2 p = false) (h3 : (monErr p.sk != 0) = false) (h : (monErr p.db != 0) = true) : ptErr p = monErr p.db := by
  unfold ptErr; rw [h1, if_neg (by decide), h2, if_neg (by decide), h3, if_neg (by decide), if_pos h]
theorem pt_err5 {p : Pt} (h1 : ptBad1 p = false) (h2 : ptBad2 p = false) (h3 : (monErr p.sk != 0) = false) (h4 : (monErr p.db != 0) = false) :
    ptErr p = if ptBad3 p = true then 1 else if ptBad4 p = true then 1 else 0 := by
  unfold ptErr; rw [h1, if_neg (by decide), h2, if_neg (by decide), h3, if_neg (by decide), h4, if_neg (by decide)]

set_option maxRecDepth 100000 in
set_option maxHeartbeats 8000000 in
theorem rright36_any (p : Pt) (w : World) (hs : PtS w w.heap.size p) :
    Calls Tryz.prog 115 #[ptV p] w fun e w' => e = .returned (.int .i64 (ptErr p)) ∧ Below w.heap.size w w' := by
  have B0 := hide ((Below.refl w.heap.size w).alloc (Nat.le_refl _) (.cells (ptC p) 67))
  have X0 := hide (Box.new w 67 (ptC p))
  have HS := hide hs
  have hl1 := hs.1.len
  have hl2 := hs.2.len
  have hb1 := hs.1.big
  have hb2 := hs.2.big
  clear hs
  by_cases h1 : 0 ≤ p.start ∧ p.start ≤ 109572 ∧ 1 ≤ p.pv ∧ p.pv ≤ 366 ∧ 1 ≤ p.fv ∧ p.fv ≤ 9999
  · have H1 := hide (ptBad1_iff.2 h1)
    obtain ⟨a1, a2, a3, a4, a5, a6⟩ := h1
    by_cases h2 : 1 ≤ p.every ∧ p.every ≤ 4
    · have H2 := hide (ptBad2_iff.2 h2)
      obtain ⟨a7, a8⟩ := h2
      have HM1 := hide (rmonths36_any p.skA p.skn p.skc p.sk _ _ (HS.out.1.below B0.out) B0.out.size)
      have HM2 := hide (fun W (hW : Below w.heap.size w W) => rmonths36_any p.dbA p.dbn p.dbc p.db W _ (HS.out.2.below hW) hW.size)
      have HE3 := hide (fun h => pt_err3 H1.out H2.out h)
      have HE4 := hide (fun h h' => pt_err4 H1.out H2.out h h')
      have HE5 := hide (fun h h' => pt_err5 H1.out H2.out h h')
      obtain ⟨m1, hm1⟩ : ∃ m, monErr p.sk = m := ⟨_, rfl⟩
      obtain ⟨m2, hm2⟩ : ∃ m, monErr p.db = m := ⟨_, rfl⟩
      rw [hm1] at HM1 HE3 HE4 HE5
      rw [hm2] at HM2 HE4 HE5
      clear hm1 hm2
      unfold ptV
      go_enter Tryz.func115, Tryz.ntmps115
      go_wp2_with fail
      refine HM1.out.mono ?_
      rintro e w1 ⟨rfl, hb⟩
      have B1 := hide (B0.out.trans (hb.mono B0.out.size))
      have X1 := hide (X0.out.below hb (by simp))
      have q1 := X1.out.cell 1
      have q4 := X1.out.cell 4
      have q5 := X1.out.cell 5
      simp at q1 q4 q5
      have HM2' := hide (HM2.out w1 B1.out)
      clear hb HM1 HM2
      by_cases hz1 : (m1 != 0) = true
      · have HR := hide (HE3.out hz1)
        clear HE3 HE4 HE5
        go_wp2
        go_ret
        exact ⟨ret_int HR.out.symm, B1.out⟩
      have hz1' : (m1 != 0) = false := by simpa using hz1
      clear hz1
      go_wp2_with fail
      refine HM2'.out.mono ?_
      rintro e w2 ⟨rfl, hb⟩
      have B2 := hide (B1.out.trans (hb.mono B1.out.size))
      have X2 := hide (X1.out.below hb X1.out.lt)
      have HZ1 := hide hz1'
      clear q1 q4 q5
      have q1 := X2.out.cell 1
      have q4 := X2.out.cell 4
      have q5 := X2.out.cell 5
      simp at q1 q4 q5
      clear hb HM2' hz1' X1
      by_cases hz2 : (m2 != 0) = true
      · have HR := hide (HE4.out HZ1.out hz2)
        clear HE3 HE4 HE5
        go_wp2
        go_ret
        exact ⟨ret_int HR.out.symm, B2.out⟩
      have hz2' : (m2 != 0) = false := by simpa using hz2
      have HE := hide (HE5.out HZ1.out hz2')
      clear hz2 HE3 HE4 HE5 HZ1
      by_cases h3 : ¬ (p.skn : Int) = 12 ∧ ((p.skn : Int) = 0 ∨ p.every < 3) ∧ ((p.dbn : Int) = 0 ∨ p.every = 2)
      · have HE3 := hide (show ptErr p = if ptBad4 p = true then 1 else 0 by rw [HE.out, ptBad3_iff.2 (by omega), if_neg (by decide)])
        clear HE
        have HCS : ((p.skn : Int) = 0 ∨ (0 < (p.skn : Int) ∧ ¬ 3 ≤ p.every)) ∧ ((p.dbn : Int) = 0 ∨ (0 < (p.dbn : Int) ∧ p.every = 2)) := by omega
        have n12 := h3.1
        clear h3
        obtain ⟨hsk, hdb⟩ := HCS
        have he34 : 0 < (p.skn : Int) → (p.every == 3) = false ∧ (p.every == 4) = false := fun h => by constructor <;> (rw [beq_eq_false_iff_ne]; omega)
        have HE34 := hide he34
        clear he34
        rcases hdb with hdb | ⟨hdb, hev⟩
        · have hnil : p.db = [] := List.eq_nil_of_length_eq_zero (by omega)
          have HR := hide (show ptErr p = 0 by rw [HE3.out, show ptBad4 p = false by unfold ptBad4; rw [hnil]; rfl]; rfl)
          clear hnil
          rcases hsk with hsk | ⟨hsk, hs3⟩
          · have hskN : p.skn = 0 := by omega
            go_wp2
            go_loop [4] (fun s => s = .int .i64 0) (fun _ => 0)
            case atStart => rfl
            case round =>
              obtain rfl := hrel
              go_wp2
              go_ret
              exact ⟨ret_int HR.out.symm, B2.out⟩
          · obtain ⟨e3, e4⟩ := HE34.out hsk
            have hskN : 0 < p.skn := by omega
            go_wp2
            go_loop [4] (fun s => s = .int .i64 0) (fun _ => 0)
            case atStart => rfl
            case round =>
              obtain rfl := hrel
              go_wp2
              go_ret
              exact ⟨ret_int HR.out.symm, B2.out⟩
        · have e2 : (p.every != 2) = false := by rw [hev]; rfl
          have hdbN : 0 < p.dbn := by omega
          rcases hsk with hsk | ⟨hsk, hs3⟩
          · have hskN : p.skn = 0 := by omega
            go_wp2
            have HIn := hide (fun v W (hW : Below w.heap.size w W) => rin_any p.skA p.skn p.skc p.sk v W _ (HS.out.1.below hW))
            clear hdb hsk n12 hev hskN
            go_loopw [4] (fun s wr => ∃ k : Nat, k ≤ p.dbn ∧ s = .int .i64 k ∧ (∀ z ∈ p.db.take k, inL p.sk z = false) ∧ Below w2.heap.size w2 wr) (fun s _ => p.dbn - (intOf s).toNat)
            case atStart => exact ⟨0, Nat.zero_le _, rfl, by simp, Below.refl _ _⟩
            case round =>
              obtain ⟨k, hk, rfl, ha, hb⟩ := hrel
              have HA := hide ha
              have B3 := hide (B2.out.trans (hb.mono B2.out.size))
              have Z3 := hide hb
              have X3 := hide (X2.out.below hb X2.out.lt)
              clear q1 q4 q5
              have q1 := X3.out.cell 1
              have q4 := X3.out.cell 4
              have q5 := X3.out.cell 5
              simp at q1 q4 q5
              clear ha hb
              by_cases hlt : k < p.dbn
              · obtain ⟨b, off, x, hA, hbB, hx, c0⟩ := Is_at (HS.out.2.below B3.out) hlt
                rw [hA] at q5
                have hkz : (k : Int) < (p.dbn : Int) := by omega
                have f4 := Grn.cell q4
                have f5 := Grn.cell q5
                have f0 := Grn.cell c0
                have HI := hide (fun W hW => HIn.out x W hW)
                obtain ⟨q, hq⟩ : ∃ q, inL p.sk x = q := ⟨_, rfl⟩
                rw [hq] at HI
                have HX := hide hx
                have HQ := hide hq
                clear hx hq hA
                cases q with
                | true =>
                  have HR := hide (show ptErr p = 1 by rw [HE3.out, if_pos (show ptBad4 p = true from List.any_eq_true.2 ⟨x, List.mem_of_getElem? HX.out, HQ.out⟩)])
                  go_wp2_with fail
                  refine wp_region_grn (by kernel_rfl) (by kernel_rfl) ?_
                  repeat (go_big_quiet_step ((go_at_call 149; exact Calls_grn_same (HI.out _ (B3.out.trans ((Grn.h _).mono B3.out.size))))))
                  refine wpQuiet_nil ?_
                  rintro _ ⟨q, rfl⟩
                  have B4 := hide (B3.out.trans (q.h.mono B3.out.size))
                  go_wp2
                  go_ret
                  exact ⟨ret_int HR.out.symm, B4.out⟩
                | false =>
                  have HA2 := hide (show ∀ z ∈ p.db.take (k + 1), inL p.sk z = false by
                    intro z hz
                    rw [take_step HX.out] at hz
                    rcases List.mem_append.1 hz with hz | hz
                    · exact HA.out z hz
                    · rw [List.mem_singleton.1 hz]; exact HQ.out)
                  go_wp2_with fail
                  refine wp_region_grn (by kernel_rfl) (by kernel_rfl) ?_
                  repeat (go_big_quiet_step ((go_at_call 149; exact Calls_grn_same (HI.out _ (B3.out.trans ((Grn.h _).mono B3.out.size))))))
                  refine wpQuiet_nil ?_
                  rintro _ ⟨q, rfl⟩
                  have Z4 := hide (Z3.out.trans (q.h.mono Z3.out.size))
                  go_wp2
                  go_roundw
                  case rel => exact ⟨k + 1, by omega, by go_num, HA2.out, Z4.out⟩
                  case measure => simp [intOf]; omega
              · have hkz : ¬ (k : Int) < (p.dbn : Int) := by omega
                have HR := hide (show ptErr p = 0 by
                  rw [HE3.out, if_neg]
                  intro h
                  obtain ⟨z, hz, hz2⟩ := List.any_eq_true.1 h
                  have := HA.out z (by rwa [List.take_of_length_le (by omega)])
                  rw [this] at hz2; cases hz2)
                go_wp2
                go_ret
                exact ⟨ret_int HR.out.symm, B3.out⟩
          · obtain ⟨e3, e4⟩ := HE34.out hsk
            have hskN : 0 < p.skn := by omega
            go_wp2
            have HIn := hide (fun v W (hW : Below w.heap.size w W) => rin_any p.skA p.skn p.skc p.sk v W _ (HS.out.1.below hW))
            clear hdb hsk n12 hev hskN
            go_loopw [4] (fun s wr => ∃ k : Nat, k ≤ p.dbn ∧ s = .int .i64 k ∧ (∀ z ∈ p.db.take k, inL p.sk z = false) ∧ Below w2.heap.size w2 wr) (fun s _ => p.dbn - (intOf s).toNat)
            case atStart => exact ⟨0, Nat.zero_le _, rfl, by simp, Below.refl _ _⟩
            case round =>
              obtain ⟨k, hk, rfl, ha, hb⟩ := hrel
              have HA := hide ha
              have B3 := hide (B2.out.trans (hb.mono B2.out.size))
              have Z3 := hide hb
              have X3 := hide (X2.out.below hb X2.out.lt)
              clear q1 q4 q5
              have q1 := X3.out.cell 1
              have q4 := X3.out.cell 4
              have q5 := X3.out.cell 5
              simp at q1 q4 q5
              clear ha hb
              by_cases hlt : k < p.dbn
              · obtain ⟨b, off, x, hA, hbB, hx, c0⟩ := Is_at (HS.out.2.below B3.out) hlt
                rw [hA] at q5
                have hkz : (k : Int) < (p.dbn : Int) := by omega
                have f4 := Grn.cell q4
                have f5 := Grn.cell q5
                have f0 := Grn.cell c0
                have HI := hide (fun W hW => HIn.out x W hW)
                obtain ⟨q, hq⟩ : ∃ q, inL p.sk x = q := ⟨_, rfl⟩
                rw [hq] at HI
                have HX := hide hx
                have HQ := hide hq
                clear hx hq hA
                cases q with
                | true =>
                  have HR := hide (show ptErr p = 1 by rw [HE3.out, if_pos (show ptBad4 p = true from List.any_eq_true.2 ⟨x, List.mem_of_getElem? HX.out, HQ.out⟩)])
                  go_wp2_with fail
                  refine wp_region_grn (by kernel_rfl) (by kernel_rfl) ?_
                  repeat (go_big_quiet_step ((go_at_call 149; exact Calls_grn_same (HI.out _ (B3.out.trans ((Grn.h _).mono B3.out.size))))))
                  refine wpQuiet_nil ?_
                  rintro _ ⟨q, rfl⟩
                  have B4 := hide (B3.out.trans (q.h.mono B3.out.size))
                  go_wp2
                  go_ret
                  exact ⟨ret_int HR.out.symm, B4.out⟩
                | false =>
                  have HA2 := hide (show ∀ z ∈ p.db.take (k + 1), inL p.sk z = false by
                    intro z hz
                    rw [take_step HX.out] at hz
                    rcases List.mem_append.1 hz with hz | hz
                    · exact HA.out z hz
                    · rw [List.mem_singleton.1 hz]; exact HQ.out)
                  go_wp2_with fail
                  refine wp_region_grn (by kernel_rfl) (by kernel_rfl) ?_
                  repeat (go_big_quiet_step ((go_at_call 149; exact Calls_grn_same (HI.out _ (B3.out.trans ((Grn.h _).mono B3.out.size))))))
                  refine wpQuiet_nil ?_
                  rintro _ ⟨q, rfl⟩
                  have Z4 := hide (Z3.out.trans (q.h.mono Z3.out.size))
                  go_wp2
                  go_roundw
                  case rel => exact ⟨k + 1, by omega, by go_num, HA2.out, Z4.out⟩
                  case measure => simp [intOf]; omega
              · have hkz : ¬ (k : Int) < (p.dbn : Int) := by omega
                have HR := hide (show ptErr p = 0 by
                  rw [HE3.out, if_neg]
                  intro h
                  obtain ⟨z, hz, hz2⟩ := List.any_eq_true.1 h
                  have := HA.out z (by rwa [List.take_of_length_le (by omega)])
                  rw [this] at hz2; cases hz2)
                go_wp2
                go_ret
                exact ⟨ret_int HR.out.symm, B3.out⟩
      · have HR := hide (show ptErr p = 1 by
          rw [HE.out, if_pos]
          cases hq : ptBad3 p with
          | true => rfl
          | false => exact absurd (ptBad3_iff.1 hq) (by omega))
        clear HE
        go_wp2
        all_goals first | (exfalso; omega) | (exfalso; (try simp only [beq_eq_false_iff_ne, bne_eq_false_iff_eq, beq_iff_eq, bne_iff_ne, ne_eq] at *); omega) | (go_ret; exact ⟨ret_int HR.out.symm, B2.out⟩)
    · have HR := hide (show ptErr p = 1 by
        cases hq : ptBad2 p with
        | true => exact pt_err2 H1.out hq
        | false => exact absurd (ptBad2_iff.1 hq) h2)
      unfold ptV
      go_enter Tryz.func115, Tryz.ntmps115
      go_wp2
      all_goals first | (exfalso; omega) | (go_ret; exact ⟨ret_int HR.out.symm, B0.out⟩)
  · have HR := hide (show ptErr p = 2 by
      cases hq : ptBad1 p with
      | true => exact pt_err1 hq
      | false => exact absurd (ptBad1_iff.1 hq) h1)
    unfold ptV
    go_enter Tryz.func115, Tryz.ntmps115
    go_wp2
    all_goals first | (exfalso; omega) | (go_ret; exact ⟨ret_int HR.out.symm, B0.out⟩)
end Go.Proofs.YtbhndfphegflhaaGreat

/- library/api.Serial as plain data; a slice of them; '=='; IndexFunc; Clone. Printed by gen_kit.py. -/
namespace Go.Proofs.YtbhndfphegflhaaGreat
open Go.RowKit

structure Se where
  rcd : Int
  start : Int
  every : Int
  pv : Int
  fv : Int
  skA : Option Addr
  skn : Nat
  skc : Nat
  sk : List Int
  dbA : Option Addr
  dbn : Nat
  dbc : Nat
  db : List Int
  nx : Int
  iuA : Option Addr
  iun : Nat
  iuc : Nat
  iu : List Iu

def seE (x : Se) : List Value := [.int .i64 x.rcd, .int .i64 x.start, .int .i64 x.every, .int .i64 x.pv, .int .i64 x.fv, .slice x.skA x.skn x.skc, .slice x.dbA x.dbn x.dbc, .int .i64 x.nx, .slice x.iuA x.iun x.iuc]
def seV (x : Se) : Value := .agg #[.int .i64 x.rcd, .int .i64 x.start, .int .i64 x.every, .int .i64 x.pv, .int .i64 x.fv, .slice x.skA x.skn x.skc, .slice x.dbA x.dbn x.dbc, .int .i64 x.nx, .slice x.iuA x.iun x.iuc]
abbrev seC (x : Se) : Array Value := #[.int .i64 x.rcd, .int .i64 x.start, .int .i64 x.every, .int .i64 x.pv, .int .i64 x.fv, .slice x.skA x.skn x.skc, .slice x.dbA x.dbn x.dbc, .int .i64 x.nx, .slice x.iuA x.iun x.iuc]
def se0 : Se := ⟨0, 0, 0, 0, 0, none, 0, 0, [], none, 0, 0, [], 0, none, 0, 0, []⟩
theorem seE_len (x : Se) : (seE x).length = 9 := rfl
theorem seE_one (x : Se) : ∀ u ∈ seE x, u.oneCell' = true := by
  intro u hu; simp only [seE, List.mem_cons, List.not_mem_nil, or_false] at hu
  rcases hu with rfl | rfl | rfl | rfl | rfl | rfl | rfl | rfl | rfl <;> rfl
/-- The pattern of a subscription. -/
def sePt (x : Se) : Pt := ⟨x.start, x.every, x.pv, x.fv, x.skA, x.skn, x.skc, x.sk, x.dbA, x.dbn, x.dbc, x.db⟩
/-- The lists of a subscription, as they lie. -/
structure SeS (w : World) (B : Nat) (x : Se) : Prop where
  pt : PtS w B (sePt x)
  iu : Ius w B x.iuA x.iun x.iuc x.iu
theorem SeS.below {w w' : World} {B : Nat} {x : Se} (h : SeS w B x) (hb : Below B w w') : SeS w' B x := ⟨h.pt.below hb, h.iu.below hb⟩
theorem SeS.more {w : World} {B B' : Nat} {x : Se} (h : SeS w B x) (hb : B ≤ B') : SeS w B' x := ⟨h.pt.more hb, h.iu.more hb⟩
structure SeW (x : Se) : Prop where
  rcd : I64 x.rcd
  start : I64 x.start
  every : I64 x.every
  pv : I64 x.pv
  fv : I64 x.fv
  nx : I64 x.nx
abbrev Ses (w : World) (B : Nat) (A : Option Addr) (n c : Nat) (xs : List Se) : Prop := Sl seE 9 w B A n c xs
theorem se_cells {w : World} {b o : Nat} {x : Se} (h : ∀ j u, (seE x)[j]? = some u → w.cell? ⟨b, o + j, none⟩ = some u) :
    w.cell? ⟨b, o, none⟩ = some (.int .i64 x.rcd) ∧ w.cell? ⟨b, o + 1, none⟩ = some (.int .i64 x.start) ∧ w.cell? ⟨b, o + 2, none⟩ = some (.int .i64 x.every) ∧ w.cell? ⟨b, o + 3, none⟩ = some (.int .i64 x.pv) ∧ w.cell? ⟨b, o + 4, none⟩ = some (.int .i64 x.fv) ∧ w.cell? ⟨b, o + 5, none⟩ = some (.slice x.skA x.skn x.skc) ∧ w.cell? ⟨b, o + 6, none⟩ = some (.slice x.dbA x.dbn x.dbc) ∧ w.cell? ⟨b, o + 7, none⟩ = some (.int .i64 x.nx) ∧ w.cell? ⟨b, o + 8, none⟩ = some (.slice x.iuA x.iun x.iuc) :=
  ⟨h 0 _ rfl, h 1 _ rfl, h 2 _ rfl, h 3 _ rfl, h 4 _ rfl, h 5 _ rfl, h 6 _ rfl, h 7 _ rfl, h 8 _ rfl⟩
theorem Ses_at {w : World} {B : Nat} {A : Option Addr} {n c : Nat} {xs : List Se} (h : Ses w B A n c xs) {k : Nat} (hk : k < n) :
    ∃ b off x, A = some ⟨b, off, none⟩ ∧ b < B ∧ xs[k]? = some x ∧
     w.cell? ⟨b, off + k * 9, none⟩ = some (.int .i64 x.rcd) ∧ w.cell? ⟨b, off + k * 9 + 1, none⟩ = some (.int .i64 x.start) ∧ w.cell? ⟨b, off + k * 9 + 2, none⟩ = some (.int .i64 x.every) ∧ w.cell? ⟨b, off + k * 9 + 3, none⟩ = some (.int .i64 x.pv) ∧ w.cell? ⟨b, off + k * 9 + 4, none⟩ = some (.int .i64 x.fv) ∧ w.cell? ⟨b, off + k * 9 + 5, none⟩ = some (.slice x.skA x.skn x.skc) ∧ w.cell? ⟨b, off + k * 9 + 6, none⟩ = some (.slice x.dbA x.dbn x.dbc) ∧ w.cell? ⟨b, off + k * 9 + 7, none⟩ = some (.int .i64 x.nx) ∧ w.cell? ⟨b, off + k * 9 + 8, none⟩ = some (.slice x.iuA x.iun x.iuc) := by
  obtain ⟨b, off, x, hA, hb, hx, hc⟩ := h.at_ hk
  exact ⟨b, off, x, hA, hb, hx, se_cells hc⟩
theorem se_box {w w' : World} {g : Nat} {x : Se} (h : Box w g 76 (seC x)) (hb : Below (g + 1) w w') : Box w' g 76 (seC x) ∧
    (w'.cell? ⟨g, 0, none⟩ = some (.int .i64 x.rcd) ∧ w'.cell? ⟨g, 1, none⟩ = some (.int .i64 x.start) ∧ w'.cell? ⟨g, 2, none⟩ = some (.int .i64 x.every) ∧ w'.cell? ⟨g, 3, none⟩ = some (.int .i64 x.pv) ∧ w'.cell? ⟨g, 4, none⟩ = some (.int .i64 x.fv) ∧ w'.cell? ⟨g, 5, none⟩ = some (.slice x.skA x.skn x.skc) ∧ w'.cell? ⟨g, 6, none⟩ = some (.slice x.dbA x.dbn x.dbc) ∧ w'.cell? ⟨g, 7, none⟩ = some (.int .i64 x.nx) ∧ w'.cell? ⟨g, 8, none⟩ = some (.slice x.iuA x.iun x.iuc)) :=
  have h' := h.below hb (by omega)
  ⟨h', h'.cell 0, h'.cell 1, h'.cell 2, h'.cell 3, h'.cell 4, h'.cell 5, h'.cell 6, h'.cell 7, h'.cell 8⟩
theorem below_se {B : Nat} {a w : World} (h : Below B a w) {b : Nat} (hb : B ≤ b) (u0 u1 u2 u3 u4 u5 u6 u7 u8 : Value) :
    Below B a (((((((((w.setCell ⟨b, 0, none⟩ u0).setCell ⟨b, 1, none⟩ u1).setCell ⟨b, 2, none⟩ u2).setCell ⟨b, 3, none⟩ u3).setCell ⟨b, 4, none⟩ u4).setCell ⟨b, 5, none⟩ u5).setCell ⟨b, 6, none⟩ u6).setCell ⟨b, 7, none⟩ u7).setCell ⟨b, 8, none⟩ u8) :=
  ((((((((h.setCell hb u0).setCell hb u1).setCell hb u2).setCell hb u3).setCell hb u4).setCell hb u5).setCell hb u6).setCell hb u7).setCell hb u8

theorem se_struct : Tryz.prog.underlying 76 = some (.struct (Tryz.prog.fieldsOf 76)) := by kernel_rfl

/-- slices.IndexFunc: whatever predicate that lays only blocks of its own. -/
theorem se_indexFunc (g : Nat) (lb : Array Value) (p : Se → Bool) (eg : ∀ args w, (callFunc g args).run Tryz.prog w = .ok (.enter g args) w)
    (A : Option Addr) (n c : Nat) (xs : List Se) (w : World) (hs : Ses w w.heap.size A n c xs)
    (hp : ∀ W x, x ∈ xs → Below w.heap.size w W → Calls Tryz.prog g (#[seV x] ++ lb) W fun e w' => e = .returned (.bool (p x)) ∧ Below W.heap.size W w') :
    Calls Tryz.prog 96 #[.slice A n c, .func (.func g) #[] lb] w fun e w' => e = .returned (.int .i64 (ix p xs)) ∧ Below w.heap.size w w' := by
  have hle := hs.le
  have hbig := hs.big
  have HP := hide hp
  clear hp
  go_enter Tryz.func96, Tryz.ntmps96
  go_wp2
  go_loopw [5, 8] (fun _ s8 wr => ∃ k : Nat, k ≤ n ∧ s8 = .int .i64 k ∧ Below w.heap.size w wr ∧ ix p xs = idxP p (xs.drop k) k) (fun _ s8 _ => n - (intOf s8).toNat)
  case atStart => exact ⟨0, Nat.zero_le _, rfl, Below.refl _ _, rfl⟩
  case round =>
    obtain ⟨k, hk, rfl, hb, ha⟩ := hrel
    have HA := hide ha
    have HB := hide hb
    clear ha hb
    by_cases hlt : k < n
    · obtain ⟨b, off, x, rfl, hbB, hx, c0, c1, c2, c3, c4, c5, c6, c7, c8⟩ := Ses_at (hs.below HB.out) hlt
      have HX := hide (idxP_step (p := p) hx)
      have hcall := HP.out wr x (List.mem_of_getElem? hx) HB.out
      have HS := hide hs
      clear hx hs
      unfold seV at hcall
      generalize hq : p x = q at hcall
      have HQ := hide hq
      clear hq
      cases q with
      | true =>
        go_wp2_with (go_at_fn g; refine hcall.mono ?_; rintro e w' ⟨rfl, hb'⟩)
        go_ret
        exact ⟨ret_int (by rw [HA.out, HX.out, if_pos HQ.out]), HB.out.trans (hb'.mono HB.out.size)⟩
      | false =>
        go_wp2_with (go_at_fn g; refine hcall.mono ?_; rintro e w' ⟨rfl, hb'⟩)
        go_roundw
        case rel => exact ⟨k + 1, by omega, by go_num, HB.out.trans (hb'.mono HB.out.size), by rw [HA.out, HX.out, if_neg (by rw [HQ.out]; decide)]⟩
        case measure => simp [intOf]; omega
    · go_wp2
      go_ret
      exact ⟨ret_int (by rw [HA.out, idxP_end (by have := hs.len; omega)]), HB.out⟩
theorem se_containsFunc (g : Nat) (lb : Array Value) (p : Se → Bool) (eg : ∀ args w, (callFunc g args).run Tryz.prog w = .ok (.enter g args) w)
    (A : Option Addr) (n c : Nat) (xs : List Se) (w : World) (hs : Ses w w.heap.size A n c xs)
    (hp : ∀ W x, x ∈ xs → Below w.heap.size w W → Calls Tryz.prog g (#[seV x] ++ lb) W fun e w' => e = .returned (.bool (p x)) ∧ Below W.heap.size W w') :
    Calls Tryz.prog 94 #[.slice A n c, .func (.func g) #[] lb] w fun e w' => e = .returned (.bool (decide (0 ≤ ix p xs))) ∧ Below w.heap.size w w' := by
  have HP := hide hp
  have HS := hide hs
  clear hp hs
  go_enter Tryz.func94, Tryz.ntmps94
  go_wp2_with (go_at_call 96; refine (se_indexFunc g lb p eg A n c xs _ HS.out HP.out).mono ?_; rintro e w' ⟨rfl, hb'⟩)
  go_ret
  exact ⟨rfl, hb'⟩

theorem se_info : (Tryz.prog.info? 76).map (fun i => (i.zero, i.size, i.bytes)) = some (some (.agg #[.int .i64 0, .int .i64 0, .int .i64 0, .int .i64 0, .int .i64 0, .slice none 0 0, .slice none 0 0, .int .i64 0, .slice none 0 0]), 9, 120) := by kernel_rfl
/-- A new row that reads as xs (nil where there is none). -/
abbrev Seo (w : World) (B : Nat) (v : Value) (xs : List Se) : Prop := w.ownsRow B 76 9 v xs.length (xs.flatMap seE)
theorem Seo_sl {w : World} {B : Nat} {v : Value} {xs : List Se} (h : Seo w B v xs) (hn : xs.length ≤ 140737488355328) : ∃ A c, v = .slice A xs.length c ∧ Ses w w.heap.size A xs.length c xs := by
  have h' := h
  rcases h.2 with ⟨rfl, h0⟩ | ⟨g, cap, _, rfl, _⟩
  · refine ⟨none, 0, by rw [h0], ?_⟩
    unfold Seo at h'
    rw [h0] at h' ⊢
    exact Sl.of_own seE_len h' h0 (by omega)
  · exact ⟨_, cap, rfl, Sl.of_own seE_len h' rfl hn⟩
theorem se_clone (A : Option Addr) (n c : Nat) (xs : List Se) (w : World) (hs : Ses w w.heap.size A n c xs) (hn : n ≤ 1000) :
    Calls Tryz.prog 99 #[.slice A n c] w fun e w' => ∃ v, e = .returned v ∧ Seo w' w.heap.size v xs ∧ Below w.heap.size w w' := by
  obtain ⟨i0, hi, hz0, hz1, hz2⟩ := info_parts se_info
  have HS := hide hs
  have hnl := hs.nl
  clear hs
  cases A with
  | none =>
    have hx : xs = [] := by
      have h1 := HS.out.len; have h2 := HS.out.nl rfl; have h3 := HS.out.le
      exact List.eq_nil_of_length_eq_zero (by omega)
    subst hx
    clear hnl
    have q22 : ∀ (w : World) (a : Option Addr) (n c n' c' : Nat), (binOp .eql 25 (.slice a n c) (.slice none n' c')).run Tryz.prog w = .ok (.bool a.isNone) w := fun w a n c n' c' => Lib.run_eql_slice_nil w _ _ a n c n' c' Tryz.underlying25
    go_enter Tryz.func99, Tryz.ntmps99
    go_wp2
    go_ret
    exact ⟨_, rfl, World.ownsRow_nil _ _ _ _, Below.refl _ _⟩
  | some ad =>
    clear hnl
    have q22 : ∀ (w : World) (a : Option Addr) (n c n' c' : Nat), (binOp .eql 25 (.slice a n c) (.slice none n' c')).run Tryz.prog w = .ok (.bool a.isNone) w := fun w a n c n' c' => Lib.run_eql_slice_nil w _ _ a n c n' c' Tryz.underlying25
    go_enter Tryz.func99, Tryz.ntmps99
    go_wp2_with (at_builtin; go_must (refine wpList_append_sl _ rfl _ _ 25 rfl w.heap.size 76 i0 _ 120 Tryz.underlying25 hi hz0 hz1 hz2 rfl (by decide) seE_len seE_one _ 0 [] rfl (World.ownsRow_made w #[] 0 (Nat.le_refl _) (Nat.zero_le _) rfl) (some ad) n c rfl (HS.out.alloc (Nat.le_refl _) _) (by unfold maxLen; omega) (by omega) (by simp) ?_))
    intro v' w1 hown hg hat
    go_wp2
    go_ret
    refine ⟨v', rfl, ?_, ((Below.refl _ w).alloc (Nat.le_refl _) _).grown hg (by simp) (by intro k hk; simp [Value.ownBlock] at hk; omega)⟩
    have hl := HS.out.len
    subst hl
    simpa using hown
end Go.Proofs.YtbhndfphegflhaaGreat
