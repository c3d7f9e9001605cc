/- Texts laid together by merge.py: PtA, PtB, PtD, PtF, SeKit. -/
import Derived.Test.YtbhndfphegflhaaGreatMrg4
import Derived.Test.YtbhndfphegflhaaGreatMrg9
import Derived.Test.YtbhndfphegflhaaGreatMrg6
import Derived.BigRegion
import Derived.BigGuardPart
import Derived.Test.YtbhndfphegflhaaGreatMrg3
import Derived.Test.YtbhndfphegflhaaGreatMrg0
import Derived.Test.YtbhndfphegflhaaGreatProg
import Derived.Shelf.Abstract
set_option linter.unusedSimpArgs false
set_option linter.unusedVariables false
/- Walks: in, month, nominal, following of the reference; month, nominal, Contains of the program. -/
namespace Go.Proofs.YtbhndfphegflhaaGreat
open Go.RowKit

def ptV (p : Pt) : Value := .agg #[.int .i64 p.start, .int .i64 p.every, .int .i64 p.pv, .int .i64 p.fv, .slice p.skA p.skn p.skc, .slice p.dbA p.dbn p.dbc]
abbrev ptC (p : Pt) : Array Value := #[.int .i64 p.start, .int .i64 p.every, .int .i64 p.pv, .int .i64 p.fv, .slice p.skA p.skn p.skc, .slice p.dbA p.dbn p.dbc]
/-- The two lists of a pattern, as they lie. -/
def PtS (w : World) (B : Nat) (p : Pt) : Prop := Is w B p.skA p.skn p.skc p.sk ∧ Is w B p.dbA p.dbn p.dbc p.db
theorem PtS.below {w w' : World} {B : Nat} {p : Pt} (h : PtS w B p) (hb : Below B w w') : PtS w' B p := ⟨h.1.below hb, h.2.below hb⟩
theorem PtS.more {w : World} {B B' : Nat} {p : Pt} (h : PtS w B p) (hb : B ≤ B') : PtS w B' p := ⟨h.1.more hb, h.2.more hb⟩
theorem contains_at {xs : List Int} {k : Nat} {v : Int} (h : xs[k]? = some v) : inL xs v = true := by
  have := List.mem_of_getElem? h
  unfold inL
  simpa using this
theorem contains_no {xs : List Int} {v : Int} (h : ∀ y ∈ xs, (y == v) = false) : inL xs v = false := by
  cases hc : inL xs v with
  | false => rfl
  | true =>
    have hm : v ∈ xs := by unfold inL at hc; simpa using hc
    have := h v hm
    simp at this
theorem int_snoc {xs : List Int} {k : Nat} {x v : Int} (h : xs[k]? = some x) (ha : ∀ y ∈ xs.take k, (y == v) = false) (hx : (x == v) = false) : ∀ y ∈ xs.take (k + 1), (y == v) = false := by
  intro y hy
  rw [take_step h] at hy
  rcases List.mem_append.1 hy with hy | hy
  · exact ha y hy
  · rw [List.mem_singleton.1 hy]; exact hx

set_option maxHeartbeats 1000000 in
theorem rin_any (A : Option Addr) (n c : Nat) (xs : List Int) (v : Int) (w : World) (B : Nat) (hs : Is w B A n c xs) :
    Calls Tryz.prog 149 #[.slice A n c, .int .i64 v] w fun e w' => e = .returned (.bool (inL xs v)) ∧ w = w' := by
  obtain rfl := hs.len
  have hbig := hs.big
  have HS := hide hs
  clear hs
  go_enter Tryz.func149, Tryz.ntmps149
  go_wp2
  go_loop [5] (fun i => ∃ k : Nat, k ≤ xs.length ∧ i = .int .i64 k ∧ ∀ y ∈ xs.take k, (y == v) = false) (fun i => xs.length - (intOf i).toNat)
  case atStart => exact ⟨0, Nat.zero_le _, rfl, by simp⟩
  case round =>
    obtain ⟨k, hk, rfl, ha⟩ := hrel
    have HA := hide ha
    clear ha
    by_cases hlt : k < xs.length
    · obtain ⟨b, off, x, rfl, hbB, hx, c0⟩ := Is_at HS.out hlt
      have hkz : (k : Int) < (xs.length : Int) := by omega
      by_cases hq : (x == v) = true
      · have hc : inL xs v = true := contains_at (by rw [hx]; simpa using hq)
        have HC := hide hc
        clear hc hx
        go_wp2
        go_ret
        exact ⟨ret_bool HC.out.symm, rfl⟩
      · have hq' : (x == v) = false := by simpa using hq
        have HA2 := hide (int_snoc hx HA.out hq')
        clear hx HA hq
        go_wp2
        go_round
        case rel => exact ⟨k + 1, by omega, by go_num, HA2.out⟩
        case measure => simp [intOf]; omega
    · have hkz : ¬ (k : Int) < (xs.length : Int) := by omega
      have hc : inL xs v = false := contains_no (by have h := HA.out; rwa [List.take_of_length_le (by omega)] at h)
      have HC := hide hc
      clear hc
      go_wp2
      go_ret
      exact ⟨ret_bool HC.out.symm, rfl⟩
theorem contains_any (A : Option Addr) (n c : Nat) (xs : List Int) (v : Int) (w : World) (B : Nat) (hs : Is w B A n c xs) :
    Calls Tryz.prog 160 #[.slice A n c, .int .i64 v] w fun e w' => e = .returned (.bool (inL xs v)) ∧ w = w' := by
  have HI := hide (index_any A n c xs v w B hs)
  have hix : (inL xs v) = decide (0 ≤ ix (fun y => v == y) xs) := by
    rcases ix_cases (fun y => v == y) xs with ⟨h1, h2⟩ | ⟨i, y, h1, h2, h3, _⟩
    · rw [h1, contains_no (fun y hy => by have := h2 y hy; simp at this ⊢; omega)]; rfl
    · have : v = y := by simpa using h3
      subst this
      rw [h1, contains_at h2]; simp
  rw [hix]
  generalize ix (fun y => v == y) xs = j at HI
  clear hix hs
  go_enter Tryz.func160, Tryz.ntmps160
  go_wp2_with fail
  refine HI.out.mono ?_
  rintro e w1 ⟨rfl, rfl⟩
  go_wp2
  go_ret
  exact ⟨by simp, rfl⟩

theorem rmon_any (day n : Int) (w : World) (h1 : 0 ≤ day) (h2 : day ≤ 109572) (n1 : 0 ≤ n) (n2 : n ≤ 1000000) :
    Calls Tryz.prog 193 #[.int .i64 day, .int .i64 n] w fun e w' => e = .returned (.tuple #[.int .i64 (monF day n).1, .int .i64 (monF day n).2]) ∧ Below w.heap.size w w' := by
  obtain ⟨y, m, d, hp⟩ := parts_exist h1 h2
  rw [monF_of hp]
  exact rmonthsF_any day y m d n w hp h1 h2 n1 n2
theorem pmon_any (day n : Int) (w : World) (h1 : 0 ≤ day) (h2 : day ≤ 109572) (n1 : 0 ≤ n) (n2 : n ≤ 1000000) :
    Calls Tryz.prog 205 #[.int .i64 day, .int .i64 n] w fun e w' => e = .returned (.tuple #[.int .i64 (monF day n).1, .int .i64 (monF day n).2]) ∧ w = w' := by
  obtain ⟨y, m, d, hp⟩ := parts_exist h1 h2
  rw [monF_of hp]
  exact pmonthsF_any day y m d n w hp h1 h2 n1 n2
theorem rmonth_any (day : Int) (w : World) (h1 : 0 ≤ day) (h2 : day ≤ 109572) :
    Calls Tryz.prog 150 #[.int .i64 day] w fun e w' => e = .returned (.int .i64 (mthF day)) ∧ Below w.heap.size w w' := by
  obtain ⟨y, m, d, hp⟩ := parts_exist h1 h2
  rw [mthF_of hp]
  have HP := hide (rparts_any day y m d w hp h1 h2)
  clear hp
  go_enter Tryz.func150, Tryz.ntmps150
  go_wp2_with fail
  refine HP.out.mono ?_
  rintro e w1 ⟨rfl, hb⟩
  go_wp2
  go_ret
  exact ⟨rfl, hb⟩
theorem pmonth_any (day : Int) (w : World) (h1 : 0 ≤ day) (h2 : day ≤ 109572) :
    Calls Tryz.prog 188 #[.int .i64 day] w fun e w' => e = .returned (.int .i64 (mthF day)) ∧ w = w' := by
  obtain ⟨y, m, d, hp⟩ := parts_exist h1 h2
  rw [mthF_of hp]
  have HP := hide (pparts_any day y m d w hp h1 h2)
  clear hp
  go_enter Tryz.func188, Tryz.ntmps188
  go_wp2_with fail
  refine HP.out.mono ?_
  rintro e w1 ⟨rfl, rfl⟩
  go_wp2
  go_ret
  exact ⟨rfl, rfl⟩
theorem stp_cases {p : Pt} (hp : PtM p) (h1 : ¬ p.every = 1) : ((p.every == 3) = true ∧ (p.every == 4) = false ∧ stp p.every = 3) ∨ ((p.every == 3) = false ∧ (p.every == 4) = true ∧ stp p.every = 12) ∨ ((p.every == 3) = false ∧ (p.every == 4) = false ∧ stp p.every = 1) := by
  unfold stp
  by_cases h3 : p.every = 3
  · left; simp [h3]
  · by_cases h4 : p.every = 4
    · right; left; simp [h4]
    · right; right; simp [h3, h4]
set_option maxRecDepth 100000 in
set_option maxHeartbeats 2000000 in
theorem rnom_any (p : Pt) (k : Nat) (w : World) (hp : PtM p) (hk : k ≤ 20000) :
    Calls Tryz.prog 179 #[ptV p, .int .i64 k] w fun e w' => e = .returned (.int .i64 ((nomF p k).getD (-1))) ∧ Below w.heap.size w w' := by
  have B0 := hide ((Below.refl w.heap.size w).alloc (Nat.le_refl _) (.cells (ptC p) 67))
  have hs := hp.start
  have hkz : (k : Int) ≤ 20000 := by omega
  unfold ptV
  by_cases h1 : p.every = 1
  · have hb : (p.every == 1) = true := by simpa using h1
    have hs0 : ¬ p.start < 0 := by omega
    by_cases h2 : p.start + 7 * (k : Int) ≤ 109572
    · have hr : (nomF p k).getD (-1) = p.start + 7 * (k : Int) := by unfold nomF; rw [if_pos h1, if_pos h2]; rfl
      rw [hr]
      have h2' : ¬ 109572 < p.start + 7 * (k : Int) := by omega
      have e1 : IntKind.i64.wrap (p.start + 7 * (k : Int)) = p.start + 7 * (k : Int) := by rw [IntKind.wrap_i64]; omega
      clear hr h1 hp
      go_enter Tryz.func179, Tryz.ntmps179
      go_wp2
      go_ret
      exact ⟨rfl, B0.out⟩
    · have hr : (nomF p k).getD (-1) = -1 := by unfold nomF; rw [if_pos h1, if_neg h2]; rfl
      rw [hr]
      have h2' : 109572 < p.start + 7 * (k : Int) := by omega
      have e1 : IntKind.i64.wrap (p.start + 7 * (k : Int)) = p.start + 7 * (k : Int) := by rw [IntKind.wrap_i64]; omega
      clear hr h1 hp h2
      go_enter Tryz.func179, Tryz.ntmps179
      go_wp2
      go_ret
      exact ⟨rfl, B0.out⟩
  · have hb : (p.every == 1) = false := by simpa using h1
    have hcs := stp_cases hp h1
    have hn1 : 1 ≤ stp p.every ∧ stp p.every ≤ 12 := by unfold stp; split <;> (try split) <;> omega
    have hm := fun n (h0 : 0 ≤ n) (h9 : n ≤ 1000000) W => rmon_any p.start n W hs.1 hs.2 h0 h9
    have hr : (nomF p k).getD (-1) = if (monF p.start (stp p.every * (k : Int))).2 = 0 then (monF p.start (stp p.every * (k : Int))).1 else -1 := by
      unfold nomF; rw [if_neg h1]; split <;> rfl
    rw [hr]
    have HM := hide hm
    clear hr hm h1 hp
    rcases hcs with ⟨h3, h4, h5⟩ | ⟨h3, h4, h5⟩ | ⟨h3, h4, h5⟩
    · rw [h5]
      have hm := fun W => HM.out (3 * (k : Int)) (by omega) (by omega) W
      generalize hgen : 3 * (k : Int) = q at hm
      have HQ := hide hgen
      generalize monF p.start q = r at hm
      have HM2 := hide hm
      have e7 : IntKind.i64.wrap q = q := by rw [IntKind.wrap_i64]; omega
      have e8 : 3 * (k : Int) = q := hgen
      clear hm h5 hn1 hgen
      by_cases he : r.2 = 0
      · have heb : (r.2 != 0) = false := by simpa using he
        rw [if_pos he]
        clear he
        go_enter Tryz.func179, Tryz.ntmps179
        go_wp2_with fail
        refine (HM2.out _).mono ?_
        rintro e w1 ⟨rfl, hb2⟩
        have B1 := hide (B0.out.trans (hb2.mono (by simp)))
        clear hb2
        go_wp2
        go_ret
        exact ⟨rfl, B1.out⟩
      · have heb : (r.2 != 0) = true := by simpa using he
        rw [if_neg he]
        clear he
        go_enter Tryz.func179, Tryz.ntmps179
        go_wp2_with fail
        refine (HM2.out _).mono ?_
        rintro e w1 ⟨rfl, hb2⟩
        have B1 := hide (B0.out.trans (hb2.mono (by simp)))
        clear hb2
        go_wp2
        go_ret
        exact ⟨rfl, B1.out⟩
    · rw [h5]
      have hm := fun W => HM.out (12 * (k : Int)) (by omega) (by omega) W
      generalize hgen : 12 * (k : Int) = q at hm
      have HQ := hide hgen
      generalize monF p.start q = r at hm
      have HM2 := hide hm
      have e7 : IntKind.i64.wrap q = q := by rw [IntKind.wrap_i64]; omega
      have e8 : 12 * (k : Int) = q := hgen
      clear hm h5 hn1 hgen
      by_cases he : r.2 = 0
      · have heb : (r.2 != 0) = false := by simpa using he
        rw [if_pos he]
        clear he
        go_enter Tryz.func179, Tryz.ntmps179
        go_wp2_with fail
        refine (HM2.out _).mono ?_
        rintro e w1 ⟨rfl, hb2⟩
        have B1 := hide (B0.out.trans (hb2.mono (by simp)))
        clear hb2
        go_wp2
        go_ret
        exact ⟨rfl, B1.out⟩
      · have heb : (r.2 != 0) = true := by simpa using he
        rw [if_neg he]
        clear he
        go_enter Tryz.func179, Tryz.ntmps179
        go_wp2_with fail
        refine (HM2.out _).mono ?_
        rintro e w1 ⟨rfl, hb2⟩
        have B1 := hide (B0.out.trans (hb2.mono (by simp)))
        clear hb2
        go_wp2
        go_ret
        exact ⟨rfl, B1.out⟩
    · rw [h5, Int.one_mul]
      have hm := fun W => HM.out (k : Int) (by omega) (by omega) W
      generalize monF p.start (k : Int) = r at hm
      have HM2 := hide hm
      clear hm h5 hn1
      by_cases he : r.2 = 0
      · have heb : (r.2 != 0) = false := by simpa using he
        rw [if_pos he]
        clear he
        go_enter Tryz.func179, Tryz.ntmps179
        go_wp2_with fail
        refine (HM2.out _).mono ?_
        rintro e w1 ⟨rfl, hb2⟩
        have B1 := hide (B0.out.trans (hb2.mono (by simp)))
        clear hb2
        go_wp2
        go_ret
        exact ⟨rfl, B1.out⟩
      · have heb : (r.2 != 0) = true := by simpa using he
        rw [if_neg he]
        clear he
        go_enter Tryz.func179, Tryz.ntmps179
        go_wp2_with fail
        refine (HM2.out _).mono ?_
        rintro e w1 ⟨rfl, hb2⟩
        have B1 := hide (B0.out.trans (hb2.mono (by simp)))
        clear hb2
        go_wp2
        go_ret
        exact ⟨rfl, B1.out⟩
end Go.Proofs.YtbhndfphegflhaaGreat

/- Walks: following of the reference; nominal and next of the program. -/
namespace Go.Proofs.YtbhndfphegflhaaGreat
open Go.RowKit

theorem ret_tup2 {k k' : IntKind} {a b c d : Int} (h1 : a = c) (h2 : b = d) : Ending.returned (.tuple #[.int k a, .int k' b]) = .returned (.tuple #[.int k c, .int k' d]) := by rw [h1, h2]
set_option maxRecDepth 100000 in
set_option maxHeartbeats 4000000 in
theorem rfol_any (p : Pt) (k : Nat) (w : World) (hp : PtM p) (hs : PtS w w.heap.size p) (hk : k ≤ 16001) :
    Calls Tryz.prog 148 #[ptV p, .int .i64 k] w fun e w' => e = .returned (.tuple #[.int .i64 (fol p k).1, .int .i64 ((fol p k).2 : Nat)]) ∧ Below w.heap.size w w' := by
  have B0 := hide ((Below.refl w.heap.size w).alloc (Nat.le_refl _) (.cells (ptC p) 67))
  have Z0 := hide (Below.refl (w.heap.size + 1) (w.alloc (.cells (ptC p) 67)))
  have X0 := hide (Box.new w 67 (ptC p))
  have HN := hide (fun (j : Nat) (hj : j ≤ 20000) W => rnom_any p j W hp hj)
  have HMo := hide (fun d (h1 : 0 ≤ d) (h2 : d ≤ 109572) W => rmonth_any d W h1 h2)
  have HIn := hide (fun v W (hW : Below w.heap.size w W) => rin_any p.skA p.skn p.skc p.sk v W _ (hs.1.below hW))
  have HP := hide hp
  clear hp hs
  unfold ptV at HN ⊢
  go_enter Tryz.func148, Tryz.ntmps148
  go_wp2
  go_loopw [1] (fun s1 wr => ∃ j : Nat, j ≤ 16001 ∧ s1 = .int .i64 j ∧ fol p k = fol p j ∧ Below (w.heap.size + 1) (w.alloc (.cells (ptC p) 67)) wr) (fun s1 _ => 16001 - (intOf s1).toNat)
  case atStart => exact ⟨k, hk, rfl, rfl, Z0.out⟩
  case round =>
    obtain ⟨j, hj, rfl, hf, hb⟩ := hrel
    have HF := hide hf
    have Z1 := hide hb
    have X1 := hide (X0.out.below hb (by omega))
    have q0 := X1.out.cell 0
    have q1 := X1.out.cell 1
    have q2 := X1.out.cell 2
    have q3 := X1.out.cell 3
    have q4 := X1.out.cell 4
    have q5 := X1.out.cell 5
    simp at q0 q1 q2 q3 q4 q5
    have HNj := hide (HN.out j (by omega) wr)
    clear hf hb
    cases hn : nomF p j with
    | none =>
      rw [hn] at HNj
      have HR := hide (fol_none hn)
      have B1 := hide (B0.out.trans (Z1.out.mono (by omega)))
      clear hn
      go_wp2_with fail
      refine HNj.out.mono ?_
      rintro e w1 ⟨rfl, hb⟩
      have B2 := hide (B1.out.trans (hb.mono B1.out.size))
      clear hb
      simp only [Option.getD_none]
      go_wp2
      go_ret2
      exact ⟨ret_tup2 (by rw [HF.out, HR.out]) (by rw [HF.out, HR.out]), B2.out⟩
    | some d =>
      rw [hn] at HNj
      obtain ⟨d1, d2, d3⟩ := nomF_day HP.out hn
      have d0 : ¬ d < 0 := by omega
      have HMd := hide (fun W => HMo.out d d1 d2 W)
      have B1 := hide (B0.out.trans (Z1.out.mono (by omega)))
      have hz1 : w.heap.size + 1 ≤ wr.heap.size := by have := Z1.out.size; simpa using this
      cases hsk : inL p.sk (mthF d) with
      | true =>
        have HR := hide (fol_skip HP.out hn hsk)
        have HI := hide (fun W hW => by have h := HIn.out (mthF d) W hW; rw [hsk] at h; exact h)
        clear hn hsk
        go_wp2_with fail
        refine HNj.out.mono ?_
        rintro e w1 ⟨rfl, hb⟩
        have B2 := hide (B1.out.trans (hb.mono B1.out.size))
        have Z2 := hide (Z1.out.trans (hb.mono hz1))
        have X2 := X1.out.below hb X1.out.lt
        have r4 := X2.cell 4
        simp at r4
        have f4 := Grn.cell r4
        clear hb X2
        simp only [Option.getD_some]
        go_wp2_with fail
        refine wp_region_grn (by kernel_rfl) (by kernel_rfl) ?_
        repeat (go_big_quiet_step (first | (go_at_call 150; exact Calls_grn (HMd.out _)) | (go_at_call 149; exact Calls_grn_same (HI.out _ (B2.out.trans ((Grn.h _).mono B2.out.size))))))
        refine wpQuiet_nil ?_
        rintro _ ⟨q, rfl⟩
        have Z3 := hide (Z2.out.trans (q.h.mono (Nat.le_trans (by simp) Z2.out.size)))
        go_wp2
        go_roundw
        case rel => exact ⟨j + 1, by omega, by go_num, by rw [HF.out, HR.out], Z3.out⟩
        case measure => have e : IntKind.i64.wrap ((j : Int) + 1) = (j : Int) + 1 := (by rw [IntKind.wrap_i64]; omega); simp [intOf, e]; omega
      | false =>
        have HR := hide (fol_hit HP.out hn hsk)
        have HI := hide (fun W hW => by have h := HIn.out (mthF d) W hW; rw [hsk] at h; exact h)
        clear hn hsk
        go_wp2_with fail
        refine HNj.out.mono ?_
        rintro e w1 ⟨rfl, hb⟩
        have B2 := hide (B1.out.trans (hb.mono B1.out.size))
        have X2 := X1.out.below hb X1.out.lt
        have r4 := X2.cell 4
        simp at r4
        have f4 := Grn.cell r4
        clear hb X2
        simp only [Option.getD_some]
        go_wp2_with fail
        refine wp_region_grn (by kernel_rfl) (by kernel_rfl) ?_
        repeat (go_big_quiet_step (first | (go_at_call 150; exact Calls_grn (HMd.out _)) | (go_at_call 149; exact Calls_grn_same (HI.out _ (B2.out.trans ((Grn.h _).mono B2.out.size))))))
        refine wpQuiet_nil ?_
        rintro _ ⟨q, rfl⟩
        have B3 := hide (B2.out.trans (q.h.mono B2.out.size))
        go_wp2
        go_ret2
        exact ⟨ret_tup2 (by rw [HF.out, HR.out]) (by rw [HF.out, HR.out]), B3.out⟩
end Go.Proofs.YtbhndfphegflhaaGreat

/- Walks: months of both; Right of the reference. Printed by gen_pt_d.py. -/
namespace Go.Proofs.YtbhndfphegflhaaGreat
open Go.RowKit

def mbad (m : Int) : Bool := decide (m < 1) || decide (12 < m)
theorem mon_bad {xs : List Int} {k : Nat} {y : Int} (h : xs[k]? = some y) (hb : mbad y = true) : monErr xs = 2 := by
  unfold monErr
  rw [if_pos (show (xs.any fun m => decide (m < 1) || decide (12 < m)) = true from List.any_eq_true.2 ⟨y, List.mem_of_getElem? h, hb⟩)]
theorem mon_any {xs : List Int} (h : ∀ y ∈ xs, mbad y = false) : xs.any (fun m => decide (m < 1) || decide (12 < m)) = false := by
  rw [List.any_eq_false]
  intro y hy hb
  have := h y hy
  unfold mbad at this
  rw [this] at hb; cases hb
theorem mon_7 {xs : List Int} {i : Nat} {a b : Int} (h : ∀ y ∈ xs, mbad y = false) (ha : xs[i]? = some a) (hb : xs[i + 1]? = some b) (hle : b ≤ a) : monErr xs = 7 := by
  unfold monErr
  have hl := (List.getElem?_eq_some_iff.1 hb).1
  rw [mon_any h, if_neg (by simp), if_pos (show ((List.range (xs.length - 1)).any fun i => decide (xs.getD (i + 1) 0 ≤ xs.getD i 0)) = true from List.any_eq_true.2 ⟨i, List.mem_range.2 (by omega), by simp [List.getD_eq_getElem?_getD, ha, hb, hle]⟩)]
theorem mon_0 {xs : List Int} (h : ∀ y ∈ xs, mbad y = false) (hi : ∀ i a b, xs[i]? = some a → xs[i + 1]? = some b → a < b) : monErr xs = 0 := by
  unfold monErr
  rw [mon_any h, if_neg (by simp), if_neg]
  intro hq
  obtain ⟨i, hi1, hi2⟩ := List.any_eq_true.1 hq
  have hi3 := List.mem_range.1 hi1
  obtain ⟨a, ha⟩ : ∃ a, xs[i]? = some a := ⟨_, List.getElem?_eq_getElem (by omega)⟩
  obtain ⟨b, hb⟩ : ∃ b, xs[i + 1]? = some b := ⟨_, List.getElem?_eq_getElem (by omega)⟩
  have := hi i a b ha hb
  simp [List.getD_eq_getElem?_getD, ha, hb] at hi2
  omega
theorem mon_snoc {xs : List Int} {k : Nat} {y : Int} (h : xs[k]? = some y) (ha : ∀ z ∈ xs.take k, mbad z = false) (hb : mbad y = false) : ∀ z ∈ xs.take (k + 1), mbad z = false := by
  intro z hz
  rw [take_step h] at hz
  rcases List.mem_append.1 hz with hz | hz
  · exact ha z hz
  · rw [List.mem_singleton.1 hz]; exact hb

set_option maxRecDepth 100000 in
set_option maxHeartbeats 2000000 in
theorem rmonths36_any (A : Option Addr) (n c : Nat) (xs : List Int) (w : World) (B : Nat) (hs : Is w B A n c xs) (hB : B ≤ w.heap.size) :
    Calls Tryz.prog 164 #[.slice A n c] w fun e w' => e = .returned (.int .i64 (monErr xs)) ∧ Below w.heap.size w w' := by
  obtain rfl := hs.len
  have hbig := hs.big
  have hle := hs.le
  have HS := hide (hs.more hB)
  clear hs
  go_enter Tryz.func164, Tryz.ntmps164
  go_wp2
  go_loop [3] (fun i => ∃ k : Nat, k ≤ xs.length ∧ i = .int .i64 k ∧ ∀ y ∈ xs.take k, mbad y = false) (fun i => xs.length - (intOf i).toNat)
  case atStart => exact ⟨0, Nat.zero_le _, rfl, by simp⟩
  case round =>
    obtain ⟨k, hk, rfl, ha⟩ := hrel
    have HA := hide ha
    clear ha
    by_cases hlt : k < xs.length
    · obtain ⟨b, off, x, rfl, hbB, hx, c0⟩ := Is_at HS.out hlt
      have hkz : (k : Int) < (xs.length : Int) := by omega
      by_cases hq : mbad x = true
      · have HR := hide (mon_bad hx hq)
        have hcs : x < 1 ∨ (¬ x < 1 ∧ 12 < x) := by
          unfold mbad at hq
          rw [Bool.or_eq_true, decide_eq_true_eq, decide_eq_true_eq] at hq
          omega
        clear hq hx
        rcases hcs with h1 | ⟨h1, h2⟩
        all_goals
          go_wp2
          go_ret
          exact ⟨ret_int HR.out.symm, Below.refl _ _⟩
      · have hq' : mbad x = false := by simpa using hq
        have HA2 := hide (mon_snoc hx HA.out hq')
        have h12 : ¬ x < 1 ∧ ¬ 12 < x := by
          unfold mbad at hq'
          rw [Bool.or_eq_false_iff, decide_eq_false_iff_not, decide_eq_false_iff_not] at hq'
          exact hq'
        obtain ⟨h1, h2⟩ := h12
        clear hx HA hq hq'
        go_wp2
        go_round
        case rel => exact ⟨k + 1, by omega, by go_num, HA2.out⟩
        case measure => simp [intOf]; omega
    · have hkz : ¬ (k : Int) < (xs.length : Int) := by omega
      have HOK := hide (show ∀ y ∈ xs, mbad y = false by have h := HA.out; rwa [List.take_of_length_le (by omega)] at h)
      clear HA
      go_wp2
      go_loopw [4] (fun s wr => ∃ i : Nat, s = .int .i64 ((i : Int) + 1) ∧ i ≤ xs.length ∧ (∀ t a b, t < i → xs[t]? = some a → xs[t + 1]? = some b → a < b) ∧ Below w.heap.size w wr) (fun s _ => xs.length + 1 - (intOf s).toNat)
      case atStart => exact ⟨0, rfl, Nat.zero_le _, (fun t a b h => by omega), Below.refl _ _⟩
      case round =>
        obtain ⟨i, rfl, hil, hpr, hb⟩ := hrel
        have HPR := hide hpr
        have HB := hide hb
        clear hpr hb
        by_cases hlt2 : i + 1 < xs.length
        · obtain ⟨b, off, x, hA, hbB, hx, c0⟩ := Is_at (HS.out.below HB.out) (k := i) (by omega)
          subst hA
          obtain ⟨b', off', y, hA', hbB', hy, c1'⟩ := Is_at (HS.out.below HB.out) hlt2
          cases hA'
          have hz1 : ((i : Int) + 1) < (xs.length : Int) := by omega
          have e1 : IntKind.i64.wrap ((i : Int) + 1 - 1) = (i : Int) := by rw [IntKind.wrap_i64]; omega
          have e2 : ((i : Int) + 1).toNat = i + 1 := by omega
          have e7 : ((i : Int) + 1 - 1) = (i : Int) := by omega
          have e3 : (0 : Int) ≤ (i : Int) + 1 := by omega
          have f0 := Grn.cell c0
          have f1 := Grn.cell c1'
          by_cases hq : y ≤ x
          · have HR := hide (mon_7 HOK.out hx hy hq)
            clear hx hy
            go_wp2_with fail
            refine wp_region_grn (by kernel_rfl) (by kernel_rfl) ?_
            repeat (go_big_quiet_step (fail))
            refine wpQuiet_nil ?_
            rintro _ ⟨q, rfl⟩
            have B2 := hide (HB.out.trans (q.h.mono HB.out.size))
            go_wp2
            go_ret
            exact ⟨ret_int HR.out.symm, B2.out⟩
          · have hq' : ¬ y ≤ x := hq
            have HP2 := hide (show ∀ t a b, t < i + 1 → xs[t]? = some a → xs[t + 1]? = some b → a < b by
              intro t a b ht ha hb
              by_cases e : t = i
              · subst e; rw [hx] at ha; rw [hy] at hb; cases ha; cases hb; omega
              · exact HPR.out t a b (by omega) ha hb)
            clear hx hy HPR
            go_wp2_with fail
            refine wp_region_grn (by kernel_rfl) (by kernel_rfl) ?_
            repeat (go_big_quiet_step (fail))
            refine wpQuiet_nil ?_
            rintro _ ⟨q, rfl⟩
            have B2 := hide (HB.out.trans (q.h.mono HB.out.size))
            go_wp2
            go_roundw
            case rel => exact ⟨i + 1, by go_num, by omega, HP2.out, B2.out⟩
            case measure => have e : IntKind.i64.wrap ((i : Int) + 1 + 1) = (i : Int) + 1 + 1 := (by rw [IntKind.wrap_i64]; omega); simp [intOf, e]; omega
        · have hz1 : ¬ ((i : Int) + 1) < (xs.length : Int) := by omega
          have HR := hide (mon_0 HOK.out (fun t a b ha hb => HPR.out t a b (by have := (List.getElem?_eq_some_iff.1 hb).1; omega) ha hb))
          clear HPR
          go_wp2
          go_ret
          exact ⟨ret_int HR.out.symm, HB.out⟩
set_option maxRecDepth 100000 in
set_option maxHeartbeats 2000000 in
theorem pmonths36_any (A : Option Addr) (n c : Nat) (xs : List Int) (w : World) (B : Nat) (hs : Is w B A n c xs) (hB : B ≤ w.heap.size) :
    Calls Tryz.prog 157 #[.slice A n c] w fun e w' => e = .returned (.int .i64 (monErr xs)) ∧ Below w.heap.size w w' := by
  obtain rfl := hs.len
  have hbig := hs.big
  have hle := hs.le
  have HS := hide (hs.more hB)
  clear hs
  go_enter Tryz.func157, Tryz.ntmps157
  go_wp2
  go_loop [8] (fun i => ∃ k : Nat, k ≤ xs.length ∧ i = .int .i64 k ∧ ∀ y ∈ xs.take k, mbad y = false) (fun i => xs.length - (intOf i).toNat)
  case atStart => exact ⟨0, Nat.zero_le _, rfl, by simp⟩
  case round =>
    obtain ⟨k, hk, rfl, ha⟩ := hrel
    have HA := hide ha
    clear ha
    by_cases hlt : k < xs.length
    · obtain ⟨b, off, x, rfl, hbB, hx, c0⟩ := Is_at HS.out hlt
      have hkz : (k : Int) < (xs.length : Int) := by omega
      by_cases hq : mbad x = true
      · have HR := hide (mon_bad hx hq)
        have hcs : x < 1 ∨ (¬ x < 1 ∧ 12 < x) := by
          unfold mbad at hq
          rw [Bool.or_eq_true, decide_eq_true_eq, decide_eq_true_eq] at hq
          omega
        clear hq hx
        rcases hcs with h1 | ⟨h1, h2⟩
        all_goals
          go_wp2
          go_ret
          exact ⟨ret_int HR.out.symm, Below.refl _ _⟩
      · have hq' : mbad x = false := by simpa using hq
        have HA2 := hide (mon_snoc hx HA.out hq')
        have h12 : ¬ x < 1 ∧ ¬ 12 < x := by
          unfold mbad at hq'
          rw [Bool.or_eq_false_iff, decide_eq_false_iff_not, decide_eq_false_iff_not] at hq'
          exact hq'
        obtain ⟨h1, h2⟩ := h12
        clear hx HA hq hq'
        go_wp2
        go_round
        case rel => exact ⟨k + 1, by omega, by go_num, HA2.out⟩
        case measure => simp [intOf]; omega
    · have hkz : ¬ (k : Int) < (xs.length : Int) := by omega
      have HOK := hide (show ∀ y ∈ xs, mbad y = false by have h := HA.out; rwa [List.take_of_length_le (by omega)] at h)
      clear HA
      go_wp2
      go_loopw [5] (fun s wr => ∃ i : Nat, s = .int .i64 ((i : Int) + 1) ∧ i ≤ xs.length ∧ (∀ t a b, t < i → xs[t]? = some a → xs[t + 1]? = some b → a < b) ∧ Below w.heap.size w wr) (fun s _ => xs.length + 1 - (intOf s).toNat)
      case atStart => exact ⟨0, rfl, Nat.zero_le _, (fun t a b h => by omega), Below.refl _ _⟩
      case round =>
        obtain ⟨i, rfl, hil, hpr, hb⟩ := hrel
        have HPR := hide hpr
        have HB := hide hb
        clear hpr hb
        by_cases hlt2 : i + 1 < xs.length
        · obtain ⟨b, off, x, hA, hbB, hx, c0⟩ := Is_at (HS.out.below HB.out) (k := i) (by omega)
          subst hA
          obtain ⟨b', off', y, hA', hbB', hy, c1'⟩ := Is_at (HS.out.below HB.out) hlt2
          cases hA'
          have hz1 : ((i : Int) + 1) < (xs.length : Int) := by omega
          have e1 : IntKind.i64.wrap ((i : Int) + 1 - 1) = (i : Int) := by rw [IntKind.wrap_i64]; omega
          have e2 : ((i : Int) + 1).toNat = i + 1 := by omega
          have e7 : ((i : Int) + 1 - 1) = (i : Int) := by omega
          have e3 : (0 : Int) ≤ (i : Int) + 1 := by omega
          have f0 := Grn.cell c0
          have f1 := Grn.cell c1'
          by_cases hq : y ≤ x
          · have HR := hide (mon_7 HOK.out hx hy hq)
            clear hx hy
            go_wp2_with fail
            refine wp_region_grn (by kernel_rfl) (by kernel_rfl) ?_
            repeat (go_big_quiet_step (fail))
            refine wpQuiet_nil ?_
            rintro _ ⟨q, rfl⟩
            have B2 := hide (HB.out.trans (q.h.mono HB.out.size))
            go_wp2
            go_ret
            exact ⟨ret_int HR.out.symm, B2.out⟩
          · have hq' : ¬ y ≤ x := hq
            have HP2 := hide (show ∀ t a b, t < i + 1 → xs[t]? = some a → xs[t + 1]? = some b → a < b by
              intro t a b ht ha hb
              by_cases e : t = i
              · subst e; rw [hx] at ha; rw [hy] at hb; cases ha; cases hb; omega
              · exact HPR.out t a b (by omega) ha hb)
            clear hx hy HPR
            go_wp2_with fail
            refine wp_region_grn (by kernel_rfl) (by kernel_rfl) ?_
            repeat (go_big_quiet_step (fail))
            refine wpQuiet_nil ?_
            rintro _ ⟨q, rfl⟩
            have B2 := hide (HB.out.trans (q.h.mono HB.out.size))
            go_wp2
            go_roundw
            case rel => exact ⟨i + 1, by go_num, by omega, HP2.out, B2.out⟩
            case measure => have e : IntKind.i64.wrap ((i : Int) + 1 + 1) = (i : Int) + 1 + 1 := (by rw [IntKind.wrap_i64]; omega); simp [intOf, e]; omega
        · have hz1 : ¬ ((i : Int) + 1) < (xs.length : Int) := by omega
          have HR := hide (mon_0 HOK.out (fun t a b ha hb => HPR.out t a b (by have := (List.getElem?_eq_some_iff.1 hb).1; omega) ha hb))
          clear HPR
          go_wp2
          go_ret
          exact ⟨ret_int HR.out.symm, HB.out⟩
end Go.Proofs.YtbhndfphegflhaaGreat

/- Walks: nominal and next of the program. Printed by gen_pt_f.py. -/
namespace Go.Proofs.YtbhndfphegflhaaGreat
open Go.RowKit

/-- What nominal hands back. -/
def NomR (p : Pt) (k : Nat) (d : Int) (ok : Bool) : Prop := (ok = true → nomF p k = some d) ∧ (ok = false → nomF p k = none)
def NomE (p : Pt) (k : Nat) (w : World) (e : Ending) (w' : World) : Prop := ∃ d ok, e = .returned (.tuple #[.int .i64 d, .bool ok]) ∧ NomR p k d ok ∧ Below w.heap.size w w'
set_option maxRecDepth 100000 in
set_option maxHeartbeats 2000000 in
theorem pnom_any (p : Pt) (k : Nat) (w : World) (hp : PtM p) (hk : k ≤ 20000) :
    Calls Tryz.prog 199 #[ptV p, .int .i64 k] w (NomE p k w) := by
  have B0 := hide ((Below.refl w.heap.size w).alloc (Nat.le_refl _) (.cells (ptC p) 67))
  have hs := hp.start
  have hkz : (k : Int) ≤ 20000 := by omega
  unfold ptV
  by_cases h1 : p.every = 1
  · have hb : (p.every == 1) = true := by simpa using h1
    have e1 : IntKind.i64.wrap (p.start + 7 * (k : Int)) = p.start + 7 * (k : Int) := by rw [IntKind.wrap_i64]; omega
    have e2 : (0 : Int) ≤ p.start + 7 * (k : Int) := by omega
    by_cases h2 : p.start + 7 * (k : Int) ≤ 109572
    · have HR := hide (show NomR p k (p.start + 7 * (k : Int)) true from ⟨fun _ => by unfold nomF; rw [if_pos h1, if_pos h2], fun h => by cases h⟩)
      have e4 : IntKind.i64.wrap (7 * (k : Int)) = 7 * (k : Int) := by rw [IntKind.wrap_i64]; omega
      clear h1 hp
      go_enter Tryz.func199, Tryz.ntmps199
      go_wp2
      go_ret2
      exact ⟨p.start + 7 * (k : Int), true, rfl, HR.out, B0.out⟩
    · have HR := hide (show NomR p k (p.start + 7 * (k : Int)) false from ⟨fun h => (by cases h), fun _ => by unfold nomF; rw [if_pos h1, if_neg h2]⟩)
      have e4 : IntKind.i64.wrap (7 * (k : Int)) = 7 * (k : Int) := by rw [IntKind.wrap_i64]; omega
      clear h1 hp
      go_enter Tryz.func199, Tryz.ntmps199
      go_wp2
      go_ret2
      exact ⟨p.start + 7 * (k : Int), false, rfl, HR.out, B0.out⟩
  · have hb : (p.every == 1) = false := by simpa using h1
    have hcs := stp_cases hp h1
    have hm := fun n (h0 : 0 ≤ n) (h9 : n ≤ 1000000) W => pmon_any p.start n W hs.1 hs.2 h0 h9
    have hr : NomR p k (monF p.start (stp p.every * (k : Int))).1 ((monF p.start (stp p.every * (k : Int))).2 == 0) := by
      unfold NomR nomF
      rw [if_neg h1]
      by_cases h : (monF p.start (stp p.every * (k : Int))).2 = 0
      · rw [if_pos h, h]; exact ⟨fun _ => rfl, fun h => by cases h⟩
      · rw [if_neg h]
        have h' : ((monF p.start (stp p.every * (k : Int))).2 == 0) = false := by simpa using h
        rw [h']; exact ⟨fun h => (by cases h), fun _ => rfl⟩
    have HM := hide hm
    clear hm h1 hp
    rcases hcs with ⟨h3, h4, h5⟩ | ⟨h3, h4, h5⟩ | ⟨h3, h4, h5⟩
    · rw [h5] at hr
      have hm := fun W => HM.out (3 * (k : Int)) (by omega) (by omega) W
      generalize hgen : 3 * (k : Int) = q at hm hr
      generalize monF p.start q = r at hm hr
      obtain ⟨rd, re⟩ := r
      have HM2 := hide hm
      have HR := hide hr
      have e7 : IntKind.i64.wrap q = q := by rw [IntKind.wrap_i64]; omega
      have e8 : 3 * (k : Int) = q := hgen
      skip
      clear hm hr h5 hgen HM
      go_enter Tryz.func199, Tryz.ntmps199
      go_wp2_with fail
      refine (HM2.out _).mono ?_
      rintro e w1 ⟨rfl, rfl⟩
      go_wp2
      go_ret2
      exact ⟨_, _, rfl, HR.out, B0.out⟩
    · rw [h5] at hr
      have hm := fun W => HM.out (12 * (k : Int)) (by omega) (by omega) W
      generalize hgen : 12 * (k : Int) = q at hm hr
      generalize monF p.start q = r at hm hr
      obtain ⟨rd, re⟩ := r
      have HM2 := hide hm
      have HR := hide hr
      have e7 : IntKind.i64.wrap q = q := by rw [IntKind.wrap_i64]; omega
      have e8 : 12 * (k : Int) = q := hgen
      skip
      clear hm hr h5 hgen HM
      go_enter Tryz.func199, Tryz.ntmps199
      go_wp2_with fail
      refine (HM2.out _).mono ?_
      rintro e w1 ⟨rfl, rfl⟩
      go_wp2
      go_ret2
      exact ⟨_, _, rfl, HR.out, B0.out⟩
    · rw [h5] at hr
      have hm := fun W => HM.out (1 * (k : Int)) (by omega) (by omega) W
      generalize hgen : 1 * (k : Int) = q at hm hr
      generalize monF p.start q = r at hm hr
      obtain ⟨rd, re⟩ := r
      have HM2 := hide hm
      have HR := hide hr
      have e7 : IntKind.i64.wrap q = q := by rw [IntKind.wrap_i64]; omega
      have e8 : 1 * (k : Int) = q := hgen
      have e9 : (k : Int) = q := by omega
      clear hm hr h5 hgen HM
      go_enter Tryz.func199, Tryz.ntmps199
      go_wp2_with fail
      refine (HM2.out _).mono ?_
      rintro e w1 ⟨rfl, rfl⟩
      go_wp2
      go_ret2
      exact ⟨_, _, rfl, HR.out, B0.out⟩

/-- What next hands back: the day, the number behind it, whether there is one. -/
def NxtR (p : Pt) (k : Nat) (d : Int) (j : Nat) (ok : Bool) : Prop := if ok = true then 0 ≤ (fol p k).1 ∧ d = (fol p k).1 ∧ j = (fol p k).2 + 1 else (fol p k).1 = -1 ∧ d = 0 ∧ j = (fol p k).2
def NxtE (p : Pt) (k : Nat) (w : World) (e : Ending) (w' : World) : Prop := ∃ d j ok, e = .returned (.tuple #[.int .i64 d, .int .i64 (j : Nat), .bool ok]) ∧ NxtR p k d j ok ∧ Below w.heap.size w w'
theorem fol_neg {p : Pt} {k : Nat} (h : nomF p k = none) : (fol p k).1 = -1 ∧ (fol p k).2 = k := by rw [fol_none h]; exact ⟨rfl, rfl⟩
set_option maxRecDepth 100000 in
set_option maxHeartbeats 4000000 in
theorem pnext_any (p : Pt) (k : Nat) (w : World) (hp : PtM p) (hs : PtS w w.heap.size p) (hk : k ≤ 16001) :
    Calls Tryz.prog 187 #[ptV p, .int .i64 k] w (NxtE p k w) := by
  have B0 := hide ((Below.refl w.heap.size w).alloc (Nat.le_refl _) (.cells (ptC p) 67))
  have Z0 := hide (Below.refl (w.heap.size + 1) (w.alloc (.cells (ptC p) 67)))
  have X0 := hide (Box.new w 67 (ptC p))
  have HN := hide (fun (j : Nat) (hj : j ≤ 20000) W => pnom_any p j W hp hj)
  have HMo := hide (fun d (h1 : 0 ≤ d) (h2 : d ≤ 109572) W => pmonth_any d W h1 h2)
  have HIn := hide (fun v W (hW : Below w.heap.size w W) => contains_any p.skA p.skn p.skc p.sk v W _ (hs.1.below hW))
  have HP := hide hp
  have hsl := hs.1.len
  have hsb := hs.1.big
  have HSL := hide hsl
  clear hp hs hsl
  unfold ptV at HN ⊢
  go_enter Tryz.func187, Tryz.ntmps187
  go_wp2
  go_loopw [7] (fun s7 wr => ∃ j : Nat, j ≤ 16001 ∧ s7 = .int .i64 j ∧ fol p k = fol p j ∧ Below (w.heap.size + 1) (w.alloc (.cells (ptC p) 67)) wr) (fun s7 _ => 16001 - (intOf s7).toNat)
  case atStart => exact ⟨k, hk, rfl, rfl, Z0.out⟩
  case round =>
    obtain ⟨j, hj, rfl, hf, hb⟩ := hrel
    have HF := hide hf
    have Z1 := hide hb
    have X1 := hide (X0.out.below hb (by omega))
    have q0 := X1.out.cell 0
    have q1 := X1.out.cell 1
    have q2 := X1.out.cell 2
    have q3 := X1.out.cell 3
    have q4 := X1.out.cell 4
    have q5 := X1.out.cell 5
    simp at q0 q1 q2 q3 q4 q5
    have HNj := hide (HN.out j (by omega) wr)
    have B1 := hide (B0.out.trans (Z1.out.mono (by omega)))
    have hz1 : w.heap.size + 1 ≤ wr.heap.size := by have := Z1.out.size; simpa using this
    clear hf hb
    go_wp2_with fail
    refine HNj.out.mono ?_
    rintro e w1 ⟨d, ok, rfl, hr, hb⟩
    have B2 := hide (B1.out.trans (hb.mono B1.out.size))
    have Z2 := hide (Z1.out.trans (hb.mono hz1))
    have X2 := hide (X1.out.below hb X1.out.lt)
    have HR := hide hr
    clear hb hr q0 q1 q2 q3 q4 q5 HNj
    cases ok with
    | false =>
      have HE := hide (fol_neg (HR.out.2 rfl))
      go_wp2
      refine bodyPost_ret (v := .tuple #[.int .i64 0, .int .i64 j, .bool false]) (by simp [results, Tryz.results187, go_sem]) rfl ?_
      exact ⟨0, j, false, rfl, by unfold NxtR; rw [if_neg (by simp), HF.out]; exact ⟨HE.out.1, rfl, HE.out.2.symm⟩, B2.out⟩
    | true =>
      have hn := HR.out.1 rfl
      obtain ⟨d1, d2, d3⟩ := nomF_day HP.out hn
      have HMd := hide (fun W => HMo.out d d1 d2 W)
      have HI := hide (fun W hW => HIn.out (mthF d) W hW)
      obtain ⟨qb, hqb⟩ : ∃ qb, inL p.sk (mthF d) = qb := ⟨_, rfl⟩
      rw [hqb] at HI
      have HQ := hide hqb
      have HN1 := hide hn
      have HD := hide (And.intro d1 d2)
      have r4 := X2.out.cell 4
      simp at r4
      have f4 := Grn.cell r4
      clear hn hqb r4 HR
      have HIT := hide (fun (h : qb = false) => fol_hit HP.out HN1.out (by rw [HQ.out, h]))
      have HSK := hide (fun (h : qb = true) => fol_skip HP.out HN1.out (by rw [HQ.out, h]))
      by_cases hsn : p.skn = 0
      · have hsz : ((p.skn : Int) == 0) = true := by rw [hsn]; rfl
        have hsf : qb = false := by
          rw [← HQ.out, List.eq_nil_of_length_eq_zero (show p.sk.length = 0 by have := HSL.out; omega)]; rfl
        have HH := hide (HIT.out hsf)
        clear hsn hsf
        go_wp2_with fail
        refine wp_region_grn (by kernel_rfl) (by kernel_rfl) ?_
        repeat (go_big_quiet_step (first | (go_at_call 188; exact Calls_grn_same (HMd.out _)) | (go_at_call 160; exact Calls_grn_same (HI.out _ (B2.out.trans ((Grn.h _).mono B2.out.size))))))
        refine wpQuiet_nil ?_
        rintro _ ⟨q, rfl⟩
        have B3 := hide (B2.out.trans (q.h.mono B2.out.size))
        have e1 : IntKind.i64.wrap ((j : Int) + 1) = ((j + 1 : Nat) : Int) := by rw [IntKind.wrap_i64]; omega
        go_wp2
        refine bodyPost_ret (v := .tuple #[.int .i64 d, .int .i64 ((j + 1 : Nat) : Int), .bool true]) (by simp [results, Tryz.results187, go_sem]) rfl ?_
        exact ⟨d, j + 1, true, rfl, by unfold NxtR; rw [if_pos rfl, HF.out, HH.out]; exact ⟨HD.out.1, rfl, rfl⟩, B3.out⟩
      · have hsz : ((p.skn : Int) == 0) = false := by simpa using hsn
        cases qb with
        | false =>
          have HH := hide (HIT.out rfl)
          clear hsn
          go_wp2_with fail
          refine wp_region_grn (by kernel_rfl) (by kernel_rfl) ?_
          repeat (go_big_quiet_step (first | (go_at_call 188; exact Calls_grn_same (HMd.out _)) | (go_at_call 160; exact Calls_grn_same (HI.out _ (B2.out.trans ((Grn.h _).mono B2.out.size))))))
          refine wpQuiet_nil ?_
          rintro _ ⟨q, rfl⟩
          have B3 := hide (B2.out.trans (q.h.mono B2.out.size))
          have e1 : IntKind.i64.wrap ((j : Int) + 1) = ((j + 1 : Nat) : Int) := by rw [IntKind.wrap_i64]; omega
          go_wp2
          refine bodyPost_ret (v := .tuple #[.int .i64 d, .int .i64 ((j + 1 : Nat) : Int), .bool true]) (by simp [results, Tryz.results187, go_sem]) rfl ?_
          exact ⟨d, j + 1, true, rfl, by unfold NxtR; rw [if_pos rfl, HF.out, HH.out]; exact ⟨HD.out.1, rfl, rfl⟩, B3.out⟩
        | true =>
          have HH := hide (HSK.out rfl)
          clear hsn
          go_wp2_with fail
          refine wp_region_grn (by kernel_rfl) (by kernel_rfl) ?_
          repeat (go_big_quiet_step (first | (go_at_call 188; exact Calls_grn_same (HMd.out _)) | (go_at_call 160; exact Calls_grn_same (HI.out _ (B2.out.trans ((Grn.h _).mono B2.out.size))))))
          refine wpQuiet_nil ?_
          rintro _ ⟨q, rfl⟩
          have Z3 := hide (Z2.out.trans (q.h.mono (Nat.le_trans (by simp) Z2.out.size)))
          go_wp2
          go_roundw
          case rel => exact ⟨j + 1, by omega, by go_num, by rw [HF.out, HH.out], Z3.out⟩
          case measure => have e : IntKind.i64.wrap ((j : Int) + 1) = (j : Int) + 1 := (by rw [IntKind.wrap_i64]; omega); simp [intOf, e]; omega
end Go.Proofs.YtbhndfphegflhaaGreat

/- library/api.Serial as plain data; a slice of them; '=='; IndexFunc; Clone. Printed by gen_kit.py. -/
namespace Go.Proofs.YtbhndfphegflhaaGreat
open Go.RowKit

structure Se where
  rcd : Int
  start : Int
  every : Int
  pv : Int
  fv : Int
  skA : Option Addr
  skn : Nat
  skc : Nat
  sk : List Int
  dbA : Option Addr
  dbn : Nat
  dbc : Nat
  db : List Int
  nx : Int
  iuA : Option Addr
  iun : Nat
  iuc : Nat
  iu : List Iu

def seE (x : Se) : List Value := [.int .i64 x.rcd, .int .i64 x.start, .int .i64 x.every, .int .i64 x.pv, .int .i64 x.fv, .slice x.skA x.skn x.skc, .slice x.dbA x.dbn x.dbc, .int .i64 x.nx, .slice x.iuA x.iun x.iuc]
def seV (x : Se) : Value := .agg #[.int .i64 x.rcd, .int .i64 x.start, .int .i64 x.every, .int .i64 x.pv, .int .i64 x.fv, .slice x.skA x.skn x.skc, .slice x.dbA x.dbn x.dbc, .int .i64 x.nx, .slice x.iuA x.iun x.iuc]
abbrev seC (x : Se) : Array Value := #[.int .i64 x.rcd, .int .i64 x.start, .int .i64 x.every, .int .i64 x.pv, .int .i64 x.fv, .slice x.skA x.skn x.skc, .slice x.dbA x.dbn x.dbc, .int .i64 x.nx, .slice x.iuA x.iun x.iuc]
theorem seE_len (x : Se) : (seE x).length = 9 := rfl
/-- The pattern of a subscription. -/
def sePt (x : Se) : Pt := ⟨x.start, x.every, x.pv, x.fv, x.skA, x.skn, x.skc, x.sk, x.dbA, x.dbn, x.dbc, x.db⟩
/-- The lists of a subscription, as they lie. -/
structure SeS (w : World) (B : Nat) (x : Se) : Prop where
  pt : PtS w B (sePt x)
  iu : Ius w B x.iuA x.iun x.iuc x.iu
theorem SeS.below {w w' : World} {B : Nat} {x : Se} (h : SeS w B x) (hb : Below B w w') : SeS w' B x := ⟨h.pt.below hb, h.iu.below hb⟩
theorem SeS.more {w : World} {B B' : Nat} {x : Se} (h : SeS w B x) (hb : B ≤ B') : SeS w B' x := ⟨h.pt.more hb, h.iu.more hb⟩
structure SeW (x : Se) : Prop where
  rcd : I64 x.rcd
  start : I64 x.start
  every : I64 x.every
  pv : I64 x.pv
  fv : I64 x.fv
  nx : I64 x.nx
abbrev Ses (w : World) (B : Nat) (A : Option Addr) (n c : Nat) (xs : List Se) : Prop := Sl seE 9 w B A n c xs
theorem se_cells {w : World} {b o : Nat} {x : Se} (h : ∀ j u, (seE x)[j]? = some u → w.cell? ⟨b, o + j, none⟩ = some u) :
    w.cell? ⟨b, o, none⟩ = some (.int .i64 x.rcd) ∧ w.cell? ⟨b, o + 1, none⟩ = some (.int .i64 x.start) ∧ w.cell? ⟨b, o + 2, none⟩ = some (.int .i64 x.every) ∧ w.cell? ⟨b, o + 3, none⟩ = some (.int .i64 x.pv) ∧ w.cell? ⟨b, o + 4, none⟩ = some (.int .i64 x.fv) ∧ w.cell? ⟨b, o + 5, none⟩ = some (.slice x.skA x.skn x.skc) ∧ w.cell? ⟨b, o + 6, none⟩ = some (.slice x.dbA x.dbn x.dbc) ∧ w.cell? ⟨b, o + 7, none⟩ = some (.int .i64 x.nx) ∧ w.cell? ⟨b, o + 8, none⟩ = some (.slice x.iuA x.iun x.iuc) :=
  ⟨h 0 _ rfl, h 1 _ rfl, h 2 _ rfl, h 3 _ rfl, h 4 _ rfl, h 5 _ rfl, h 6 _ rfl, h 7 _ rfl, h 8 _ rfl⟩
theorem Ses_at {w : World} {B : Nat} {A : Option Addr} {n c : Nat} {xs : List Se} (h : Ses w B A n c xs) {k : Nat} (hk : k < n) :
    ∃ b off x, A = some ⟨b, off, none⟩ ∧ b < B ∧ xs[k]? = some x ∧
     w.cell? ⟨b, off + k * 9, none⟩ = some (.int .i64 x.rcd) ∧ w.cell? ⟨b, off + k * 9 + 1, none⟩ = some (.int .i64 x.start) ∧ w.cell? ⟨b, off + k * 9 + 2, none⟩ = some (.int .i64 x.every) ∧ w.cell? ⟨b, off + k * 9 + 3, none⟩ = some (.int .i64 x.pv) ∧ w.cell? ⟨b, off + k * 9 + 4, none⟩ = some (.int .i64 x.fv) ∧ w.cell? ⟨b, off + k * 9 + 5, none⟩ = some (.slice x.skA x.skn x.skc) ∧ w.cell? ⟨b, off + k * 9 + 6, none⟩ = some (.slice x.dbA x.dbn x.dbc) ∧ w.cell? ⟨b, off + k * 9 + 7, none⟩ = some (.int .i64 x.nx) ∧ w.cell? ⟨b, off + k * 9 + 8, none⟩ = some (.slice x.iuA x.iun x.iuc) := by
  obtain ⟨b, off, x, hA, hb, hx, hc⟩ := h.at_ hk
  exact ⟨b, off, x, hA, hb, hx, se_cells hc⟩
theorem se_struct : Tryz.prog.underlying 76 = some (.struct (Tryz.prog.fieldsOf 76)) := by kernel_rfl

end Go.Proofs.YtbhndfphegflhaaGreat
