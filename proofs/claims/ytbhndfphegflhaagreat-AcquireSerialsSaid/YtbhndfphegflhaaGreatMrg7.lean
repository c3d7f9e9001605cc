/- Texts laid together by merge.py: ShD, ShE, Step, OdH, OdR. -/
import Derived.Test.YtbhndfphegflhaaGreatMrg6
import Derived.Test.YtbhndfphegflhaaGreatMrg3
import Derived.Deep.RegionLaw
import Derived.Test.YtbhndfphegflhaaGreatMrg5
set_option linter.unusedSimpArgs false
set_option linter.unusedVariables false
/- Walks: the reference's Share of valid weights. -/
namespace Go.Proofs.YtbhndfphegflhaaGreat
open Go.RowKit

theorem wsV_bd {t : Int} {ws : List Int} (h : WsV t ws) {k : Nat} {x : Int} (hx : ws[k]? = some x) : (1 ≤ x ∧ x ≤ 1000) ∧ 0 ≤ t * x ∧ t * x ≤ 100000000000 := by
  have h1 := h.w x (List.mem_of_getElem? hx)
  obtain ⟨a, b, _⟩ := base1_bd (t := t) (S := 1) ⟨h.t0, h.t1⟩ (by omega) h1
  exact ⟨h1, a, b⟩
theorem sumT_bd {t : Int} {ws : List Int} (h : WsV t ws) (k : Nat) : 0 ≤ (ws.take k).sum ∧ (ws.take k).sum ≤ 16000 := by
  have := sum_take_bd h.w k
  have := h.n1
  omega
theorem baseT_bd {t : Int} {ws : List Int} (h : WsV t ws) (k : Nat) : 0 ≤ (baseF t ws.sum (ws.take k)).sum ∧ (baseF t ws.sum (ws.take k)).sum ≤ 1600000000000 := by
  obtain ⟨s1, s2⟩ := h.S
  obtain ⟨_, h2, h3⟩ := baseF_bd (t := t) (S := ws.sum) ⟨h.t0, h.t1⟩ s1 (ws := ws.take k) (fun y hy => h.w y (List.mem_of_mem_take hy))
  have : (ws.take k).length ≤ 16 := by have := h.n1; rw [List.length_take]; omega
  omega
theorem remsF_snoc {t S : Int} {ws : List Int} {k : Nat} {x : Int} (h : ws[k]? = some x) : remsF t S (ws.take (k + 1)) = remsF t S (ws.take k) ++ [t * x % S] := by
  unfold remsF; rw [take_step h, List.map_append]; rfl
theorem remsF_len (t S : Int) (ws : List Int) : (remsF t S ws).length = ws.length := by simp [remsF]

/-- A row of ints of the call's own, as a block. -/
theorem Ino_cell {w : World} {B g cap n : Nat} {xs : List Int} (h : w.ownsRow B 3 1 (.slice (some ⟨g, 0, none⟩) n cap) n (xs.flatMap inE)) (hl : xs.length = n) {i : Nat} {x : Int} (hx : xs[i]? = some x) : w.cell? ⟨g, i, none⟩ = some (.int .i64 x) := by
  have := own_cell inE_len h hl hx 0 _ rfl
  simpa using this
theorem Ino_set {w : World} {B g cap n : Nat} {xs : List Int} (h : w.ownsRow B 3 1 (.slice (some ⟨g, 0, none⟩) n cap) n (xs.flatMap inE)) {i : Nat} {x : Int} (hx : xs[i]? = some x) (y : Int) :
    (w.setCell ⟨g, i, none⟩ (.int .i64 y)).ownsRow B 3 1 (.slice (some ⟨g, 0, none⟩) n cap) n ((xs.set i y).flatMap inE) := by
  have := own_set (enc := inE) (k := 1) inE_len h (i := i) (j := 0) (x := x) (y := y) (u := .int .i64 y) hx (by omega) rfl
  simpa using this
theorem Ino_frz {w : World} {B g cap n : Nat} {ys : List Value} (h : w.ownsRow B 3 1 (.slice (some ⟨g, 0, none⟩) n cap) n ys) (i : Nat) : w.frozen? ⟨g, i, none⟩ = false := by
  rcases own_box h with ⟨h0, _⟩ | ⟨g', cap', cur, h0, _, hB, _⟩
  · cases h0
  · cases h0; exact hB.frz i
theorem Ino_lt {w : World} {B g cap n : Nat} {ys : List Value} (h : w.ownsRow B 3 1 (.slice (some ⟨g, 0, none⟩) n cap) n ys) : B ≤ g ∧ g < w.heap.size := h.lt g rfl
theorem Ino_far {w : World} {B g cap n : Nat} {ys : List Value} (h : w.ownsRow B 3 1 (.slice (some ⟨g, 0, none⟩) n cap) n ys) {p : Addr} (hp : g ≠ p.block) (u : Value) : (w.setCell p u).ownsRow B 3 1 (.slice (some ⟨g, 0, none⟩) n cap) n ys := by
  refine ⟨h.1, ?_⟩
  rcases own_box h with ⟨h0, _⟩ | ⟨g', cap', cur, h0, hb, hB, h4⟩
  · cases h0
  · refine .inr ⟨g', cap', cur, h0, hb, ?_, h4⟩
    cases h0
    exact hB.far hp u
/-- Two rows that do not share a block. -/
def Dj (a b : Value) : Prop := ∀ k, a.ownBlock = some k → b.ownBlock = some k → False
theorem Dj.kl {a b : Value} (h : Dj a b) : a.ownBlock = none ∨ a.ownBlock ≠ b.ownBlock := by
  cases ha : a.ownBlock with
  | none => exact .inl rfl
  | some k => exact .inr (fun e => h k ha e.symm)
theorem Dj.kr {a b : Value} (h : Dj a b) : b.ownBlock = none ∨ b.ownBlock ≠ a.ownBlock := by
  cases hb : b.ownBlock with
  | none => exact .inl rfl
  | some k => exact .inr (fun e => h k e.symm hb)
theorem Dj.left {a a' b : Value} {m : Nat} (h : Dj a b) (ha : a'.ownBlock = a.ownBlock ∨ a'.ownBlock = some m) (hb : ∀ k, b.ownBlock = some k → k < m) : Dj a' b := by
  intro k h1 h2
  rcases ha with ha | ha
  · exact h k (by rw [← ha]; exact h1) h2
  · rw [ha] at h1; have := hb k h2; cases h1; omega
theorem Dj.right {a b b' : Value} {m : Nat} (h : Dj a b) (hb : b'.ownBlock = b.ownBlock ∨ b'.ownBlock = some m) (ha : ∀ k, a.ownBlock = some k → k < m) : Dj a b' := by
  intro k h1 h2
  rcases hb with hb | hb
  · exact h k h1 (by rw [← hb]; exact h2)
  · rw [hb] at h2; have := ha k h1; cases h2; omega

set_option maxRecDepth 100000 in
set_option maxHeartbeats 4000000 in
theorem rshare_any (t : Int) (A : Option Addr) (n c : Nat) (ws : List Int) (w : World) (hs : Is w w.heap.size A n c ws) (hv : WsV t ws) :
    Calls Tryz.prog 169 #[.int .i64 t, .slice A n c] w (ResI w (0, shareF t ws)) := by
  obtain ⟨i0, hi0, hz0, hz1, hz2⟩ := info_parts int_info
  have HI := hide (And.intro hi0 (And.intro hz0 (And.intro hz1 hz2)))
  obtain rfl := hs.len
  have hbig := hs.big
  have hle := hs.le
  obtain ⟨S, hS⟩ : ∃ S, S = ws.sum := ⟨_, rfl⟩
  have hSb := hv.S
  rw [← hS] at hSb
  obtain ⟨sb1, sb2⟩ := hSb
  have hm := fun W => r04right_any t W
  rw [show winB t 0 100000000 = true from winB_iff.2 ⟨hv.t0, hv.t1⟩] at hm
  have HM := hide hm
  have HV := hide hv
  have n0 := hv.n0
  have n1 := hv.n1
  have hsl : ∀ W, Below w.heap.size w W → Is W w.heap.size A ws.length c ws := fun W hW => hs.below hW
  have HSL := hide hsl
  have HS := hide hS
  have h16 : ¬ (16 : Int) < (ws.length : Int) := by omega
  have h1n : ¬ (ws.length : Int) < 1 := by omega
  clear hs hv hm hsl hS hi0 hz0 hz1 hz2
  go_enter Tryz.func169, Tryz.ntmps169
  go_wp2_with (go_at_call 163; refine (HM.out _).mono ?_; rintro e w' ⟨rfl, rfl⟩)
  go_loop [6, 7] (fun s6 s7 => ∃ (k : Nat) (q : Int), k ≤ ws.length ∧ s7 = .int .i64 k ∧ s6 = .int .i64 q ∧ q = (ws.take k).sum) (fun _ s7 => ws.length - (intOf s7).toNat)
  case atStart => exact ⟨0, 0, Nat.zero_le _, rfl, rfl, rfl⟩
  case round =>
    obtain ⟨k, q, hk, rfl, rfl, hq⟩ := hrel
    have HQ := hide hq
    obtain ⟨tb1, tb2⟩ := sumT_bd HV.out k
    rw [← hq] at tb1 tb2
    clear hq
    by_cases hlt : k < ws.length
    · obtain ⟨b, off, x, rfl, hbB, hx, c0⟩ := Is_at (HSL.out _ (Below.refl _ _)) hlt
      obtain ⟨⟨xb1, xb2⟩, _⟩ := wsV_bd HV.out hx
      have HST := hide (sum_step hx)
      have x1 : ¬ x < 0 := by omega
      have x2 : ¬ 1000 < x := by omega
      have hw : IntKind.i64.wrap (q + x) = q + x := by rw [IntKind.wrap_i64]; omega
      have hkz : (k : Int) < (ws.length : Int) := by omega
      clear hx
      go_wp2
      go_round
      case rel => exact ⟨k + 1, q + x, by omega, by go_num, rfl, by rw [HST.out, HQ.out]⟩
      case measure => simp [intOf]; omega
    · obtain rfl : k = ws.length := by omega
      have hqS : q = S := by rw [HQ.out, List.take_length, HS.out]
      subst hqS
      have hS0 : (q == 0) = false := by simp; omega
      clear tb1 tb2
      go_wp2
      go_loopw [8, 9, 10, 11] (fun v8 v9 s10 s11 wr => ∃ (k : Nat) (z : Int), k ≤ ws.length ∧ s11 = .int .i64 k ∧ s10 = .int .i64 z ∧ z = t - (baseF t q (ws.take k)).sum ∧ Ino wr w.heap.size v8 (baseF t q (ws.take k)) ∧ Ino wr w.heap.size v9 (remsF t q (ws.take k)) ∧ Dj v8 v9 ∧ Below w.heap.size w wr) (fun _ _ _ s11 _ => ws.length - (intOf s11).toNat)
      case atStart => exact ⟨0, t, Nat.zero_le _, rfl, rfl, by simp [baseF], World.ownsRow_nil _ _ _ _, World.ownsRow_nil _ _ _ _, (fun k h => by simp [Value.ownBlock] at h), Below.refl _ _⟩
      case round =>
        obtain ⟨k, z, hk, rfl, rfl, hz, ho8, ho9, hdj, hb⟩ := hrel
        have HO8 := hide ho8
        have HO9 := hide ho9
        have HDJ := hide hdj
        have HB := hide hb
        have HZ := hide hz
        have hzr := hb.size
        have hlk : (ws.take k).length = k := by rw [List.length_take]; omega
        have L8 := hide (show (baseF t q (ws.take k)).length = k by rw [baseF_len, hlk])
        have L9 := hide (show (remsF t q (ws.take k)).length = k by rw [remsF_len, hlk])
        obtain ⟨bb1, bb2⟩ := baseT_bd HV.out k
        rw [← HS.out] at bb1 bb2
        obtain ⟨t0, t1⟩ : 0 ≤ t ∧ t ≤ 100000000 := ⟨HV.out.t0, HV.out.t1⟩
        clear ho8 ho9 hdj hb hlk
        by_cases hlt : k < ws.length
        · obtain ⟨b, off, x, hA, hbB, hx, c0⟩ := Is_at (HSL.out _ HB.out) hlt
          obtain ⟨⟨xb1, xb2⟩, p1, p2⟩ := wsV_bd HV.out hx
          have p3 : 0 ≤ t * x / q := Int.ediv_nonneg p1 (by omega)
          have p4 : t * x / q ≤ t * x := Int.ediv_le_self q p1
          have p5 : 0 ≤ t * x % q := Int.emod_nonneg _ (by omega)
          have wx : IntKind.i64.wrap (t * x) = t * x := by rw [IntKind.wrap_i64]; omega
          have dx : (t * x).tdiv q = t * x / q := Int.tdiv_eq_ediv_of_nonneg p1
          have rx : (t * x).tmod q = t * x % q := Int.tmod_eq_emod_of_nonneg p1
          have HST := hide (baseF_step (t := t) (S := q) hx)
          have HSN := hide (baseF_snoc (t := t) (S := q) hx)
          have HRN := hide (remsF_snoc (t := t) (S := q) hx)
          generalize hd : t * x / q = d at p3 p4 dx
          have HD := hide hd
          have wd : IntKind.i64.wrap d = d := by rw [IntKind.wrap_i64]; omega
          generalize hr : t * x % q = r at p5 rx
          have HR := hide hr
          have w4 : IntKind.i64.wrap (z - d) = z - d := by rw [IntKind.wrap_i64]; omega
          have hS0' : ¬ q = 0 := by omega
          have hkz : (k : Int) < (ws.length : Int) := by omega
          subst hA
          clear hx hd hr hz bb1 bb2
          go_wp2_with (at_builtin; go_must (refine wpList_append_sl _ rfl _ _ 65 rfl w.heap.size 3 i0 _ 8 Tryz.underlying65 HI.out.1 HI.out.2.1 HI.out.2.2.1 HI.out.2.2.2 rfl (by decide) inE_len inE_one _ _ _ rfl (HO8.out.alloc _) _ 1 1 rfl (in_sl1 (Box.new _ _ _)) (by rw [L8.out]; unfold maxLen; omega) (by rw [L8.out]; omega) (by simp; omega) ?_))
          intro v8 w1 hown hg hat
          have B1 := hide ((HB.out.alloc hzr _).grown hg (by simp; omega) (by intro q hq; exact (HO8.out.lt q hq).1))
          have P8 := hide (show Ino w1 w.heap.size v8 (baseF t q (ws.take (k + 1))) by unfold Ino; rw [HSN.out, HD.out, List.flatMap_append, List.length_append]; simpa using hown)
          have P9 := hide ((HO9.out.alloc _).kept hg HDJ.out.kr)
          have DJ1 := hide (HDJ.out.left hat (fun k h => Nat.lt_of_lt_of_le (HO9.out.lt k h).2 (by simp)))
          have hz1 := B1.out.size
          clear hown hg hat
          have c0 := (B1.out.cell (p := ⟨b, off + k, none⟩) hbB).trans ((HB.out.cell (p := ⟨b, off + k, none⟩) hbB).symm.trans c0)
          go_wp2_with (at_builtin; go_must (refine wpList_append_sl _ rfl _ _ 65 rfl w.heap.size 3 i0 _ 8 Tryz.underlying65 HI.out.1 HI.out.2.1 HI.out.2.2.1 HI.out.2.2.2 rfl (by decide) inE_len inE_one _ _ _ rfl (P9.out.alloc _) _ 1 1 rfl (in_sl1 (Box.new _ _ _)) (by rw [L9.out]; unfold maxLen; omega) (by rw [L9.out]; omega) (by simp; omega) ?_))
          intro v9 w2 hown hg hat
          have B2 := hide ((B1.out.alloc hz1 _).grown hg (by simp; omega) (by intro q hq; exact (P9.out.lt q hq).1))
          have L8' : (baseF t q (ws.take (k + 1))).length = k + 1 := by rw [HSN.out, List.length_append, L8.out]; rfl
          have R8 : w2.ownsRow w.heap.size 3 1 v8 (k + 1) ((baseF t q (ws.take (k + 1))).flatMap inE) := by
            have h := (P8.out.alloc (.cells #[.int .i64 r] 3)).kept hg DJ1.out.kl
            rwa [L8'] at h
          have R9 := hide (show Ino w2 w.heap.size v9 (remsF t q (ws.take (k + 1))) by unfold Ino; rw [HRN.out, HR.out, List.flatMap_append, List.length_append]; simpa using hown)
          have DJ2 := hide (DJ1.out.right hat (fun k h => Nat.lt_of_lt_of_le (P8.out.lt k h).2 (by simp)))
          have hx8 : (baseF t q (ws.take (k + 1)))[k]? = some d := by rw [HSN.out, HD.out, List.getElem?_append_right (by rw [L8.out]; omega), L8.out]; simp
          clear hown hg hat
          rcases own_box R8 with ⟨_, h0⟩ | ⟨g8, cap8, cur8, rfl, _⟩
          · omega
          · have c8 := Ino_cell R8 L8' hx8
            have HR8 := hide R8
            have L8n := hide L8'
            have hk1 : (k : Int) < ((k + 1 : Nat) : Int) := by omega
            clear R8 hx8 L8'
            go_wp2
            go_roundw
            case rel =>
              refine ⟨k + 1, z - d, by omega, by go_num, rfl, by rw [HST.out, HZ.out, HD.out]; omega, ?_, R9.out, DJ2.out, B2.out⟩
              unfold Ino
              rw [L8n.out]
              exact HR8.out
            case measure => simp [intOf]; omega
        · obtain rfl : k = ws.length := by omega
          have R8 := HO8.out
          have R9 := HO9.out
          rw [List.take_length] at R8 R9 hz
          obtain ⟨lb1, lb2⟩ := left_bd HV.out
          rw [← HS.out] at lb1 lb2
          have hzl : z = leftF t q ws := hz
          obtain ⟨L, hL⟩ : ∃ L : Nat, leftF t q ws = L := ⟨(leftF t q ws).toNat, by omega⟩
          obtain rfl : z = (L : Int) := by omega
          have HLL := hide hL
          have hLn : L < ws.length := by omega
          have hbl : (baseF t q ws).length = ws.length := baseF_len _ _ _
          have hrl : (remsF t q ws).length = ws.length := remsF_len _ _ _
          unfold Ino at R8 R9
          rw [hbl] at R8
          rw [hrl] at R9
          have Dq := HDJ.out
          clear HZ hz hzl hL lb1 lb2 HO8 HO9 HDJ L8 L9 bb1 bb2
          rcases own_box R8 with ⟨_, h0⟩ | ⟨g8, cap8, cur8, rfl, _⟩
          · omega
          rcases own_box R9 with ⟨_, h0⟩ | ⟨g9, cap9, cur9, rfl, _⟩
          · omega
          have hne : g8 ≠ g9 := fun e => Dq g8 rfl (by rw [e]; rfl)
          have hne' : g9 ≠ g8 := fun e => hne e.symm
          have H8 := hide R8
          have H9 := hide R9
          have HBL := hide hbl
          have HRL := hide hrl
          clear R8 R9 Dq hbl hrl
          go_wp2
          go_loopw [10] (fun s10 wj => ∃ j : Nat, j ≤ L ∧ s10 = .int .i64 ((L : Int) - j) ∧ wj.ownsRow w.heap.size 3 1 (.slice (some ⟨g8, 0, none⟩) ws.length cap8) ws.length ((bump (baseF t q ws) ((ordF t q ws).take j)).flatMap inE) ∧ wj.ownsRow w.heap.size 3 1 (.slice (some ⟨g9, 0, none⟩) ws.length cap9) ws.length ((rsF (remsF t q ws) ((ordF t q ws).take j)).flatMap inE) ∧ Below w.heap.size w wj) (fun s10 _ => (intOf s10).toNat)
          case atStart => exact ⟨0, Nat.zero_le _, by simp, H8.out, H9.out, HB.out⟩
          case round =>
            obtain ⟨j, hj, rfl, h8, h9, hb⟩ := hrel
            obtain ⟨ps, hps⟩ : ∃ ps, ps = bump (baseF t q ws) ((ordF t q ws).take j) := ⟨_, rfl⟩
            obtain ⟨rs, hrs⟩ : ∃ rs, rs = rsF (remsF t q ws) ((ordF t q ws).take j) := ⟨_, rfl⟩
            have hpl : ps.length = ws.length := by rw [hps, bump_len, HBL.out]
            have hrl : rs.length = ws.length := by rw [hrs, rsF_len, HRL.out]
            rw [← hps] at h8
            rw [← hrs] at h9
            clear H8 H9 HB
            have H8 := hide h8
            have H9 := hide h9
            have HB := hide hb
            have HPS := hide hps
            have HRS := hide hrs
            have HPL := hide hpl
            have HRL2 := hide hrl
            clear h8 h9 hb hps hrs hpl hrl
            by_cases hjL : j < L
            · have hjz : 0 < (L : Int) - (j : Int) := by omega
              go_wp2
              go_loopw [12, 13] (fun s12 s13 wi => ∃ b i : Nat, 1 ≤ i ∧ i ≤ ws.length ∧ s12 = .int .i64 b ∧ s13 = .int .i64 i ∧ Best rs i b ∧ wi.ownsRow w.heap.size 3 1 (.slice (some ⟨g8, 0, none⟩) ws.length cap8) ws.length (ps.flatMap inE) ∧ wi.ownsRow w.heap.size 3 1 (.slice (some ⟨g9, 0, none⟩) ws.length cap9) ws.length (rs.flatMap inE) ∧ Below w.heap.size w wi) (fun _ s13 _ => ws.length - (intOf s13).toNat)
              case atStart => exact ⟨0, 1, Nat.le_refl _, n0, rfl, rfl, Best.one rs, H8.out, H9.out, HB.out⟩
              case round =>
                obtain ⟨b, i, hi1, hin, rfl, rfl, hbest, h8, h9, hb⟩ := hrel
                have hbi := hbest.1
                clear H8 H9 HB
                have H8 := hide h8
                have H9 := hide h9
                have HB := hide hb
                have HBE := hide hbest
                have hbr : rs[b]? = some (rs.getD b 0) := by
                  rw [List.getD_eq_getElem?_getD, List.getElem?_eq_getElem (by have := HRL2.out; omega)]; rfl
                have cb := Ino_cell h9 HRL2.out hbr
                have HBR := hide hbr
                generalize hyb : rs.getD b 0 = yb at cb HBR
                have HYB := hide hyb
                have hbz : (b : Int) < (ws.length : Int) := by omega
                clear h8 h9 hb hbest hbr hyb
                by_cases hlt : i < ws.length
                · have hir : rs[i]? = some (rs.getD i 0) := by
                    rw [List.getD_eq_getElem?_getD, List.getElem?_eq_getElem (by have := HRL2.out; omega)]; rfl
                  have ci := Ino_cell H9.out HRL2.out hir
                  generalize hyi : rs.getD i 0 = yi at ci
                  have HYI := hide hyi
                  have hiz : (i : Int) < (ws.length : Int) := by omega
                  clear hir hyi
                  by_cases hgt : yb < yi
                  · have HNX := hide (HBE.out.next (by rw [HYB.out, HYI.out]; exact hgt))
                    go_wp2_with fail
                    go_quiet (fail)
                    go_wp2
                    go_roundw
                    case rel => exact ⟨i, i + 1, by omega, by omega, rfl, by go_num, HNX.out, H8.out, H9.out, below_drewN HB.out _⟩
                    case measure => simp [intOf]; omega
                  · have HNX := hide (HBE.out.keep (by rw [HYB.out, HYI.out]; exact hgt))
                    go_wp2_with fail
                    go_quiet (fail)
                    go_wp2
                    go_roundw
                    case rel => exact ⟨b, i + 1, by omega, by omega, rfl, by go_num, HNX.out, H8.out, H9.out, below_drewN HB.out _⟩
                    case measure => simp [intOf]; omega
                · obtain rfl : i = ws.length := by omega
                  have hord := best_ord (t := t) (S := q) (ws := ws) (by omega) (j := j) (b := b) (by omega) (by have := HBE.out; rwa [HRS.out] at this)
                  have hpr : ps[b]? = some (ps.getD b 0) := by
                    rw [List.getD_eq_getElem?_getD, List.getElem?_eq_getElem (by have := HPL.out; omega)]; rfl
                  have c8 := Ino_cell H8.out HPL.out hpr
                  have hpb : 0 ≤ ps.getD b 0 ∧ ps.getD b 0 ≤ 100000000000 + 16 := by
                    have h1 := baseF_bd (t := t) (S := q) ⟨HV.out.t0, HV.out.t1⟩ sb1 HV.out.w
                    have h2 := bump_bd 100000000000 ((ordF t q ws).take j) (baseF t q ws) h1.1 (ps.getD b 0) (by rw [← HPS.out]; exact List.mem_of_getElem? hpr)
                    have h3 : ((ordF t q ws).take j).length ≤ 16 := by rw [List.length_take]; omega
                    omega
                  have HPR := hide hpr
                  have HST1 := hide (bump_step (baseF t q ws) (ordF t q ws) j _ hord)
                  have HST2 := hide (rsF_step (remsF t q ws) (ordF t q ws) j _ hord)
                  generalize hp : ps.getD b 0 = pp at c8 hpb HPR
                  have HPP := hide hp
                  obtain ⟨pb1, pb2⟩ := hpb
                  have wp : IntKind.i64.wrap (pp + 1) = pp + 1 := by rw [IntKind.wrap_i64]; omega
                  have wl : IntKind.i64.wrap ((L : Int) - (j : Int) - 1) = (L : Int) - (j : Int) - 1 := by rw [IntKind.wrap_i64]; omega
                  have f8 := Ino_frz H8.out b
                  have f9 := Ino_frz H9.out b
                  clear hord hpr hp
                  go_wp2_with fail
                  go_roundw
                  case rel =>
                    refine ⟨j + 1, by omega, by go_num, ?_, ?_, (HB.out.setCell (p := ⟨g8, b, none⟩) (Ino_lt H8.out).1 _).setCell (p := ⟨g9, b, none⟩) (Ino_lt H9.out).1 _⟩
                    · rw [HST1.out, ← HPS.out]
                      unfold bump1
                      rw [Int.toNat_natCast, HPP.out]
                      exact Ino_far (Ino_set H8.out HPR.out (pp + 1)) hne _
                    · rw [HST2.out, ← HRS.out, Int.toNat_natCast]
                      exact Ino_set (Ino_far H9.out hne' _) HBR.out (-1)
                  case measure => simp [intOf]; omega
            · obtain rfl : j = L := by omega
              have hjz : ¬ 0 < (j : Int) - (j : Int) := by omega
              go_wp2
              go_ret2
              refine ⟨_, rfl, ?_, HB.out⟩
              unfold Ino
              rw [shareF_len]
              have e : shareF t ws = ps := by unfold shareF; rw [← HS.out, HLL.out, HPS.out]; rfl
              rw [e]
              exact H8.out
end Go.Proofs.YtbhndfphegflhaaGreat

/- Dividing an amount: the parts sum up to it, and each differs from its share by less than one. Plain. -/
namespace Go.Proofs.YtbhndfphegflhaaGreat

theorem bump1_sum {ps : List Int} {i : Int} (h0 : 0 ≤ i) (h : i < ps.length) : (bump1 ps i).sum = ps.sum + 1 := by
  obtain ⟨n, rfl⟩ : ∃ n : Nat, i = n := ⟨i.toNat, by omega⟩
  unfold bump1
  rw [Int.toNat_natCast]
  have hn : n < ps.length := by omega
  clear h h0
  induction ps generalizing n with
  | nil => simp at hn
  | cons x r ih =>
    cases n with
    | zero => simp; omega
    | succ n =>
      have hr : n < r.length := by simpa using hn
      have := ih n hr
      rw [List.set_cons_succ, List.sum_cons, List.sum_cons, List.getD_cons_succ, this]; omega
theorem bump1_ln (ps : List Int) (i : Int) : (bump1 ps i).length = ps.length := by simp [bump1]
theorem bump_sum : ∀ (is ps : List Int), (∀ i ∈ is, 0 ≤ i ∧ i < ps.length) → (bump ps is).sum = ps.sum + is.length
  | [], ps, _ => by simp [bump]
  | i :: r, ps, h => by
    have h1 := h i (by simp)
    have ih := bump_sum r (bump1 ps i) (fun j hj => by rw [bump1_ln]; exact h j (by simp [hj]))
    unfold bump at ih ⊢
    rw [List.foldl_cons, ih, bump1_sum h1.1 h1.2, List.length_cons]; omega
theorem share_sum {t : Int} {ws : List Int} (h : WsV t ws) : (shareF t ws).sum = t := by
  obtain ⟨l1, l2⟩ := left_bd h
  unfold shareF
  have hlo := ordF_len t ws.sum ws
  have hbl : (baseF t ws.sum ws).length = ws.length := by simp [baseF]
  rw [bump_sum _ _ (fun i hi => by rw [hbl]; exact ordF_mem.1 (List.mem_of_mem_take hi)), List.length_take]
  have : leftF t ws.sum ws = t - (baseF t ws.sum ws).sum := rfl
  omega
end Go.Proofs.YtbhndfphegflhaaGreat

/- An append of a list onto a row of the call's own, as a step of a region that draws; the rest of a slice. No program. -/
namespace Go.Proofs.YtbhndfphegflhaaGreat
open Go.RowKit

theorem step_append_sl {P : Program} {α : Type} {enc : α → List Value} {k : Nat} {ops : Array Oper} {o : Oper} {a : Act} {w : World} {K : Act → World → Prop} {Q : Exit → Act → World → Prop} {E : Prop}
    (hgd : o.guard = none) (s x : Operand) (t : TypeId)
    (ho : o.op = .call { callee := .builtin .append, args := #[s, x], argTypes := #[t, t] })
    (base : Nat) (e : TypeId) (i : TypeInfo) (z : Value) (bytes : Nat) (ht : P.underlying t = some (.slice e)) (hi : P.info? e = some i) (hz : i.zero = some z)
    (hsize : i.size = k) (hby : i.bytes = bytes) (hzs : z.cells.size = k) (hk0 : 0 < k) (hk : ∀ x, (enc x).length = k) (h1 : ∀ x, ∀ u ∈ enc x, u.oneCell' = true)
    (v : Value) (n : Nat) (ys : List Value) (hsv : a.eval s = v) (hown : w.ownsRow base e k v n ys)
    {B : Nat} (A : Option Addr) (m c : Nat) {xs : List α} (hx : a.eval x = .slice A m c) (hs : Sl enc k w B A m c xs)
    (hnm : n + m ≤ maxLen) (hbytes : (n + m) * bytes ≤ 140737488355328) (hbase : base ≤ w.heap.size)
    (h : ∀ v' w', w'.ownsRow base e k v' (n + m) (ys ++ xs.flatMap enc) → w.grownBy w' v.ownBlock → (v'.ownBlock = v.ownBlock ∨ v'.ownBlock = some w.heap.size) → K (a.put o.dst v') w') :
    if Region.wanted o (yielded ops a.tmps) = true then Oper.wp P o a w K Q else E := by
  have hw : Region.wanted o (yielded ops a.tmps) = true := by simp [Region.wanted, hgd]
  rw [if_pos hw]
  obtain ⟨v', w', hr, h2, h3, h4⟩ := run_append_sl (P := P) w base t o.type e i z bytes ht hi hz hsize hby hzs hk0 hk h1 v n ys hown hs hnm hbytes hbase
  unfold Oper.wp execOp
  simp only [ho, resolve, invoke, builtin, Sem.run_bind, Sem.run_pure, Result.andThen_ok, List.map_toArray, List.map_cons, List.map_nil, hsv, hx, hr]
  exact h v' w' h2 h3 h4

/-- The elements from i on: 's[i:]'. -/
theorem Sl.drop {α : Type} {enc : α → List Value} {k : Nat} {w : World} {B b off n c : Nat} {xs : List α} (h : Sl enc k w B (some ⟨b, off, none⟩) n c xs) {i : Nat} (hi : i ≤ n) (hn : 0 < n) :
    (c = i → Sl enc k w B (some ⟨b, off, none⟩) (n - i) (c - i) (xs.drop i)) ∧ (¬ c = i → Sl enc k w B (some ⟨b, off + i * k, none⟩) (n - i) (c - i) (xs.drop i)) := by
  have hle := h.le
  have hbig := h.big
  have hlen := h.len
  obtain ⟨b', off', hA, hb, hc⟩ := h.cells hn
  cases hA
  refine ⟨fun e => ⟨by rw [List.length_drop]; omega, by omega, by omega, (fun e => by cases e), fun h0 => by omega⟩, fun _ => ⟨by rw [List.length_drop]; omega, by omega, by omega, (fun e => by cases e), fun _ => ⟨b, off + i * k, rfl, hb, fun j x hx q u hu => ?_⟩⟩⟩
  rw [List.getElem?_drop] at hx
  have := hc (i + j) x hx q u hu
  rw [show off + i * k + j * k + q = off + (i + j) * k + q from by rw [Nat.add_mul]; omega]
  exact this
theorem Sl.empty {α : Type} {enc : α → List Value} {k : Nat} (w : World) (B : Nat) (A : Option Addr) (c : Nat) (h : A = none → c = 0) : Sl enc k w B A 0 c [] := ⟨rfl, by omega, by omega, h, fun h0 => by omega⟩
end Go.Proofs.YtbhndfphegflhaaGreat

/- Walks: put, the reference's with. -/
namespace Go.Proofs.YtbhndfphegflhaaGreat
open Go.RowKit

/-- What a change of orders hands back: the error and the orders. -/
def ResO (w : World) (r : Int × List Od) (e : Ending) (w' : World) : Prop :=
  ∃ A n c, e = .returned (.tuple #[.slice A n c, .int .i64 r.1]) ∧ Ods w' w'.heap.size A n c r.2 ∧ Below w.heap.size w w'
theorem ResO.nil {w w' : World} {er : Int} (h : Below w.heap.size w w') : ResO w (er, []) (.returned (.tuple #[.slice none 0 0, .int .i64 er])) w' := ⟨none, 0, 0, rfl, Sl.none_, h⟩
theorem od_sl1 {w : World} {g : Nat} {x : Od} (h : Box w g 35 (odC x)) : Ods w (g + 1) (some ⟨g, 0, none⟩) 1 1 [x] :=
  Sl.of_box (t := 35) odE_len (xs := [x]) (show Box w g 35 (([x] : List Od).flatMap odE).toArray from h) rfl (Nat.le_refl _) (by omega)

/-- put: a copy in which one element is replaced. -/
theorem oput_any (A : Option Addr) (n c i : Nat) (x : Od) (xs : List Od) (w : World) (hs : Ods w w.heap.size A n c xs) (hn : n ≤ 1000) (hi : i < n) :
    Calls Tryz.prog 126 #[.slice A n c, .int .i64 i, odV x] w fun e w' => ∃ v, e = .returned v ∧ Odo w' w.heap.size v (xs.set i x) ∧ Below w.heap.size w w' := by
  obtain rfl := hs.len
  have hcl := fun o => od_clone A xs.length c xs (w.alloc o) ((hs.alloc (Nat.le_refl _) o).more (by simp)) hn
  have HC := hide hcl
  clear hcl hs
  unfold odV
  go_enter Tryz.func126, Tryz.ntmps126
  go_wp2_with fail
  refine (HC.out _).mono ?_
  rintro e w1 ⟨v, rfl, hown, hb⟩
  obtain ⟨bx, r0, r1, r2, r3, r4, r5, r6, r7, r8, r9⟩ := od_box (x := x) (Box.new w 35 (odC x)) (hb.mono (by simp))
  rcases own_box hown with ⟨_, h0⟩ | ⟨g, cap, cur, rfl, hbg, hB, hnc, hcm, hcs, htk⟩
  · omega
  · have hcl : ∀ j, i * 10 ≤ j → j < (i + 1) * 10 → ∃ u, w1.cell? ⟨g, j, none⟩ = some u := fun j _ h2 => by
      rw [hB.cell, Array.getElem?_eq_getElem (by omega)]; exact ⟨_, rfl⟩
    obtain ⟨u0, q0⟩ := hcl (i * 10) (by omega) (by omega)
    obtain ⟨u1, q1⟩ := hcl (i * 10 + 1) (by omega) (by omega)
    obtain ⟨u2, q2⟩ := hcl (i * 10 + 2) (by omega) (by omega)
    obtain ⟨u3, q3⟩ := hcl (i * 10 + 3) (by omega) (by omega)
    obtain ⟨u4, q4⟩ := hcl (i * 10 + 4) (by omega) (by omega)
    obtain ⟨u5, q5⟩ := hcl (i * 10 + 5) (by omega) (by omega)
    obtain ⟨u6, q6⟩ := hcl (i * 10 + 6) (by omega) (by omega)
    obtain ⟨u7, q7⟩ := hcl (i * 10 + 7) (by omega) (by omega)
    obtain ⟨u8, q8⟩ := hcl (i * 10 + 8) (by omega) (by omega)
    obtain ⟨u9, q9⟩ := hcl (i * 10 + 9) (by omega) (by omega)
    have hfz := fun j => hB.frz j
    have HO := hide hown
    have hbg' : w.heap.size ≤ g := by simp at hbg; omega
    have hin : i < xs.length := hi
    clear bx hcl htk hcs hB hown
    go_wp2
    go_ret
    refine ⟨_, rfl, ?_, below_setCells hbg' (odE x) (i * 10) _ (below_call hb)⟩
    have := own_setk odE_len HO.out rfl hi x
    unfold Odo
    rw [List.length_set]
    exact own_base this (by simp)

/-- The orders in which x replaces those with its ID. -/
def withO (xs : List Od) (x : Od) : List Od := xs.map (fun y => if (y.id == x.id) = true then x else y)
end Go.Proofs.YtbhndfphegflhaaGreat

/- Plain laws on orders. No walk. -/
namespace Go.Proofs.YtbhndfphegflhaaGreat

theorem chkOs_ok : ∀ (xs : List Od) (p : Option Int), chkOs p xs = 0 → ∀ x ∈ xs, chkO x = 0
  | [], _, _, x, hx => by simp at hx
  | y :: r, p, h, x, hx => by
    rw [chkOs] at h
    split at h
    · simp at h
    · split at h
      · rename_i hb; rw [h] at hb; simp at hb
      · rename_i hb
        rcases List.mem_cons.1 hx with rfl | hx
        · simpa using hb
        · exact chkOs_ok r _ h x hx
theorem chkOs_gt : ∀ (xs : List Od) (q : Int), chkOs (some q) xs = 0 → ∀ x ∈ xs, q < x.id
  | [], _, _, x, hx => by simp at hx
  | y :: r, q, h, x, hx => by
    rw [chkOs] at h
    split at h
    · simp at h
    · rename_i h1
      have hy : q < y.id := by simpa using h1
      split at h
      · rename_i hb; rw [h] at hb; simp at hb
      · rcases List.mem_cons.1 hx with rfl | hx
        · exact hy
        · have := chkOs_gt r _ h x hx; omega
theorem chkOs_tail {x : Od} {r : List Od} {p : Option Int} (h : chkOs p (x :: r) = 0) : chkOs (some x.id) r = 0 := by
  rw [chkOs] at h
  split at h
  · simp at h
  · split at h
    · rename_i hb; rw [h] at hb; simp at hb
    · exact h
theorem with_set : ∀ {xs : List Od} {p : Option Int}, chkOs p xs = 0 → ∀ {i : Nat} {x y : Od}, xs[i]? = some x → y.id = x.id → withO xs y = xs.set i y
  | [], _, _, i, x, y, h, _ => by simp at h
  | z :: r, p, hc, 0, x, y, h, he => by
    simp at h; subst h
    have ht := chkOs_gt r _ (chkOs_tail hc)
    unfold withO
    rw [List.map_cons, List.set_cons_zero, if_pos (by simp [he])]
    congr 1
    conv => rhs; rw [← List.map_id r]
    refine List.map_congr_left (fun u hu => ?_)
    have := ht u hu
    rw [if_neg (by simp; omega)]; rfl
  | z :: r, p, hc, i + 1, x, y, h, he => by
    have ih := with_set (chkOs_tail hc) (i := i) (x := x) (y := y) (by simpa using h) he
    have ht := chkOs_gt r _ (chkOs_tail hc) x (List.mem_of_getElem? (i := i) (by simpa using h))
    unfold withO at ih ⊢
    rw [List.map_cons, List.set_cons_succ, ih, if_neg (by simp; omega)]

structure VldO (xs : List Od) : Prop where
  len : xs.length ≤ 64
  chk : chkOs none xs = 0
theorem VldO.of {xs : List Od} (h : rightO xs = 0) : VldO xs := by
  unfold rightO at h
  split at h
  · simp at h
  · exact ⟨by omega, h⟩
theorem VldO.right {xs : List Od} (h : VldO xs) : rightO xs = 0 := by
  unfold rightO; rw [if_neg (by have := h.len; omega)]; exact h.chk
theorem VldO.M {xs : List Od} (h : VldO xs) : ∀ x ∈ xs, OdM x := fun x hx => (chkO_M (chkOs_ok xs none h.chk x hx)).1
theorem VldO.sh {xs : List Od} (h : VldO xs) : ∀ x ∈ xs, sharesV x.sh = true := fun x hx => (chkO_M (chkOs_ok xs none h.chk x hx)).2.2.2.1
theorem VldO.wi {xs : List Od} (h : VldO xs) : ∀ (i : Nat) (x y : Od), xs[i]? = some x → y.id = x.id → withO xs y = xs.set i y := fun _ _ _ hx he => with_set h.chk hx he

/-- The same shares, where they lie. -/
def SmSh (x y : Od) : Prop := x.shA = y.shA ∧ x.shn = y.shn ∧ x.shc = y.shc ∧ x.sh = y.sh
theorem SmSh.rfl {x : Od} : SmSh x x := ⟨Eq.refl _, Eq.refl _, Eq.refl _, Eq.refl _⟩
theorem SmSh.od {x y : Od} (h : SmSh x y) {w : World} {B : Nat} (hy : OdS w B y) : OdS w B x := by
  obtain ⟨h1, h2, h3, h4⟩ := h
  unfold OdS
  rw [h1, h2, h3, h4]; exact hy
theorem set_mem {α : Type} {xs : List α} {i : Nat} {y z : α} (h : z ∈ xs.set i y) : z = y ∨ z ∈ xs := by
  rcases List.mem_or_eq_of_mem_set h with h | h
  · exact .inr h
  · exact .inl h
theorem getO_mem {xs : List Od} {id : Int} (h : atO xs id ≠ -1) : (getO xs id).1 ∈ xs := by
  rcases getO_cases xs id with ⟨h1, _⟩ | ⟨i, x, _, h2, _, h4, _⟩
  · exact absurd h1 h
  · rw [h4]; exact List.mem_of_getElem? h2
theorem opO_mem {xs : List Od} {id : Int} {er : Od → Int} {g : Od → Od} (hg : ∀ x, SmSh (g x) x) : ∀ z ∈ (opO xs id er g).2, ∃ x ∈ xs, SmSh z x := by
  unfold opO
  split
  · intro z hz; simp at hz
  · rename_i h1
    split
    · intro z hz
      rcases set_mem hz with rfl | hz
      · exact ⟨_, getO_mem h1, hg _⟩
      · exact ⟨z, hz, SmSh.rfl⟩
    · intro z hz; simp at hz
theorem receiveO_mem {xs : List Od} {id m : Int} : ∀ z ∈ (receiveO xs id m).2, ∃ x ∈ xs, SmSh z x := opO_mem (fun _ => ⟨Eq.refl _, Eq.refl _, Eq.refl _, Eq.refl _⟩)
theorem stopO_mem {xs : List Od} {id : Int} : ∀ z ∈ (stopO xs id).2, ∃ x ∈ xs, SmSh z x := opO_mem (fun _ => ⟨Eq.refl _, Eq.refl _, Eq.refl _, Eq.refl _⟩)
theorem billO_mem {xs : List Od} {b : Bl} : ∀ z ∈ (billO xs b).2, ∃ x ∈ xs, SmSh z x := opO_mem (fun _ => ⟨Eq.refl _, Eq.refl _, Eq.refl _, Eq.refl _⟩)
theorem placeO_mem {xs : List Od} {x : Od} : ∀ z ∈ (placeO xs x).2, z ∈ xs ∨ z = x := by
  unfold placeO
  split
  · split
    · intro z hz
      rcases List.mem_append.1 hz with h | h
      · exact .inl h
      · exact .inr (List.mem_singleton.1 h)
    · intro z hz; simp at hz
  · intro z hz; simp at hz

/-! ### what the changes keep -/
theorem chkO_of {x : Od} (h1 : bad1 x = false) (h2 : OdM x) (h3 : 1 ≤ x.st ∧ x.st ≤ 3) (h4 : sharesV x.sh = true) (h5 : bad4 x = false) : chkO x = 0 := by
  have b2 : bad2 x = false := by
    unfold bad2
    rw [winB_iff.2 h2.rcv, winB_iff.2 h2.bil, winB_iff.2 h2.paid]; rfl
  have b3 : bad3 x = false := by unfold bad3; rw [winB_iff.2 h3, h4]; rfl
  unfold chkO
  rw [h1, b2, b3, h5]; rfl
theorem bad4_iff {x : Od} : bad4 x = false ↔ (x.st = 2 ↔ x.bil = x.cop) := by
  unfold bad4
  have e1 : (x.st == 2) = decide (x.st = 2) := rfl
  have e2 : (x.bil == x.cop) = decide (x.bil = x.cop) := rfl
  rw [e1, e2]
  by_cases h1 : x.st = 2 <;> by_cases h2 : x.bil = x.cop <;> simp [h1, h2]
theorem rcv_ok {x : Od} {n : Int} (h : chkO x = 0) (he : rcvE n x = 0) : chkO (rcvF n x) = 0 ∧ resvO (rcvF n x) = resvO x := by
  obtain ⟨hM, b1, b3, b4, b5⟩ := chkO_M h
  have hn : 1 ≤ n ∧ x.st = 1 ∧ n ≤ x.cop - x.rcv := by
    unfold rcvE at he
    split at he
    · cases he
    · split at he
      · rename_i h1 h2; omega
      · cases he
  have hr := hM.rcv
  have hb := hM.bil
  refine ⟨chkO_of b1 ⟨hM.id, hM.cop, hM.pri, ⟨by simp only [rcvF]; omega, by simp only [rcvF]; omega⟩, ⟨hb.1, by simp only [rcvF]; omega⟩, hM.paid⟩ b3 b4 ?_, ?_⟩
  · rw [bad4_iff] at b5 ⊢; exact b5
  · unfold resvO rcvF
    rw [if_pos hn.2.1, if_pos hn.2.1]
theorem stop_ok {x : Od} (h : chkO x = 0) (he : stopE x = 0) : chkO (stopF x) = 0 ∧ resvO (stopF x) = resvO x - (x.cop - x.rcv) * x.pri := by
  obtain ⟨hM, b1, b3, b4, b5⟩ := chkO_M h
  have hn : x.st = 1 := by
    unfold stopE at he
    split at he
    · assumption
    · cases he
  refine ⟨chkO_of b1 ⟨hM.id, hM.cop, hM.pri, hM.rcv, hM.bil, hM.paid⟩ ⟨by simp only [stopF]; omega, by simp only [stopF]; omega⟩ b4 ?_, ?_⟩
  · rw [bad4_iff] at b5 ⊢
    simp only [stopF]
    constructor
    · intro h; omega
    · intro h; have := b5.2 h; omega
  · unfold resvO stopF
    rw [if_pos hn]
    simp only
    rw [if_neg (by omega), if_pos trivial, ← Int.sub_mul]
    congr 1; omega
theorem billE_ok {b : Bl} {x : Od} (he : billE b x = 0) : x.ven = b.ven ∧ (1 ≤ b.cop ∧ b.cop ≤ x.rcv - x.bil) ∧ (1 ≤ b.amt ∧ x.paid + b.amt ≤ 100000000) := by
  unfold billE at he
  split at he
  · split at he
    · split at he
      · split at he
        · rename_i h1 h2 h3 h4; exact ⟨h1, ⟨h2.2.1, h3⟩, h2.2.2.1, h4⟩
        · cases he
      · cases he
    · cases he
  · cases he
theorem bill_ok {b : Bl} {x : Od} (h : chkO x = 0) (he : billE b x = 0) : chkO (billF b x) = 0 ∧ resvO (billF b x) = resvO x - b.cop * x.pri := by
  obtain ⟨hM, b1, b3, b4, b5⟩ := chkO_M h
  obtain ⟨_, ⟨c1, c2⟩, a1, a2⟩ := billE_ok he
  have hr := hM.rcv
  have hb := hM.bil
  have hp := hM.paid
  rw [bad4_iff] at b5
  have hne : ¬ x.bil = x.cop := by omega
  have hs2 : ¬ x.st = 2 := fun h => hne (b5.1 h)
  by_cases hc : x.bil + b.cop = x.cop
  · have e : billF b x = { x with bil := x.bil + b.cop, paid := x.paid + b.amt, st := 2 } := by unfold billF; rw [if_pos hc]
    rw [e]
    refine ⟨chkO_of b1 ⟨hM.id, hM.cop, hM.pri, hM.rcv, ⟨by simp only; omega, by simp only; omega⟩, ⟨by simp only; omega, by simp only; omega⟩⟩ ⟨by simp only; omega, by simp only; omega⟩ b4 (by rw [bad4_iff]; simp [hc]), ?_⟩
    unfold resvO
    simp only
    rw [if_neg (by omega), if_neg (by omega)]
    by_cases h1 : x.st = 1
    · rw [if_pos h1, ← Int.sub_mul, show x.cop - x.bil - b.cop = 0 by omega]; simp
    · rw [if_neg h1, if_pos (by omega), ← Int.sub_mul, show x.rcv - x.bil - b.cop = 0 by omega]; simp
  · have e : billF b x = { x with bil := x.bil + b.cop, paid := x.paid + b.amt } := by unfold billF; rw [if_neg hc]
    rw [e]
    refine ⟨chkO_of b1 ⟨hM.id, hM.cop, hM.pri, hM.rcv, ⟨by simp only; omega, by simp only; omega⟩, ⟨by simp only; omega, by simp only; omega⟩⟩ b3 b4 (by rw [bad4_iff]; simp only; exact ⟨fun h => absurd h hs2, fun h => absurd h hc⟩), ?_⟩
    unfold resvO
    simp only
    by_cases h1 : x.st = 1
    · rw [if_pos h1, if_pos h1, ← Int.sub_mul]; congr 1; omega
    · rw [if_neg h1, if_neg h1, if_pos (by omega), if_pos (by omega), ← Int.sub_mul]; congr 1; omega
theorem chkOs_set : ∀ {xs : List Od} {p : Option Int} {i : Nat} {x y : Od}, xs[i]? = some x → y.id = x.id → chkO y = 0 → chkOs p xs = 0 → chkOs p (xs.set i y) = 0
  | [], _, _, _, _, h, _, _, _ => by simp at h
  | z :: r, p, 0, x, y, h, he, hb, hc => by
    simp at h; subst h
    have ht := chkOs_tail hc
    rw [chkOs] at hc
    rw [List.set_cons_zero, chkOs, he]
    split at hc
    · simp at hc
    · rename_i h1
      rw [if_neg h1, if_neg (by rw [hb]; decide)]
      exact ht
  | z :: r, p, i + 1, x, y, h, he, hb, hc => by
    have ht := chkOs_tail hc
    rw [chkOs] at hc
    rw [List.set_cons_succ, chkOs]
    split at hc
    · simp at hc
    · rename_i h1
      rw [if_neg h1]
      split at hc
      · rename_i h2; rw [hc] at h2; simp at h2
      · rename_i h2
        rw [if_neg h2]
        exact chkOs_set (by simpa using h) he hb ht
theorem take_set_selfO {α : Type} : ∀ (xs : List α) (i : Nat) (y : α), (xs.set i y).take i = xs.take i
  | [], _, _ => rfl
  | _ :: _, 0, _ => rfl
  | x :: r, i + 1, y => by rw [List.set_cons_succ, List.take_succ_cons, List.take_succ_cons, take_set_selfO r i y]
theorem getO_at {xs : List Od} {id : Int} {i : Nat} {x : Od} (h : xs[i]? = some x) (hp : x.id = id) (ha : ∀ y ∈ xs.take i, (y.id == id) = false) : getO xs id = (x, true) := by
  have : xs.find? (fun x : Od => x.id == id) = some x := by
    obtain ⟨hi, rfl⟩ := List.getElem?_eq_some_iff.1 h
    rw [List.find?_eq_some_iff_append]
    exact ⟨by simpa using hp, xs.take i, xs.drop (i + 1), by rw [← List.drop_eq_getElem_cons hi, List.take_append_drop], fun y hy => by rw [ha y hy]; rfl⟩
  unfold getO; rw [this]
/-- What an operation does to valid orders. -/
theorem opO_cases {xs : List Od} (hv : VldO xs) (id : Int) {er : Od → Int} {g : Od → Od} (hid : ∀ x, (g x).id = x.id) (hk : ∀ x, chkO x = 0 → er x = 0 → chkO (g x) = 0) :
    ((opO xs id er g).1 ≠ 0 ∧ (opO xs id er g).2 = []) ∨
    ∃ x : Od, er x = 0 ∧ chkO x = 0 ∧ (opO xs id er g).1 = 0 ∧ getO xs id = (x, true) ∧ getO (opO xs id er g).2 id = (g x, true) ∧ rightO (opO xs id er g).2 = 0 ∧ (opO xs id er g).2.length = xs.length ∧ g x ∈ (opO xs id er g).2 := by
  rcases getO_cases xs id with ⟨h1, _⟩ | ⟨i, x, h1, h2, h3, h4, h5⟩
  · left; rw [opO_none h1]; simp
  · rw [opO_some h1 h4]
    by_cases he : er x = 0
    · right
      have hx := chkOs_ok xs none hv.chk x (List.mem_of_getElem? h2)
      have hi : i < xs.length := (List.getElem?_eq_some_iff.1 h2).1
      have hg : (xs.set i (g x))[i]? = some (g x) := by rw [List.getElem?_set, if_pos rfl, if_pos hi]
      rw [if_pos he]
      refine ⟨x, he, hx, rfl, h4, ?_, ?_, List.length_set, List.mem_of_getElem? hg⟩
      · exact getO_at hg (by rw [hid, h3]) (by rw [take_set_selfO]; exact h5)
      · exact VldO.right ⟨by rw [List.length_set]; exact hv.len, chkOs_set h2 (hid x) (hk x hx he) hv.chk⟩
    · left; rw [if_neg he]; exact ⟨he, rfl⟩
end Go.Proofs.YtbhndfphegflhaaGreat
