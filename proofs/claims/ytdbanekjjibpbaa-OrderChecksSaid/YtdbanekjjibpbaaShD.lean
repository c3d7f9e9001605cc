/- Walks: the reference's Share of valid weights. -/
import Derived.Test.YtdbanekjjibpbaaOdN
import Derived.Test.YtdbanekjjibpbaaShC
namespace Go.Proofs.Ytdbanekjjibpbaa
open Go.RowKit

theorem wsV_bd {t : Int} {ws : List Int} (h : WsV t ws) {k : Nat} {x : Int} (hx : ws[k]? = some x) : (1 ≤ x ∧ x ≤ 1000) ∧ 0 ≤ t * x ∧ t * x ≤ 100000000000 := by
  have h1 := h.w x (List.mem_of_getElem? hx)
  obtain ⟨a, b, _⟩ := base1_bd (t := t) (S := 1) ⟨h.t0, h.t1⟩ (by omega) h1
  exact ⟨h1, a, b⟩
theorem sumT_bd {t : Int} {ws : List Int} (h : WsV t ws) (k : Nat) : 0 ≤ (ws.take k).sum ∧ (ws.take k).sum ≤ 16000 := by
  have := sum_take_bd h.w k
  have := h.n1
  omega
theorem baseT_bd {t : Int} {ws : List Int} (h : WsV t ws) (k : Nat) : 0 ≤ (baseF t ws.sum (ws.take k)).sum ∧ (baseF t ws.sum (ws.take k)).sum ≤ 1600000000000 := by
  obtain ⟨s1, s2⟩ := h.S
  obtain ⟨_, h2, h3⟩ := baseF_bd (t := t) (S := ws.sum) ⟨h.t0, h.t1⟩ s1 (ws := ws.take k) (fun y hy => h.w y (List.mem_of_mem_take hy))
  have : (ws.take k).length ≤ 16 := by have := h.n1; rw [List.length_take]; omega
  omega
theorem remsF_snoc {t S : Int} {ws : List Int} {k : Nat} {x : Int} (h : ws[k]? = some x) : remsF t S (ws.take (k + 1)) = remsF t S (ws.take k) ++ [t * x % S] := by
  unfold remsF; rw [take_step h, List.map_append]; rfl
theorem remsF_len (t S : Int) (ws : List Int) : (remsF t S ws).length = ws.length := by simp [remsF]

/-- A row of ints of the call's own, as a block. -/
theorem Ino_cell {w : World} {B g cap n : Nat} {xs : List Int} (h : w.ownsRow B 3 1 (.slice (some ⟨g, 0, none⟩) n cap) n (xs.flatMap inE)) (hl : xs.length = n) {i : Nat} {x : Int} (hx : xs[i]? = some x) : w.cell? ⟨g, i, none⟩ = some (.int .i64 x) := by
  have := own_cell inE_len h hl hx 0 _ rfl
  simpa using this
theorem Ino_set {w : World} {B g cap n : Nat} {xs : List Int} (h : w.ownsRow B 3 1 (.slice (some ⟨g, 0, none⟩) n cap) n (xs.flatMap inE)) {i : Nat} {x : Int} (hx : xs[i]? = some x) (y : Int) :
    (w.setCell ⟨g, i, none⟩ (.int .i64 y)).ownsRow B 3 1 (.slice (some ⟨g, 0, none⟩) n cap) n ((xs.set i y).flatMap inE) := by
  have := own_set (enc := inE) (k := 1) inE_len h (i := i) (j := 0) (x := x) (y := y) (u := .int .i64 y) hx (by omega) rfl
  simpa using this
theorem Ino_frz {w : World} {B g cap n : Nat} {ys : List Value} (h : w.ownsRow B 3 1 (.slice (some ⟨g, 0, none⟩) n cap) n ys) (i : Nat) : w.frozen? ⟨g, i, none⟩ = false := by
  rcases own_box h with ⟨h0, _⟩ | ⟨g', cap', cur, h0, _, hB, _⟩
  · cases h0
  · cases h0; exact hB.frz i
theorem Ino_lt {w : World} {B g cap n : Nat} {ys : List Value} (h : w.ownsRow B 3 1 (.slice (some ⟨g, 0, none⟩) n cap) n ys) : B ≤ g ∧ g < w.heap.size := h.lt g rfl
theorem Ino_far {w : World} {B g cap n : Nat} {ys : List Value} (h : w.ownsRow B 3 1 (.slice (some ⟨g, 0, none⟩) n cap) n ys) {p : Addr} (hp : g ≠ p.block) (u : Value) : (w.setCell p u).ownsRow B 3 1 (.slice (some ⟨g, 0, none⟩) n cap) n ys := by
  refine ⟨h.1, ?_⟩
  rcases own_box h with ⟨h0, _⟩ | ⟨g', cap', cur, h0, hb, hB, h4⟩
  · cases h0
  · refine .inr ⟨g', cap', cur, h0, hb, ?_, h4⟩
    cases h0
    exact hB.far hp u
/-- Two rows that do not share a block. -/
def Dj (a b : Value) : Prop := ∀ k, a.ownBlock = some k → b.ownBlock = some k → False
theorem Dj.kl {a b : Value} (h : Dj a b) : a.ownBlock = none ∨ a.ownBlock ≠ b.ownBlock := by
  cases ha : a.ownBlock with
  | none => exact .inl rfl
  | some k => exact .inr (fun e => h k ha e.symm)
theorem Dj.kr {a b : Value} (h : Dj a b) : b.ownBlock = none ∨ b.ownBlock ≠ a.ownBlock := by
  cases hb : b.ownBlock with
  | none => exact .inl rfl
  | some k => exact .inr (fun e => h k e.symm hb)
theorem Dj.left {a a' b : Value} {m : Nat} (h : Dj a b) (ha : a'.ownBlock = a.ownBlock ∨ a'.ownBlock = some m) (hb : ∀ k, b.ownBlock = some k → k < m) : Dj a' b := by
  intro k h1 h2
  rcases ha with ha | ha
  · exact h k (by rw [← ha]; exact h1) h2
  · rw [ha] at h1; have := hb k h2; cases h1; omega
theorem Dj.right {a b b' : Value} {m : Nat} (h : Dj a b) (hb : b'.ownBlock = b.ownBlock ∨ b'.ownBlock = some m) (ha : ∀ k, a.ownBlock = some k → k < m) : Dj a b' := by
  intro k h1 h2
  rcases hb with hb | hb
  · exact h k h1 (by rw [← hb]; exact h2)
  · rw [hb] at h2; have := ha k h1; cases h2; omega

set_option maxRecDepth 100000 in
set_option maxHeartbeats 4000000 in
theorem rshare_any (t : Int) (A : Option Addr) (n c : Nat) (ws : List Int) (w : World) (hs : Is w w.heap.size A n c ws) (hv : WsV t ws) :
    Calls Try.prog 40 #[.int .i64 t, .slice A n c] w (ResI w (0, shareF t ws)) := by
  obtain ⟨i0, hi0, hz0, hz1, hz2⟩ := info_parts int_info
  have HI := hide (And.intro hi0 (And.intro hz0 (And.intro hz1 hz2)))
  obtain rfl := hs.len
  have hbig := hs.big
  have hle := hs.le
  obtain ⟨S, hS⟩ : ∃ S, S = ws.sum := ⟨_, rfl⟩
  have hSb := hv.S
  rw [← hS] at hSb
  obtain ⟨sb1, sb2⟩ := hSb
  have hm := fun W => r04right_any t W
  rw [show winB t 0 100000000 = true from winB_iff.2 ⟨hv.t0, hv.t1⟩] at hm
  have HM := hide hm
  have HV := hide hv
  have n0 := hv.n0
  have n1 := hv.n1
  have hsl : ∀ W, Below w.heap.size w W → Is W w.heap.size A ws.length c ws := fun W hW => hs.below hW
  have HSL := hide hsl
  have HS := hide hS
  have h16 : ¬ (16 : Int) < (ws.length : Int) := by omega
  have h1n : ¬ (ws.length : Int) < 1 := by omega
  clear hs hv hm hsl hS hi0 hz0 hz1 hz2
  go_enter Try.func40, Try.ntmps40
  go_wp2_with (go_at_call 39; refine (HM.out _).mono ?_; rintro e w' ⟨rfl, rfl⟩)
  go_loop [6, 7] (fun s6 s7 => ∃ (k : Nat) (q : Int), k ≤ ws.length ∧ s7 = .int .i64 k ∧ s6 = .int .i64 q ∧ q = (ws.take k).sum) (fun _ s7 => ws.length - (intOf s7).toNat)
  case atStart => exact ⟨0, 0, Nat.zero_le _, rfl, rfl, rfl⟩
  case round =>
    obtain ⟨k, q, hk, rfl, rfl, hq⟩ := hrel
    have HQ := hide hq
    obtain ⟨tb1, tb2⟩ := sumT_bd HV.out k
    rw [← hq] at tb1 tb2
    clear hq
    by_cases hlt : k < ws.length
    · obtain ⟨b, off, x, rfl, hbB, hx, c0⟩ := Is_at (HSL.out _ (Below.refl _ _)) hlt
      obtain ⟨⟨xb1, xb2⟩, _⟩ := wsV_bd HV.out hx
      have HST := hide (sum_step hx)
      have x1 : ¬ x < 0 := by omega
      have x2 : ¬ 1000 < x := by omega
      have hw : IntKind.i64.wrap (q + x) = q + x := by rw [IntKind.wrap_i64]; omega
      have hkz : (k : Int) < (ws.length : Int) := by omega
      clear hx
      go_wp2
      go_round
      case rel => exact ⟨k + 1, q + x, by omega, by go_num, rfl, by rw [HST.out, HQ.out]⟩
      case measure => simp [intOf]; omega
    · obtain rfl : k = ws.length := by omega
      have hqS : q = S := by rw [HQ.out, List.take_length, HS.out]
      subst hqS
      have hS0 : (q == 0) = false := by simp; omega
      clear tb1 tb2
      go_wp2
      go_loopw [8, 9, 10, 11] (fun v8 v9 s10 s11 wr => ∃ (k : Nat) (z : Int), k ≤ ws.length ∧ s11 = .int .i64 k ∧ s10 = .int .i64 z ∧ z = t - (baseF t q (ws.take k)).sum ∧ Ino wr w.heap.size v8 (baseF t q (ws.take k)) ∧ Ino wr w.heap.size v9 (remsF t q (ws.take k)) ∧ Dj v8 v9 ∧ Below w.heap.size w wr) (fun _ _ _ s11 _ => ws.length - (intOf s11).toNat)
      case atStart => exact ⟨0, t, Nat.zero_le _, rfl, rfl, by simp [baseF], World.ownsRow_nil _ _ _ _, World.ownsRow_nil _ _ _ _, (fun k h => by simp [Value.ownBlock] at h), Below.refl _ _⟩
      case round =>
        obtain ⟨k, z, hk, rfl, rfl, hz, ho8, ho9, hdj, hb⟩ := hrel
        have HO8 := hide ho8
        have HO9 := hide ho9
        have HDJ := hide hdj
        have HB := hide hb
        have HZ := hide hz
        have hzr := hb.size
        have hlk : (ws.take k).length = k := by rw [List.length_take]; omega
        have L8 := hide (show (baseF t q (ws.take k)).length = k by rw [baseF_len, hlk])
        have L9 := hide (show (remsF t q (ws.take k)).length = k by rw [remsF_len, hlk])
        obtain ⟨bb1, bb2⟩ := baseT_bd HV.out k
        rw [← HS.out] at bb1 bb2
        obtain ⟨t0, t1⟩ : 0 ≤ t ∧ t ≤ 100000000 := ⟨HV.out.t0, HV.out.t1⟩
        clear ho8 ho9 hdj hb hlk
        by_cases hlt : k < ws.length
        · obtain ⟨b, off, x, hA, hbB, hx, c0⟩ := Is_at (HSL.out _ HB.out) hlt
          obtain ⟨⟨xb1, xb2⟩, p1, p2⟩ := wsV_bd HV.out hx
          have p3 : 0 ≤ t * x / q := Int.ediv_nonneg p1 (by omega)
          have p4 : t * x / q ≤ t * x := Int.ediv_le_self q p1
          have p5 : 0 ≤ t * x % q := Int.emod_nonneg _ (by omega)
          have wx : IntKind.i64.wrap (t * x) = t * x := by rw [IntKind.wrap_i64]; omega
          have dx : (t * x).tdiv q = t * x / q := Int.tdiv_eq_ediv_of_nonneg p1
          have rx : (t * x).tmod q = t * x % q := Int.tmod_eq_emod_of_nonneg p1
          have HST := hide (baseF_step (t := t) (S := q) hx)
          have HSN := hide (baseF_snoc (t := t) (S := q) hx)
          have HRN := hide (remsF_snoc (t := t) (S := q) hx)
          generalize hd : t * x / q = d at p3 p4 dx
          have HD := hide hd
          have wd : IntKind.i64.wrap d = d := by rw [IntKind.wrap_i64]; omega
          generalize hr : t * x % q = r at p5 rx
          have HR := hide hr
          have w4 : IntKind.i64.wrap (z - d) = z - d := by rw [IntKind.wrap_i64]; omega
          have hS0' : ¬ q = 0 := by omega
          have hkz : (k : Int) < (ws.length : Int) := by omega
          subst hA
          clear hx hd hr hz bb1 bb2
          go_wp2_with (at_builtin; go_must (refine wpList_append_sl _ rfl _ _ 41 rfl w.heap.size 3 i0 _ 8 Try.underlying41 HI.out.1 HI.out.2.1 HI.out.2.2.1 HI.out.2.2.2 rfl (by decide) inE_len inE_one _ _ _ rfl (HO8.out.alloc _) _ 1 1 rfl (in_sl1 (Box.new _ _ _)) (by rw [L8.out]; unfold maxLen; omega) (by rw [L8.out]; omega) (by simp; omega) ?_))
          intro v8 w1 hown hg hat
          have B1 := hide ((HB.out.alloc hzr _).grown hg (by simp; omega) (by intro q hq; exact (HO8.out.lt q hq).1))
          have P8 := hide (show Ino w1 w.heap.size v8 (baseF t q (ws.take (k + 1))) by unfold Ino; rw [HSN.out, HD.out, List.flatMap_append, List.length_append]; simpa using hown)
          have P9 := hide ((HO9.out.alloc _).kept hg HDJ.out.kr)
          have DJ1 := hide (HDJ.out.left hat (fun k h => Nat.lt_of_lt_of_le (HO9.out.lt k h).2 (by simp)))
          have hz1 := B1.out.size
          clear hown hg hat
          have c0 := (B1.out.cell (p := ⟨b, off + k, none⟩) hbB).trans ((HB.out.cell (p := ⟨b, off + k, none⟩) hbB).symm.trans c0)
          go_wp2_with (at_builtin; go_must (refine wpList_append_sl _ rfl _ _ 41 rfl w.heap.size 3 i0 _ 8 Try.underlying41 HI.out.1 HI.out.2.1 HI.out.2.2.1 HI.out.2.2.2 rfl (by decide) inE_len inE_one _ _ _ rfl (P9.out.alloc _) _ 1 1 rfl (in_sl1 (Box.new _ _ _)) (by rw [L9.out]; unfold maxLen; omega) (by rw [L9.out]; omega) (by simp; omega) ?_))
          intro v9 w2 hown hg hat
          have B2 := hide ((B1.out.alloc hz1 _).grown hg (by simp; omega) (by intro q hq; exact (P9.out.lt q hq).1))
          have L8' : (baseF t q (ws.take (k + 1))).length = k + 1 := by rw [HSN.out, List.length_append, L8.out]; rfl
          have R8 : w2.ownsRow w.heap.size 3 1 v8 (k + 1) ((baseF t q (ws.take (k + 1))).flatMap inE) := by
            have h := (P8.out.alloc (.cells #[.int .i64 r] 3)).kept hg DJ1.out.kl
            rwa [L8'] at h
          have R9 := hide (show Ino w2 w.heap.size v9 (remsF t q (ws.take (k + 1))) by unfold Ino; rw [HRN.out, HR.out, List.flatMap_append, List.length_append]; simpa using hown)
          have DJ2 := hide (DJ1.out.right hat (fun k h => Nat.lt_of_lt_of_le (P8.out.lt k h).2 (by simp)))
          have hx8 : (baseF t q (ws.take (k + 1)))[k]? = some d := by rw [HSN.out, HD.out, List.getElem?_append_right (by rw [L8.out]; omega), L8.out]; simp
          clear hown hg hat
          rcases own_box R8 with ⟨_, h0⟩ | ⟨g8, cap8, cur8, rfl, _⟩
          · omega
          · have c8 := Ino_cell R8 L8' hx8
            have HR8 := hide R8
            have L8n := hide L8'
            have hk1 : (k : Int) < ((k + 1 : Nat) : Int) := by omega
            clear R8 hx8 L8'
            go_wp2
            go_roundw
            case rel =>
              refine ⟨k + 1, z - d, by omega, by go_num, rfl, by rw [HST.out, HZ.out, HD.out]; omega, ?_, R9.out, DJ2.out, B2.out⟩
              unfold Ino
              rw [L8n.out]
              exact HR8.out
            case measure => simp [intOf]; omega
        · obtain rfl : k = ws.length := by omega
          have R8 := HO8.out
          have R9 := HO9.out
          rw [List.take_length] at R8 R9 hz
          obtain ⟨lb1, lb2⟩ := left_bd HV.out
          rw [← HS.out] at lb1 lb2
          have hzl : z = leftF t q ws := hz
          obtain ⟨L, hL⟩ : ∃ L : Nat, leftF t q ws = L := ⟨(leftF t q ws).toNat, by omega⟩
          obtain rfl : z = (L : Int) := by omega
          have HLL := hide hL
          have hLn : L < ws.length := by omega
          have hbl : (baseF t q ws).length = ws.length := baseF_len _ _ _
          have hrl : (remsF t q ws).length = ws.length := remsF_len _ _ _
          unfold Ino at R8 R9
          rw [hbl] at R8
          rw [hrl] at R9
          have Dq := HDJ.out
          clear HZ hz hzl hL lb1 lb2 HO8 HO9 HDJ L8 L9 bb1 bb2
          rcases own_box R8 with ⟨_, h0⟩ | ⟨g8, cap8, cur8, rfl, _⟩
          · omega
          rcases own_box R9 with ⟨_, h0⟩ | ⟨g9, cap9, cur9, rfl, _⟩
          · omega
          have hne : g8 ≠ g9 := fun e => Dq g8 rfl (by rw [e]; rfl)
          have hne' : g9 ≠ g8 := fun e => hne e.symm
          have H8 := hide R8
          have H9 := hide R9
          have HBL := hide hbl
          have HRL := hide hrl
          clear R8 R9 Dq hbl hrl
          go_wp2
          go_loopw [10] (fun s10 wj => ∃ j : Nat, j ≤ L ∧ s10 = .int .i64 ((L : Int) - j) ∧ wj.ownsRow w.heap.size 3 1 (.slice (some ⟨g8, 0, none⟩) ws.length cap8) ws.length ((bump (baseF t q ws) ((ordF t q ws).take j)).flatMap inE) ∧ wj.ownsRow w.heap.size 3 1 (.slice (some ⟨g9, 0, none⟩) ws.length cap9) ws.length ((rsF (remsF t q ws) ((ordF t q ws).take j)).flatMap inE) ∧ Below w.heap.size w wj) (fun s10 _ => (intOf s10).toNat)
          case atStart => exact ⟨0, Nat.zero_le _, by simp, H8.out, H9.out, HB.out⟩
          case round =>
            obtain ⟨j, hj, rfl, h8, h9, hb⟩ := hrel
            obtain ⟨ps, hps⟩ : ∃ ps, ps = bump (baseF t q ws) ((ordF t q ws).take j) := ⟨_, rfl⟩
            obtain ⟨rs, hrs⟩ : ∃ rs, rs = rsF (remsF t q ws) ((ordF t q ws).take j) := ⟨_, rfl⟩
            have hpl : ps.length = ws.length := by rw [hps, bump_len, HBL.out]
            have hrl : rs.length = ws.length := by rw [hrs, rsF_len, HRL.out]
            rw [← hps] at h8
            rw [← hrs] at h9
            clear H8 H9 HB
            have H8 := hide h8
            have H9 := hide h9
            have HB := hide hb
            have HPS := hide hps
            have HRS := hide hrs
            have HPL := hide hpl
            have HRL2 := hide hrl
            clear h8 h9 hb hps hrs hpl hrl
            by_cases hjL : j < L
            · have hjz : 0 < (L : Int) - (j : Int) := by omega
              go_wp2
              go_loopw [12, 13] (fun s12 s13 wi => ∃ b i : Nat, 1 ≤ i ∧ i ≤ ws.length ∧ s12 = .int .i64 b ∧ s13 = .int .i64 i ∧ Best rs i b ∧ wi.ownsRow w.heap.size 3 1 (.slice (some ⟨g8, 0, none⟩) ws.length cap8) ws.length (ps.flatMap inE) ∧ wi.ownsRow w.heap.size 3 1 (.slice (some ⟨g9, 0, none⟩) ws.length cap9) ws.length (rs.flatMap inE) ∧ Below w.heap.size w wi) (fun _ s13 _ => ws.length - (intOf s13).toNat)
              case atStart => exact ⟨0, 1, Nat.le_refl _, n0, rfl, rfl, Best.one rs, H8.out, H9.out, HB.out⟩
              case round =>
                obtain ⟨b, i, hi1, hin, rfl, rfl, hbest, h8, h9, hb⟩ := hrel
                have hbi := hbest.1
                clear H8 H9 HB
                have H8 := hide h8
                have H9 := hide h9
                have HB := hide hb
                have HBE := hide hbest
                have hbr : rs[b]? = some (rs.getD b 0) := by
                  rw [List.getD_eq_getElem?_getD, List.getElem?_eq_getElem (by have := HRL2.out; omega)]; rfl
                have cb := Ino_cell h9 HRL2.out hbr
                have HBR := hide hbr
                generalize hyb : rs.getD b 0 = yb at cb HBR
                have HYB := hide hyb
                have hbz : (b : Int) < (ws.length : Int) := by omega
                clear h8 h9 hb hbest hbr hyb
                by_cases hlt : i < ws.length
                · have hir : rs[i]? = some (rs.getD i 0) := by
                    rw [List.getD_eq_getElem?_getD, List.getElem?_eq_getElem (by have := HRL2.out; omega)]; rfl
                  have ci := Ino_cell H9.out HRL2.out hir
                  generalize hyi : rs.getD i 0 = yi at ci
                  have HYI := hide hyi
                  have hiz : (i : Int) < (ws.length : Int) := by omega
                  clear hir hyi
                  by_cases hgt : yb < yi
                  · have HNX := hide (HBE.out.next (by rw [HYB.out, HYI.out]; exact hgt))
                    go_wp2_with fail
                    go_quiet (fail)
                    go_wp2
                    go_roundw
                    case rel => exact ⟨i, i + 1, by omega, by omega, rfl, by go_num, HNX.out, H8.out, H9.out, below_drewN HB.out _⟩
                    case measure => simp [intOf]; omega
                  · have HNX := hide (HBE.out.keep (by rw [HYB.out, HYI.out]; exact hgt))
                    go_wp2_with fail
                    go_quiet (fail)
                    go_wp2
                    go_roundw
                    case rel => exact ⟨b, i + 1, by omega, by omega, rfl, by go_num, HNX.out, H8.out, H9.out, below_drewN HB.out _⟩
                    case measure => simp [intOf]; omega
                · obtain rfl : i = ws.length := by omega
                  have hord := best_ord (t := t) (S := q) (ws := ws) (by omega) (j := j) (b := b) (by omega) (by have := HBE.out; rwa [HRS.out] at this)
                  have hpr : ps[b]? = some (ps.getD b 0) := by
                    rw [List.getD_eq_getElem?_getD, List.getElem?_eq_getElem (by have := HPL.out; omega)]; rfl
                  have c8 := Ino_cell H8.out HPL.out hpr
                  have hpb : 0 ≤ ps.getD b 0 ∧ ps.getD b 0 ≤ 100000000000 + 16 := by
                    have h1 := baseF_bd (t := t) (S := q) ⟨HV.out.t0, HV.out.t1⟩ sb1 HV.out.w
                    have h2 := bump_bd 100000000000 ((ordF t q ws).take j) (baseF t q ws) h1.1 (ps.getD b 0) (by rw [← HPS.out]; exact List.mem_of_getElem? hpr)
                    have h3 : ((ordF t q ws).take j).length ≤ 16 := by rw [List.length_take]; omega
                    omega
                  have HPR := hide hpr
                  have HST1 := hide (bump_step (baseF t q ws) (ordF t q ws) j _ hord)
                  have HST2 := hide (rsF_step (remsF t q ws) (ordF t q ws) j _ hord)
                  generalize hp : ps.getD b 0 = pp at c8 hpb HPR
                  have HPP := hide hp
                  obtain ⟨pb1, pb2⟩ := hpb
                  have wp : IntKind.i64.wrap (pp + 1) = pp + 1 := by rw [IntKind.wrap_i64]; omega
                  have wl : IntKind.i64.wrap ((L : Int) - (j : Int) - 1) = (L : Int) - (j : Int) - 1 := by rw [IntKind.wrap_i64]; omega
                  have f8 := Ino_frz H8.out b
                  have f9 := Ino_frz H9.out b
                  clear hord hpr hp
                  go_wp2_with fail
                  go_roundw
                  case rel =>
                    refine ⟨j + 1, by omega, by go_num, ?_, ?_, (HB.out.setCell (p := ⟨g8, b, none⟩) (Ino_lt H8.out).1 _).setCell (p := ⟨g9, b, none⟩) (Ino_lt H9.out).1 _⟩
                    · rw [HST1.out, ← HPS.out]
                      unfold bump1
                      rw [Int.toNat_natCast, HPP.out]
                      exact Ino_far (Ino_set H8.out HPR.out (pp + 1)) hne _
                    · rw [HST2.out, ← HRS.out, Int.toNat_natCast]
                      exact Ino_set (Ino_far H9.out hne' _) HBR.out (-1)
                  case measure => simp [intOf]; omega
            · obtain rfl : j = L := by omega
              have hjz : ¬ 0 < (j : Int) - (j : Int) := by omega
              go_wp2
              go_ret2
              refine ⟨_, rfl, ?_, HB.out⟩
              unfold Ino
              rw [shareF_len]
              have e : shareF t ws = ps := by unfold shareF; rw [← HS.out, HLL.out, HPS.out]; rfl
              rw [e]
              exact H8.out
end Go.Proofs.Ytdbanekjjibpbaa
