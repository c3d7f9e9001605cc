/- Walks: order.Split; Ints. -/
import Derived.Test.YtdbanekjjibpbaaOdF
import Derived.Test.YtdbanekjjibpbaaShB
namespace Go.Proofs.Ytdbanekjjibpbaa
open Go.RowKit

def wsO (x : Od) : List Int := x.sh.map (·.weight)
/-- An amount divided among the funds of an order: the error and the parts. -/
def splitO (x : Od) (t : Int) : Int × List Int := if mnyS t = true then (0, shareF t (wsO x)) else (2, [])
abbrev Ino (w : World) (B : Nat) (v : Value) (xs : List Int) : Prop := w.ownsRow B 3 1 v xs.length (xs.flatMap inE)
def ResI (w : World) (r : Int × List Int) (e : Ending) (w' : World) : Prop :=
  ∃ v, e = .returned (.tuple #[v, .int .i64 r.1]) ∧ Ino w' w.heap.size v r.2 ∧ Below w.heap.size w w'
theorem ResI.nil {w w' : World} {er : Int} (h : Below w.heap.size w w') : ResI w (er, []) (.returned (.tuple #[.slice none 0 0, .int .i64 er])) w' := ⟨_, rfl, World.ownsRow_nil _ _ _ _, h⟩
theorem Ino_sl {w : World} {B : Nat} {v : Value} {xs : List Int} (h : Ino w B v xs) (hn : xs.length ≤ 140737488355328) : ∃ A c, v = .slice A xs.length c ∧ Is w w.heap.size A xs.length c xs := by
  have h' := h
  rcases h.2 with ⟨rfl, h0⟩ | ⟨g, cap, _, rfl, _⟩
  · refine ⟨none, 0, by rw [h0], ?_⟩
    unfold Ino at h'
    rw [h0] at h' ⊢
    exact Sl.of_own inE_len h' h0 (by omega)
  · exact ⟨_, cap, rfl, Sl.of_own inE_len h' rfl hn⟩
theorem in_sl1 {w : World} {g : Nat} {x : Int} (h : Box w g 3 #[.int .i64 x]) : Is w (g + 1) (some ⟨g, 0, none⟩) 1 1 [x] :=
  Sl.of_box (t := 3) inE_len (xs := [x]) (show Box w g 3 (([x] : List Int).flatMap inE).toArray from h) rfl (Nat.le_refl _) (by omega)
theorem shsOk_W : ∀ (xs P : List Sh), shsOk P xs = true → ∀ y ∈ xs, 1 ≤ y.weight ∧ y.weight ≤ 100
  | [], _, _, y, hy => by simp at hy
  | x :: r, P, h, y, hy => by
    rw [shsOk, Bool.and_eq_true, Bool.and_eq_true, Bool.and_eq_true] at h
    rcases List.mem_cons.1 hy with rfl | hy
    · exact winB_iff.1 h.1.1.2
    · exact shsOk_W r _ h.2 y hy
theorem sharesV_W {x : Od} (h : sharesV x.sh = true) : (1 ≤ x.sh.length ∧ x.sh.length ≤ 4) ∧ ∀ y ∈ wsO x, 1 ≤ y ∧ y ≤ 100 := by
  unfold sharesV lenB at h
  rw [Bool.and_eq_true, winB_iff] at h
  refine ⟨by omega, fun y hy => ?_⟩
  obtain ⟨z, hz, rfl⟩ := List.mem_map.1 hy
  exact shsOk_W _ _ h.2 z hz
theorem wsO_V {x : Od} {t : Int} (h : sharesV x.sh = true) (ht : mnyS t = true) : WsV t (wsO x) := by
  obtain ⟨h1, h2⟩ := sharesV_W h
  unfold mnyS at ht
  rw [Bool.and_eq_true, decide_eq_true_eq, decide_eq_true_eq] at ht
  have hl : (wsO x).length = x.sh.length := by simp [wsO]
  exact ⟨ht.1, ht.2, by omega, by omega, fun y hy => by have := h2 y hy; omega⟩
def wsT (x : Od) (k : Nat) : List Int := (x.sh.take k).map (·.weight)
theorem ws_step {x : Od} {k : Nat} {y : Sh} (h : x.sh[k]? = some y) : wsT x (k + 1) = wsT x k ++ [y.weight] := by
  unfold wsT; rw [take_step h, List.map_append]; rfl
theorem ws_all {x : Od} {k : Nat} (h : x.sh.length ≤ k) : wsT x k = wsO x := by
  unfold wsT wsO; rw [List.take_of_length_le h]
theorem ws_len {x : Od} {k : Nat} (h : k ≤ x.sh.length) : (wsT x k).length = k := by
  unfold wsT; rw [List.length_map, List.length_take]; omega
theorem shareF_len (t : Int) (ws : List Int) : (shareF t ws).length = ws.length := by unfold shareF; rw [bump_len, baseF_len]

set_option maxRecDepth 100000 in
set_option maxHeartbeats 2000000 in
theorem osplit_any (x : Od) (t : Int) (w : World) (hs : OdS w w.heap.size x) (hv : sharesV x.sh = true) :
    Calls Try.prog 22 #[odV x, .int .i64 t] w (ResI w (splitO x t)) := by
  obtain ⟨i0, hi0, hz0, hz1, hz2⟩ := info_parts int_info
  have HI := hide (And.intro hi0 (And.intro hz0 (And.intro hz1 hz2)))
  obtain ⟨⟨v1, v2⟩, _⟩ := sharesV_W hv
  have hlen := hs.len
  have hle := hs.le
  have hbig := hs.big
  have HBW := hide ((Below.refl w.heap.size w).alloc (Nat.le_refl _) (.cells (odC x) 37))
  have HBX := hide (Box.new w 37 (odC x))
  obtain ⟨_, d0, d1, d2, d3, d4, d5, d6, d7, d8, d9⟩ := od_box HBX.out (Below.refl _ _)
  have H1 := hide (fun W => mrightS_any t W)
  clear hi0 hz0 hz1 hz2 d0 d1 d2 d3 d4 d5 d6 d7 d8
  by_cases ht : mnyS t = true
  · have e1 : splitO x t = (0, shareF t (wsO x)) := by unfold splitO; rw [if_pos ht]
    rw [e1]
    have HV := hide (wsO_V hv ht)
    have hn4 : x.shn ≤ 4 := by omega
    rw [ht] at H1
    have HS := hide hs
    have HLEN := hide hlen
    clear hs hv ht e1 hlen v1 v2
    unfold odV
    go_enter Try.func22, Try.ntmps22
    go_wp2_with (go_at_call 37; refine (H1.out _).mono ?_; rintro e w' ⟨rfl, rfl⟩)
    go_loopw [6, 15] (fun v s15 wr => ∃ k : Nat, k ≤ x.shn ∧ s15 = .int .i64 k ∧ Ino wr w.heap.size v (wsT x k) ∧ Below w.heap.size w wr) (fun _ s15 _ => x.shn - (intOf s15).toNat)
    case atStart => exact ⟨0, Nat.zero_le _, rfl, World.ownsRow_nil _ _ _ _, HBW.out⟩
    case round =>
      obtain ⟨k, hk, rfl, ho, hb⟩ := hrel
      have HO := hide ho
      have HB := hide hb
      have hz := hb.size
      have hl : (wsT x k).length = k := ws_len (by have := HLEN.out; omega)
      have HL := hide hl
      clear ho hb hl d9
      by_cases hlt : k < x.shn
      · obtain ⟨b, off, y, hA, hbB, hy, c0, c1⟩ := Shs_at (HS.out.below HB.out) hlt
        have HST := hide (ws_step hy)
        have HSRC := hide (fun w' g (z : Int) (h : Box w' g 3 #[.int .i64 z]) => in_sl1 h)
        have hown2 : ∀ o o', ((wr.alloc o).alloc o').ownsRow w.heap.size 3 1 u6 (wsT x k).length ((wsT x k).flatMap inE) := fun o o' => (HO.out.alloc o).alloc o'
        have HO2 := hide hown2
        have hbn : ∀ u, Box ((wr.alloc (.cells (shC y) 48)).alloc (.cells #[u] 3)) (wr.heap.size + 1) 3 #[u] := by
          intro u; have := Box.new (wr.alloc (.cells (shC y) 48)) 3 #[u]; rwa [World.size_alloc] at this
        have HBN := hide hbn
        have hkz : (k : Int) < (x.shn : Int) := by omega
        rw [hA]
        have HA := hide hA
        clear hy hown2 hA hbn
        go_wp2_with (at_builtin; go_must (refine wpList_append_sl _ rfl _ _ 41 rfl w.heap.size 3 i0 _ 8 Try.underlying41 HI.out.1 HI.out.2.1 HI.out.2.2.1 HI.out.2.2.2 rfl (by decide) inE_len inE_one _ _ _ rfl (HO2.out _ _) _ 1 1 rfl (HSRC.out _ _ y.weight (HBN.out _)) (by rw [HL.out]; unfold maxLen; omega) (by rw [HL.out]; omega) (by simp; omega) ?_))
        intro v' w1 hown hg hat
        have H5 := hide hown
        have H6 := hide (((HB.out.alloc hz _).alloc (by simp; omega) _).grown hg (by simp; omega) (by intro q hq; exact (HO.out.lt q hq).1))
        clear hown hg hat
        go_wp2
        go_roundw
        case rel =>
          refine ⟨k + 1, by omega, by go_num, ?_, H6.out⟩
          unfold Ino
          rw [HST.out, List.flatMap_append, List.length_append]
          simpa using H5.out
        case measure => simp [intOf]; omega
      · have hkx : wsT x k = wsO x := ws_all (by have := HLEN.out; omega)
        have ho := HO.out
        rw [hkx] at ho
        have hwl : (wsO x).length = x.shn := by have := HLEN.out; simp [wsO]; omega
        obtain ⟨A1, c1, hv, hsl⟩ := Ino_sl ho (by omega)
        rw [hwl] at hv hsl
        subst hv
        have HP := hide (pshare_any t A1 _ c1 (wsO x) wr hsl HV.out)
        have HWL := hide hwl
        clear hkx ho hwl hsl HO HL
        go_wp2_with fail
        refine HP.out.mono ?_
        rintro e w3 ⟨v, rfl, hown, hb3⟩
        have H5 := hide hown
        have H6 := hide hb3
        clear hown hb3
        go_wp2
        go_ret2
        refine ⟨_, rfl, ?_, HB.out.trans (H6.out.mono hz)⟩
        have h := own_base H5.out hz
        unfold Ino
        rw [shareF_len]
        simpa [HWL.out] using h
  · have ht' : mnyS t = false := by simpa using ht
    have e1 : splitO x t = (2, []) := by unfold splitO; rw [if_neg ht]
    rw [e1]
    rw [ht'] at H1
    clear hs hv ht ht' e1
    unfold odV
    go_enter Try.func22, Try.ntmps22
    go_wp2_with (go_at_call 37; refine (H1.out _).mono ?_; rintro e w' ⟨rfl, rfl⟩)
    go_ret2
    exact ResI.nil HBW.out

set_option maxHeartbeats 1000000 in
theorem ints_any (A A' : Option Addr) (n c n' c' : Nat) (xs ys : List Int) (w : World) (hs : Is w w.heap.size A n c xs) (ht : Is w w.heap.size A' n' c' ys) :
    Calls Try.prog 24 #[.slice A n c, .slice A' n' c'] w fun e w' => e = .returned (.bool (decide (xs = ys))) ∧ Below w.heap.size w w' := by
  have hbig := hs.big
  have hbig' := ht.big
  have HS := hide hs
  have HT := hide ht
  clear hs ht
  by_cases hnn : n = n'
  · subst hnn
    go_enter Try.func24, Try.ntmps24
    go_wp2
    go_loopw [5] (fun i wr => ∃ k : Nat, k ≤ n ∧ i = .int .i64 k ∧ Below w.heap.size w wr ∧ xs.take k = ys.take k) (fun i _ => n - (intOf i).toNat)
    case atStart => exact ⟨0, Nat.zero_le _, rfl, Below.refl _ _, rfl⟩
    case round =>
      obtain ⟨k, hk, rfl, hb, ha⟩ := hrel
      have HA := hide ha
      have HB := hide hb
      clear ha hb
      by_cases hlt : k < n
      · obtain ⟨b, off, x, rfl, hbB, hx, c0⟩ := Is_at (HS.out.below HB.out) hlt
        obtain ⟨b', off', y, rfl, hbB', hy, d0⟩ := Is_at (HT.out.below HB.out) hlt
        have HX := hide hx
        have HY := hide hy
        clear hx hy
        have hkk : (k : Int) < (n : Int) := by omega
        by_cases hxy : x = y
        · subst hxy
          go_wp2_with fail
          go_quiet (fail)
          go_wp2
          go_roundw
          case rel =>
            refine ⟨k + 1, by omega, by go_num, below_drewN HB.out _, ?_⟩
            obtain ⟨h1, h2⟩ := List.getElem?_eq_some_iff.1 HX.out
            obtain ⟨h3, h4⟩ := List.getElem?_eq_some_iff.1 HY.out
            rw [List.take_succ_eq_append_getElem h1, List.take_succ_eq_append_getElem h3, HA.out, h2, h4]
          case measure => simp [intOf]; omega
        · have hd : (x != y) = true := by simpa using hxy
          have HXY := hide hxy
          clear hxy
          go_wp2_with fail
          go_quiet (fail)
          go_wp2
          go_ret
          refine ⟨ret_bool ?_, below_drewN HB.out _⟩
          have : xs ≠ ys := by
            intro e
            have h1 := HX.out
            rw [e, HY.out] at h1
            exact HXY.out (Option.some.inj h1).symm
          simp [this]
      · go_wp2
        go_ret
        refine ⟨ret_bool ?_, HB.out⟩
        have h1 := HS.out.len
        have h2 := HT.out.len
        have h3 := HA.out
        rw [List.take_of_length_le (by omega), List.take_of_length_le (by omega)] at h3
        simp [h3]
  · have hne : ((n : Int) == (n' : Int)) = false := by simp; omega
    go_enter Try.func24, Try.ntmps24
    go_wp2
    go_ret
    refine ⟨ret_bool ?_, Below.refl _ _⟩
    have : xs ≠ ys := by
      intro e; have h1 := HS.out.len; have h2 := HT.out.len; subst e; omega
    simp [this]
end Go.Proofs.Ytdbanekjjibpbaa
