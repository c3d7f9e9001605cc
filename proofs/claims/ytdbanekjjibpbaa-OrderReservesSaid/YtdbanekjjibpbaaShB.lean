/- Walks: money.Share of valid weights, the body. -/
import Derived.Test.YtdbanekjjibpbaaShA
import Derived.Deep.OwnRows
namespace Go.Proofs.Ytdbanekjjibpbaa
open Go.RowKit

theorem int_info : (Try.prog.info? 3).map (fun i => (i.zero, i.size, i.bytes)) = some (some (.int .i64 0), 1, 8) := by kernel_rfl
theorem made_zeros (n : Nat) : madeCells #[Value.int .i64 0] n = ((List.replicate n (0 : Int)).map iv).toArray := by
  apply Array.ext
  · simp [madeCells]
  · intro i h1 h2
    simp [madeCells, iv, Nat.mod_one]
theorem set_zeros (B : List Int) (m : Nat) (v : Int) : (B ++ List.replicate (m + 1) 0).set B.length v = B ++ [v] ++ List.replicate m 0 := by
  rw [List.set_append_right _ _ (Nat.le_refl _), Nat.sub_self, List.replicate_succ, List.set_cons_zero]; simp
theorem baseF_len (t S : Int) (ws : List Int) : (baseF t S ws).length = ws.length := by simp [baseF]
theorem rangeI_len (n : Nat) : (rangeI n).length = n := by simp [rangeI]
theorem rangeI_succ (n : Nat) : rangeI (n + 1) = rangeI n ++ [(n : Int)] := by simp [rangeI, List.range_succ]
theorem rangeI_mem {n : Nat} {x : Int} (h : x ∈ rangeI n) : 0 ≤ x ∧ x < n := by
  simp only [rangeI, List.mem_map, List.mem_range] at h
  obtain ⟨i, hi, rfl⟩ := h
  simp; omega
theorem base1_bd {t S x : Int} (ht : 0 ≤ t ∧ t ≤ 100000000) (hS : 1 ≤ S) (hx : 1 ≤ x ∧ x ≤ 1000) : 0 ≤ t * x ∧ t * x ≤ 100000000000 ∧ 0 ≤ t * x / S ∧ t * x / S ≤ 100000000000 := by
  have p1 : 0 ≤ t * x := Int.mul_nonneg ht.1 (by omega)
  have p2 : t * x ≤ 100000000000 := by have := Int.mul_le_mul ht.2 hx.2 (by omega) (by omega); omega
  have p3 : 0 ≤ t * x / S := Int.ediv_nonneg p1 (by omega)
  have p4 : t * x / S ≤ t * x := Int.ediv_le_self S p1
  exact ⟨p1, p2, p3, by omega⟩
theorem baseF_bd {t S : Int} (ht : 0 ≤ t ∧ t ≤ 100000000) (hS : 1 ≤ S) : ∀ {ws : List Int}, (∀ x ∈ ws, 1 ≤ x ∧ x ≤ 1000) → (∀ y ∈ baseF t S ws, 0 ≤ y ∧ y ≤ 100000000000) ∧ 0 ≤ (baseF t S ws).sum ∧ (baseF t S ws).sum ≤ 100000000000 * ws.length
  | [], _ => by simp [baseF]
  | x :: r, h => by
    have ih := baseF_bd ht hS (ws := r) (fun y hy => h y (by simp [hy]))
    obtain ⟨_, _, p3, p4⟩ := base1_bd ht hS (h x (by simp))
    refine ⟨?_, ?_, ?_⟩
    · intro y hy
      simp only [baseF, List.map_cons, List.mem_cons] at hy
      rcases hy with rfl | hy
      · exact ⟨p3, p4⟩
      · exact ih.1 y hy
    · simp only [baseF, List.map_cons, List.sum_cons] at ih ⊢; omega
    · simp only [baseF, List.map_cons, List.sum_cons, List.length_cons] at ih ⊢; omega
theorem bump_step (ps is : List Int) (k : Nat) (x : Int) (h : is[k]? = some x) : bump ps (is.take (k + 1)) = bump1 (bump ps (is.take k)) x := by
  unfold bump; rw [take_step h, List.foldl_append]; rfl
theorem bump1_len (ps : List Int) (i : Int) : (bump1 ps i).length = ps.length := by simp [bump1]
theorem bump_len (ps : List Int) : ∀ is : List Int, (bump ps is).length = ps.length := by
  intro is
  induction is generalizing ps with
  | nil => rfl
  | cons x r ih => unfold bump at ih ⊢; rw [List.foldl_cons, ih, bump1_len]

theorem iv_at {B : List Int} {k : Nat} {x : Int} (h : B[k]? = some x) : (B.map iv).toArray[k]? = some (.int .i64 x) := by
  simp [h, iv]
theorem iv_set {B : List Int} {k : Nat} (v : Int) : (B.map iv).toArray.setIfInBounds k (.int .i64 v) = ((B.set k v).map iv).toArray := by
  rw [List.setIfInBounds_toArray, List.map_set]; rfl
theorem bump_bd (B : Int) : ∀ (is ps : List Int), (∀ y ∈ ps, 0 ≤ y ∧ y ≤ B) → ∀ y ∈ bump ps is, 0 ≤ y ∧ y ≤ B + is.length
  | [], ps, h => by simpa [bump] using h
  | i :: r, ps, h => by
    have h1 : ∀ y ∈ bump1 ps i, 0 ≤ y ∧ y ≤ B + 1 := by
      intro y hy
      unfold bump1 at hy
      rcases List.mem_or_eq_of_mem_set hy with hy | rfl
      · have := h y hy; omega
      · rw [List.getD_eq_getElem?_getD]
        cases he : ps[i.toNat]? with
        | none => 
          simp
          cases ps with
          | nil => simp at hy
          | cons q l => have := h q (by simp); omega
        | some q => have := h q (List.mem_of_getElem? he); simp; omega
    intro y hy
    have := bump_bd (B + 1) r (bump1 ps i) h1 y hy
    rw [List.length_cons]; push_cast; omega
theorem iv_inE (xs : List Int) : xs.map iv = xs.flatMap inE := by
  induction xs with
  | nil => rfl
  | cons x r ih => rw [List.map_cons, List.flatMap_cons, ih]; rfl
theorem zero_at {B : List Int} {k m : Nat} (hB : B.length = k) : ((B ++ List.replicate (m + 1) (0 : Int)).map iv).toArray[k]? = some (.int .i64 0) := by
  subst hB
  simp [iv]
theorem zero_set {B : List Int} {k m : Nat} (hB : B.length = k) (v : Int) : ((B ++ List.replicate (m + 1) (0 : Int)).map iv).toArray.setIfInBounds k (.int .i64 v) = ((B ++ [v] ++ List.replicate m 0).map iv).toArray := by
  subst hB
  rw [List.setIfInBounds_toArray, ← set_zeros B m v, List.map_set]; rfl
theorem two_a {W : World} {g k m : Nat} {t : TypeId} {B : List Int} (h : Box W g t ((B ++ List.replicate (m + 1) (0 : Int)).map iv).toArray) (hB : B.length = k) (v : Int) (u : Value) :
    Box ((W.setCell ⟨g, k, none⟩ (.int .i64 v)).setCell ⟨g + 1, k, none⟩ u) g t ((B ++ [v] ++ List.replicate m 0).map iv).toArray := by
  have h2 := (h.set_ k (.int .i64 v)).far (p := ⟨g + 1, k, none⟩) (by simp) u
  rw [zero_set hB] at h2
  exact h2
theorem two_b {W : World} {g k m : Nat} {t : TypeId} {B : List Int} (h : Box W (g + 1) t ((B ++ List.replicate (m + 1) (0 : Int)).map iv).toArray) (hB : B.length = k) (v : Int) (u : Value) :
    Box ((W.setCell ⟨g, k, none⟩ u).setCell ⟨g + 1, k, none⟩ (.int .i64 v)) (g + 1) t ((B ++ [v] ++ List.replicate m 0).map iv).toArray := by
  have h2 := (h.far (p := ⟨g, k, none⟩) (by simp) u).set_ k (.int .i64 v)
  rw [zero_set hB] at h2
  exact h2
theorem baseF_snoc {t S : Int} {ws : List Int} {k : Nat} {x : Int} (h : ws[k]? = some x) : baseF t S (ws.take (k + 1)) = baseF t S (ws.take k) ++ [t * x / S] := by
  unfold baseF; rw [take_step h, List.map_append]; rfl

set_option maxRecDepth 100000 in
set_option maxHeartbeats 8000000 in
theorem pshare_any (t : Int) (A : Option Addr) (n c : Nat) (ws : List Int) (w : World) (hs : Is w w.heap.size A n c ws) (hv : WsV t ws) :
    Calls Try.prog 38 #[.int .i64 t, .slice A n c] w fun e w' => ∃ v, e = .returned (.tuple #[v, .int .i64 0]) ∧ w'.ownsRow w.heap.size 3 1 v ws.length ((shareF t ws).flatMap inE) ∧ Below w.heap.size w w' := by
  obtain rfl := hs.len
  have hbig := hs.big
  have hle := hs.le
  obtain ⟨S, hS⟩ : ∃ S, S = ws.sum := ⟨_, rfl⟩
  have hSb := hv.S
  rw [← hS] at hSb
  obtain ⟨sb1, sb2⟩ := hSb
  have hm := fun W => mrightS_any t W
  rw [show mnyS t = true from by simp [mnyS, hv.t0, hv.t1]] at hm
  have HM := hide hm
  have HV := hide hv
  have n0 := hv.n0
  have n1 := hv.n1
  have hsl : ∀ W, Below w.heap.size w W → Is W w.heap.size A ws.length c ws := fun W hW => hs.below hW
  have HSL := hide hsl
  obtain ⟨W1, hW1⟩ : ∃ W1, W1 = ((w.alloc (.cells #[.int .i64 t] 3)).alloc (.cells #[.slice A ws.length c] 41)).alloc (.cells #[.int .i64 0] 3) := ⟨_, rfl⟩
  have B1 : Below w.heap.size w W1 := by
    rw [hW1]; exact (((Below.refl w.heap.size w).alloc (Nat.le_refl _) _).alloc (by simp) _).alloc (by simp; omega) _
  have X0 : Box W1 w.heap.size 3 #[.int .i64 t] := by rw [hW1]; exact ((Box.new w _ _).alloc _).alloc _
  have X1 : Box W1 (w.heap.size + 1) 41 #[.slice A ws.length c] := by
    have h := ((Box.new (w.alloc (.cells #[.int .i64 t] 3)) 41 #[.slice A ws.length c]).alloc (.cells #[.int .i64 0] 3))
    rw [World.size_alloc] at h; rw [hW1]; exact h
  have X2 : Box W1 (w.heap.size + 2) 3 #[.int .i64 0] := by
    have h := Box.new ((w.alloc (.cells #[.int .i64 t] 3)).alloc (.cells #[.slice A ws.length c] 41)) 3 #[.int .i64 0]
    simp only [World.size_alloc] at h; rw [hW1]; exact h
  have hz1 : W1.heap.size = w.heap.size + 3 := by rw [hW1]; simp
  have HB1 := hide B1
  have HX0 := hide X0
  have HX1 := hide X1
  have HX2 := hide X2
  have HZ1 := hide hz1
  have HW1 := hide hW1
  have HS := hide hS
  clear hs hv hm hsl hS B1 X0 X1 X2 hz1 hW1
  go_enter Try.func38, Try.ntmps38
  go_wp2
  rw [← HW1.out]
  go_loopw [18] (fun s18 wr => ∃ k : Nat, k ≤ ws.length ∧ s18 = .int .i64 k ∧ Below (w.heap.size + 2) W1 wr ∧ Box wr (w.heap.size + 2) 3 #[.int .i64 (ws.take k).sum]) (fun s18 _ => ws.length - (intOf s18).toNat)
  case atStart => exact ⟨0, Nat.zero_le _, rfl, Below.refl _ _, HX2.out⟩
  case round =>
    obtain ⟨k, hk, rfl, hb, hx⟩ := hrel
    have BR := hide hb
    have BX := hide hx
    have hzr := hb.size
    have q2 := hx.cell 0
    have f2 := hx.frz 0
    simp at q2
    obtain ⟨tb1, tb2⟩ := sum_take_bd HV.out.w k
    have hsb := HB1.out.trans (hb.mono (by omega))
    have HSB := hide hsb
    clear hb hx hsb HX2 HW1
    by_cases hlt : k < ws.length
    · obtain ⟨b, off, x, rfl, hbB, hx, c0⟩ := Is_at (HSL.out _ HSB.out) hlt
      have hxb := HV.out.w x (List.mem_of_getElem? hx)
      obtain ⟨xb1, xb2⟩ := hxb
      have hst := sum_step hx
      have HST := hide hst
      generalize hq : (ws.take k).sum = q at q2 tb1 tb2 hst
      have HQ := hide hq
      have tb3 : q ≤ 16000 := by omega
      have tb4 : q + x ≤ 16000 := by
        have h1 := sum_take_bd HV.out.w (k + 1)
        rw [hst] at h1
        omega
      clear hx hst hq tb2
      go_wp2
      go_roundw
      case rel =>
        refine ⟨k + 1, by omega, by go_num, BR.out.setCell (Nat.le_refl _) _, ?_⟩
        rw [HST.out, HQ.out]
        exact BX.out.set_ 0 _
      case measure => simp [intOf]; omega
    · obtain rfl : k = ws.length := by omega
      rw [List.take_length, ← HS.out] at q2
      have q0 := (HX0.out.below BR.out (by omega)).cell 0
      have q1 := (HX1.out.below BR.out (by omega)).cell 0
      simp at q0 q1
      have hS0 : (S == 0) = false := by simp; omega
      have hzz : W1.heap.size ≤ wr.heap.size := hzr
      have hmk := fun w => run_make_row' 41 3 (.int .i64 0) 8 Try.underlying41 int_info rfl .i64 .i64 ws.length (by omega) (by omega) w
      have G0 := hide (HSB.out)
      have hz0 : W1.heap.size ≤ wr.heap.size := hzr
      obtain ⟨W3, hW3⟩ : ∃ W3, W3 = (wr.alloc (.cells (madeCells #[Value.int .i64 0] ws.length) 3)).alloc (.cells (madeCells #[Value.int .i64 0] ws.length) 3) := ⟨_, rfl⟩
      have B3 : Below wr.heap.size wr W3 := by rw [hW3]; exact ((Below.refl _ wr).alloc (Nat.le_refl _) _).alloc (by simp) _
      have Y1 : Box W3 wr.heap.size 3 ((List.replicate ws.length (0 : Int)).map iv).toArray := by
        rw [hW3, ← made_zeros]; exact (Box.new wr _ _).alloc _
      have Y2 : Box W3 (wr.heap.size + 1) 3 ((List.replicate ws.length (0 : Int)).map iv).toArray := by
        have h := Box.new (wr.alloc (.cells (madeCells #[Value.int .i64 0] ws.length) 3)) 3 (madeCells #[Value.int .i64 0] ws.length)
        rw [World.size_alloc] at h
        rw [hW3]
        rw [made_zeros] at h ⊢
        exact h
      have HB3 := hide B3
      have HY1 := hide Y1
      have HY2 := hide Y2
      have HW3 := hide hW3
      have h16 : ¬ (16 : Int) < (ws.length : Int) := by omega
      have h1n : ¬ (ws.length : Int) < 1 := by omega
      clear B3 Y1 Y2 hW3
      have hz1 := HZ1.out
      have c0 := hide (show ∀ W, Below wr.heap.size wr W → W.cell? ⟨w.heap.size, 0, none⟩ = some (.int .i64 t) ∧ W.cell? ⟨w.heap.size + 1, 0, none⟩ = some (.slice A ws.length c) ∧ W.cell? ⟨w.heap.size + 2, 0, none⟩ = some (.int .i64 S) from fun W hW =>
        ⟨(hW.cell (p := ⟨w.heap.size, 0, none⟩) (show w.heap.size < wr.heap.size by omega)).trans q0, (hW.cell (p := ⟨w.heap.size + 1, 0, none⟩) (show w.heap.size + 1 < wr.heap.size by omega)).trans q1, (hW.cell (p := ⟨w.heap.size + 2, 0, none⟩) (show w.heap.size + 2 < wr.heap.size by omega)).trans q2⟩)
      go_wp2_with fail
      refine (HM.out _).mono ?_
      rintro e w2 ⟨rfl, rfl⟩
      have e0 : w.heap.size < wr.heap.size := by omega
      have e1 : w.heap.size + 1 < wr.heap.size := by omega
      go_wp2
      rw [← HW3.out]
      clear HW3 hmk q0 q1 q2 f2 tb1 tb2
      obtain ⟨g, hg⟩ : ∃ g, g = wr.heap.size := ⟨_, rfl⟩
      have HG := hide hg
      clear hg
      go_loopw [11, 60] (fun s11 s60 wl => ∃ (k : Nat) (z : Int), k ≤ ws.length ∧ s60 = .int .i64 k ∧ s11 = .int .i64 z ∧ z = t - (baseF t S (ws.take k)).sum ∧ Below wr.heap.size wr wl ∧
        Box wl wr.heap.size 3 ((baseF t S (ws.take k) ++ List.replicate (ws.length - k) 0).map iv).toArray ∧ Box wl (wr.heap.size + 1) 3 ((rangeI k ++ List.replicate (ws.length - k) 0).map iv).toArray) (fun _ s60 _ => ws.length - (intOf s60).toNat)
      case atStart => exact ⟨0, t, Nat.zero_le _, by go_num, rfl, by simp [baseF], HB3.out, by simpa [baseF] using HY1.out, by simpa [rangeI] using HY2.out⟩
      case round =>
        obtain ⟨k, z, hk, rfl, rfl, h11, hb, hx1, hx2⟩ := hrel
        have BL := hide hb
        have BX1 := hide hx1
        have BX2 := hide hx2
        obtain ⟨q0, q1, q2⟩ := c0.out _ hb
        have hzl := hb.size
        have hsb := G0.out.trans (hb.mono (by omega))
        have HSB2 := hide hsb
        clear hb hsb HY1 HY2 HB3
        obtain ⟨t0, t1⟩ : 0 ≤ t ∧ t ≤ 100000000 := ⟨HV.out.t0, HV.out.t1⟩
        by_cases hlt : k < ws.length
        · obtain ⟨b, off, x, hAe, hbB, hx, cx⟩ := Is_at (HSL.out _ HSB2.out) hlt
          subst hAe
          subst h11
          obtain ⟨m, hm⟩ : ∃ m, ws.length = k + 1 + m := ⟨ws.length - k - 1, by omega⟩
          obtain ⟨p1, p2, p3, p4⟩ := base1_bd ⟨t0, t1⟩ sb1 (HV.out.w x (List.mem_of_getElem? hx))
          have wx : IntKind.i64.wrap (t * x) = t * x := by rw [IntKind.wrap_i64]; omega
          have dx : (t * x).tdiv S = t * x / S := Int.tdiv_eq_ediv_of_nonneg p1
          have hst := baseF_step (t := t) (S := S) hx
          have hsn := baseF_snoc (t := t) (S := S) hx
          obtain ⟨_, v1, v2⟩ := baseF_bd (t := t) (S := S) ⟨t0, t1⟩ sb1 (ws := ws.take k) (fun y hy => HV.out.w y (List.mem_of_mem_take hy))
          have hl : (ws.take k).length = k := by rw [List.length_take]; omega
          have hbl : (baseF t S (ws.take k)).length = k := by rw [baseF_len, hl]
          rw [hl] at v2
          have em : ws.length - k = m + 1 := by omega
          have em2 : ws.length - (k + 1) = m := by omega
          rw [em] at hx1 hx2
          have y1 := (hx1.cell k).trans (zero_at hbl)
          have y2 := (hx2.cell k).trans (zero_at (rangeI_len k))
          have f1 := hx1.frz k
          have f2 := hx2.frz k
          have HX1' := hide hx1
          have HX2' := hide hx2
          have HSN := hide hsn
          have HST := hide hst
          have HBL := hide hbl
          have HE2 := hide em2
          generalize hq : (baseF t S (ws.take k)).sum = q at v1 v2 hst ⊢
          have HQ := hide hq
          generalize hd : t * x / S = d at p3 p4 dx hst
          have HD := hide hd
          have wd : IntKind.i64.wrap d = d := by rw [IntKind.wrap_i64]; omega
          have w3 : IntKind.i64.wrap (t - q) = t - q := by rw [IntKind.wrap_i64]; omega
          have w4 : IntKind.i64.wrap (t - q - d) = t - q - d := by rw [IntKind.wrap_i64]; omega
          have hS0' : ¬ S = 0 := by omega
          have hkz : (k : Int) < (ws.length : Int) := by omega
          clear hx1 hx2 hsn hst hbl em em2 hq hd BX1 BX2 p1 p2 p3 p4 v1 v2 hl hx
          go_wp2_with fail
          go_roundw
          case rel =>
            refine ⟨k + 1, _, by omega, by go_num, rfl, ?_, ?_, ?_, ?_⟩
            · rw [HST.out, HQ.out, HD.out]; go_num
            · exact (BL.out.setCell (Nat.le_refl _) _).setCell (Nat.le_succ _) _
            · rw [HE2.out, HSN.out, HD.out]; exact two_a HX1'.out HBL.out _ _
            · rw [HE2.out, rangeI_succ]; exact two_b HX2'.out (rangeI_len k) _ _
          case measure => simp [intOf]; omega
        · obtain rfl : k = ws.length := by omega
          rw [List.take_length, Nat.sub_self, List.replicate_zero, List.append_nil] at hx1
          rw [Nat.sub_self, List.replicate_zero, List.append_nil] at hx2
          rw [List.take_length, HS.out] at h11
          rw [HS.out] at hx1
          obtain ⟨l1, l2⟩ := left_bd HV.out
          obtain ⟨L, hL⟩ := Int.eq_ofNat_of_zero_le l1
          have h11' : z = (L : Int) := by rw [h11, ← hL]; rfl
          rw [hL] at l2
          subst h11'
          have HLq := hide hL
          have HX1' := hide hx1
          have HX2' := hide hx2
          have eg : ∀ args w, (callFunc 47 args).run Try.prog w = .ok (.enter 47 args) w := fun args w => by kernel_rfl
          have hgo := HG.out
          have hgl : g < wr.heap.size := by rw [hgo]; exact hx1.lt
          have HSO : Hid (Calls Try.prog 46 #[.slice (some ⟨g + 1, 0, none⟩) ws.length ws.length, .func (.func 47) #[] #[.pointer (some ⟨w.heap.size, 0, none⟩), .pointer (some ⟨w.heap.size + 1, 0, none⟩), .pointer (some ⟨w.heap.size + 2, 0, none⟩)]] wr fun e w' => e = .returned (.tuple #[]) ∧ SWi wr (g + 1) (ordF t ws.sum ws) w') := by
            rw [← hgo] at hx2
            have h := stable_any 47 #[.pointer (some ⟨w.heap.size, 0, none⟩), .pointer (some ⟨w.heap.size + 1, 0, none⟩), .pointer (some ⟨w.heap.size + 2, 0, none⟩)] (cfS t ws.sum ws) (fun x => 0 ≤ x ∧ x < ws.length) (g + 1) ws.length (rangeI ws.length) wr wr eg ?_ ⟨hx2, Below.refl _ _⟩ (fun x hx => rangeI_mem hx) (by rw [rangeI_len]; exact Nat.le_refl _) (by rw [rangeI_len]; omega)
            · rw [rangeI_len] at h; exact h
            · intro W x y hx hy hW
              obtain ⟨d0, d1, d2⟩ := c0.out W (BL.out.trans (hW.mono (by omega)))
              have hWW : Below w.heap.size w W := HSB2.out.trans (hW.mono (by omega))
              rw [← HS.out]
              exact share1_any t S ws _ _ _ A ws.length c x y W d0 d1 d2 ((HSL.out W hWW).more hWW.size) ⟨t0, t1⟩ ⟨sb1, sb2⟩ HV.out.w hx hy
          clear hx1 hx2 BX1 BX2 h11 hL
          rw [hgo] at HSO
          rw [HLq.out] at l1
          clear eg hgl hgo
          go_wp2_with fail
          refine HSO.out.mono ?_
          rintro e w2 ⟨rfl, hs2⟩
          have HS2 := hide hs2
          obtain ⟨ord, ho⟩ : ∃ o, o = ordF t ws.sum ws := ⟨_, rfl⟩
          obtain ⟨ps0, hp0⟩ : ∃ p, p = baseF t ws.sum ws := ⟨_, rfl⟩
          have hol : ord.length = ws.length := by rw [ho]; unfold ordF; rw [isort_len, rangeI_len]
          have hpl : ps0.length = ws.length := by rw [hp0, baseF_len]
          have hom : ∀ x ∈ ord, 0 ≤ x ∧ x < ws.length := fun x hx => by rw [ho] at hx; exact rangeI_mem (isort_mem.mp hx)
          have hpb : ∀ y ∈ ps0, 0 ≤ y ∧ y ≤ 100000000000 := by rw [hp0, ← HS.out]; exact (baseF_bd ⟨t0, t1⟩ sb1 HV.out.w).1
          rw [← ho] at hs2
          rw [← hp0] at HX1'
          have gX1 := HX1'.out.below hs2.old (Nat.lt_succ_self _)
          have gX2 := hs2.box
          have gB := HSB2.out.trans (hs2.old.mono (by omega))
          have HsB := hide gB
          have HY1 := hide gX1
          have HY2 := hide gX2
          have HOM := hide hom
          have HPB := hide hpb
          have HOL := hide hol
          have HPL := hide hpl
          have HO := hide ho
          have HP0 := hide hp0
          have hLn : L ≤ ws.length := by omega
          have hLz : (L : Int) ≤ (ws.length : Int) := by omega
          clear hs2 HS2 gX1 gX2 gB hom hpb hol hpl ho hp0 HSO HX1' HX2' q0 q1 q2 hzl
          go_wp2_with fail
          go_loopw [91] (fun s91 wl => ∃ k : Nat, k ≤ L ∧ s91 = .int .i64 k ∧ Below w.heap.size w wl ∧ Box wl g 3 ((bump ps0 (ord.take k)).map iv).toArray ∧ Box wl (g + 1) 3 (ord.map iv).toArray) (fun s91 _ => L - (intOf s91).toNat)
          case atStart => exact ⟨0, Nat.zero_le _, rfl, HsB.out, by rw [HG.out]; exact HY1.out, by rw [HG.out]; exact HY2.out⟩
          case round =>
            obtain ⟨k, hk, rfl, hb, hx1, hx2⟩ := hrel
            have hg := HG.out
            subst hg
            have BQ := hide hb
            have HX1' := hide hx1
            have HX2' := hide hx2
            clear hb HY1 HY2 HsB
            by_cases hlt : k < L
            · have hko : k < ord.length := by have := HOL.out; omega
              obtain ⟨x, hx⟩ : ∃ x, ord[k]? = some x := ⟨ord[k], List.getElem?_eq_getElem hko⟩
              obtain ⟨x0, x1⟩ := HOM.out x (List.mem_of_getElem? hx)
              obtain ⟨i, rfl⟩ := Int.eq_ofNat_of_zero_le x0
              have hin : i < ws.length := by omega
              have hil : i < (bump ps0 (ord.take k)).length := by rw [bump_len, HPL.out]; exact hin
              obtain ⟨y, hy⟩ : ∃ y, (bump ps0 (ord.take k))[i]? = some y := ⟨_, List.getElem?_eq_getElem hil⟩
              obtain ⟨y0, y1⟩ := bump_bd 100000000000 (ord.take k) ps0 HPB.out y (List.mem_of_getElem? hy)
              have htl : (ord.take k).length = k := by rw [List.length_take]; omega
              rw [htl] at y1
              have c2 := (hx2.cell k).trans (iv_at hx)
              have c1 := (hx1.cell i).trans (iv_at hy)
              have f1 := hx1.frz i
              have hst : bump ps0 (ord.take (k + 1)) = (bump ps0 (ord.take k)).set i (y + 1) := by
                rw [bump_step _ _ _ _ hx]
                unfold bump1
                rw [Int.toNat_natCast, List.getD_eq_getElem?_getD, hy]; rfl
              have HST := hide hst
              have hwy : IntKind.i64.wrap (y + 1) = y + 1 := by rw [IntKind.wrap_i64]; omega
              clear hst hx hy hx1 hx2 hil hko htl x1
              go_wp2_with fail
              go_roundw
              case rel =>
                refine ⟨k + 1, by omega, by go_num, BQ.out.setCell (by simp only []; omega) _, ?_, HX2'.out.far (by simp) _⟩
                rw [HST.out, ← iv_set]
                exact HX1'.out.set_ i _
              case measure => simp [intOf]; omega
            · obtain rfl : k = L := by omega
              clear hx1 hx2
              go_wp2
              go_ret2
              refine ⟨_, rfl, ?_, BQ.out⟩
              have h := HX1'.out
              rw [HO.out, HP0.out] at h
              have e : shareF t ws = bump (baseF t ws.sum ws) ((ordF t ws.sum ws).take k) := by unfold shareF; rw [HLq.out]; rfl
              rw [← e] at h
              have hl : (shareF t ws).length = ws.length := by rw [e, bump_len, baseF_len]
              exact h.own (k := 1) (by have := HSB.out.size; omega) (Nat.le_refl _) (by have : ws.length ≤ 16 := n1; show ws.length ≤ maxLen; unfold maxLen; omega) (by simp [hl]) (by rw [iv_inE, List.take_of_length_le]; rw [flat_len inE_len, hl]; exact Nat.le_refl _)
end Go.Proofs.Ytdbanekjjibpbaa
