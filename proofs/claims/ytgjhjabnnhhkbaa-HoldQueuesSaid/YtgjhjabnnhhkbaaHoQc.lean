/- Walks: the laws HoldQueues, HoldPicks. -/
import Derived.Test.YtgjhjabnnhhkbaaHoQb
import Derived.Test.YtgjhjabnnhhkbaaHoLw
namespace Go.Proofs.Ytgjhjabnnhhkbaa
open Go.RowKit

theorem VldH.rk {xs : List Ho} (h : VldH xs) : ∀ x ∈ xs, 0 ≤ x.rnk ∧ x.rnk ≤ 9 := fun x hx => winB_iff.1 (chkH_M.1 (chkHs_ok _ _ h.chk x hx)).rnk
theorem VldH.ids {xs : List Ho} (h : VldH xs) : ∀ x ∈ xs, 1 ≤ x.id := fun x hx => by
  have h1 := (chkH_M.1 (chkHs_ok _ _ h.chk x hx)).b1
  unfold badH1 at h1
  rw [Bool.or_eq_false_iff, Bool.or_eq_false_iff, Bool.or_eq_false_iff] at h1
  have h2 : winB x.id 1 99999 = true := by simpa using h1.1.1.1
  exact (winB_iff.1 h2).1
theorem VldH.get {xs : List Ho} (h : VldH xs) : ∀ x ∈ xs, getH xs x.id = (x, true) := fun x hx => by
  rcases getH_cases xs x.id with ⟨_, _, h3⟩ | ⟨i, y, h1, h2, h3, h4, _⟩
  · have := h3 x hx; simp at this
  · obtain ⟨j, hj⟩ := List.mem_iff_getElem?.1 hx
    rcases Nat.lt_trichotomy i j with e | e | e
    · have := chkHs_lt _ _ h.chk i j y x e h2 hj; omega
    · subst e; rw [h2] at hj; rw [h4, Option.some.inj hj]
    · have := chkHs_lt _ _ h.chk j i x y e hj h2; omega
theorem expH_len (xs : List Ho) (day : Int) : (expH xs day).length ≤ xs.length := by
  unfold expH; rw [List.length_map]; exact List.length_filter_le _ _

set_option maxRecDepth 100000 in
set_option maxHeartbeats 4000000 in
theorem holdQueues_any (A : Option Addr) (n c : Nat) (xs : List Ho) (rcd id day : Int) (w : World) (hs : Hos w w.heap.size A n c xs) :
    LawH 4 #[.slice A n c, .int .i64 rcd, .int .i64 id, .int .i64 day] w := by
  unfold LawH
  obtain rfl := hs.len
  have hbig := hs.big
  have hle := hs.le
  have hsl : ∀ W, Below w.heap.size w W → Hos W W.heap.size A xs.length c xs := fun W hW => (hs.below hW).more hW.size
  have HV := hide (fun W (hW : Below w.heap.size w W) => hvalid_any A _ c xs W (hsl W hW))
  cases hv : validH xs with
  | false =>
    rw [hv] at HV
    clear hv hs hsl
    go_enter Try.func4, Try.ntmps4
    go_wp2_with fail
    refine (halive_any _).mono ?_
    rintro e w1 ⟨rfl, hb⟩
    have B1 := hide hb
    clear hb
    go_wp2_with fail
    refine (HV.out _ B1.out).mono ?_
    rintro e w2 ⟨rfl, hb⟩
    have B2 := hide (B1.out.trans (hb.mono B1.out.size))
    clear hb
    go_wp2
    go_ret
    exact ⟨rfl, B2.out⟩
  | true =>
    rw [hv] at HV
    obtain ⟨hV, h60⟩ := validH_of hv
    have hq1 := fun W (hW : Below w.heap.size w W) => hQueue_any A _ c xs (queH xs rcd day) rcd day W (hsl W hW) (queD_all hV.rk (by omega)) (by have := queH_len xs rcd day; omega)
    have hq2 := fun W (hW : Below w.heap.size w W) => rQueue_any A _ c xs rcd day W (hsl W hW) hV.rk (by omega)
    have hp1 := fun W (hW : Below w.heap.size w W) => hPosition_any A _ c xs (fun r => queH xs r day) id day W (hsl W hW) (fun r _ _ => queD_all hV.rk (by omega)) (fun r => by have := queH_len xs r day; omega)
    have hp2 := fun W (hW : Below w.heap.size w W) => rPosition_any A _ c xs id day W (hsl W hW) hV.rk (by omega)
    have he1 := fun W (hW : Below w.heap.size w W) => hExpired_any A _ c xs day W (hsl W hW) (by omega)
    have he2 := fun W (hW : Below w.heap.size w W) => rExpired_any A _ c xs day W (hsl W hW) (by omega)
    have hl1 : (idsH (queH xs rcd day)).length ≤ 140737488355328 := by unfold idsH; rw [List.length_map]; have := queH_len xs rcd day; omega
    have hl2 : (expH xs day).length ≤ 140737488355328 := by have := expH_len xs day; omega
    generalize idsH (queH xs rcd day) = is at hq1 hq2 hl1
    generalize posH xs (fun r => queH xs r day) id = p at hp1 hp2
    generalize expH xs day = es at he1 he2 hl2
    have HQ1 := hide hq1
    have HQ2 := hide hq2
    have HP1 := hide hp1
    have HP2 := hide hp2
    have HE1 := hide he1
    have HE2 := hide he2
    have HL1 := hide hl1
    have HL2 := hide hl2
    clear hv hs hsl hV hq1 hq2 hp1 hp2 he1 he2 hl1 hl2
    go_enter Try.func4, Try.ntmps4
    go_wp2_with fail
    refine (halive_any _).mono ?_
    rintro e w1 ⟨rfl, hb⟩
    have B1 := hide hb
    clear hb
    go_wp2_with fail
    refine (HV.out _ B1.out).mono ?_
    rintro e w2 ⟨rfl, hb⟩
    have B2 := hide (B1.out.trans (hb.mono B1.out.size))
    clear hb HV B1
    go_wp2_with fail
    refine (HQ1.out _ B2.out).mono ?_
    rintro e w3 ⟨v1, rfl, hown, hb⟩
    obtain ⟨A1, c1, e1, hs1⟩ := Ino_sl hown HL1.out
    subst e1
    have B3 := hide (B2.out.trans (hb.mono B2.out.size))
    have S1 := hide hs1
    clear hb hown hs1 HQ1 B2
    go_wp2_with fail
    refine (HQ2.out _ B3.out).mono ?_
    rintro e w4 ⟨v2, rfl, hown, hb⟩
    obtain ⟨A2, c2, e2, hs2⟩ := Ino_sl hown HL1.out
    subst e2
    have B4 := hide (B3.out.trans (hb.mono B3.out.size))
    have hi := ints_any A1 A2 is.length c1 is.length c2 is is w4 ((S1.out.below hb).more hb.size) hs2
    rw [decide_eq_true rfl] at hi
    have HI := hide hi
    clear hb hown hs2 HQ2 B3 S1 hi
    go_wp2_with fail
    refine (HI.out).mono ?_
    rintro e w5 ⟨rfl, hb⟩
    have B5 := hide (B4.out.trans (hb.mono B4.out.size))
    clear hb HI B4
    go_wp2_with fail
    refine (HP1.out _ B5.out).mono ?_
    rintro e w6 ⟨rfl, hb⟩
    have B6 := hide (B5.out.trans (hb.mono B5.out.size))
    clear hb HP1 B5
    go_wp2_with fail
    refine (HP2.out _ B6.out).mono ?_
    rintro e w7 ⟨rfl, hb⟩
    have B7 := hide (B6.out.trans (hb.mono B6.out.size))
    clear hb HP2 B6
    go_wp2_with fail
    refine (HE1.out _ B7.out).mono ?_
    rintro e w8 ⟨v1, rfl, hown, hb⟩
    obtain ⟨A3, c3, e1, hs1⟩ := Ino_sl hown HL2.out
    subst e1
    have B8 := hide (B7.out.trans (hb.mono B7.out.size))
    have S1 := hide hs1
    clear hb hown hs1 HE1 B7
    go_wp2_with fail
    refine (HE2.out _ B8.out).mono ?_
    rintro e w9 ⟨v2, rfl, hown, hb⟩
    obtain ⟨A4, c4, e2, hs2⟩ := Ino_sl hown HL2.out
    subst e2
    have B9 := hide (B8.out.trans (hb.mono B8.out.size))
    have hi := ints_any A3 A4 es.length c3 es.length c4 es es w9 ((S1.out.below hb).more hb.size) hs2
    rw [decide_eq_true rfl] at hi
    have HI := hide hi
    clear hb hown hs2 HE2 B8 S1 hi
    go_wp2_with fail
    refine (HI.out).mono ?_
    rintro e w10 ⟨rfl, hb⟩
    have B10 := hide (B9.out.trans (hb.mono B9.out.size))
    clear hb HI B9
    go_wp2
    go_ret
    exact ⟨rfl, B10.out⟩

set_option maxRecDepth 100000 in
set_option maxHeartbeats 4000000 in
theorem holdPicks_any (A : Option Addr) (n c : Nat) (xs : List Ho) (it rcd br day : Int) (v2 v3 v4 v5 v6 v7 v8 v9 : Value) (loc : Bool) (w : World) (hs : Hos w w.heap.size A n c xs) :
    LawH 5 #[.slice A n c, .agg #[.int .i64 it, .int .i64 rcd, v2, v3, v4, v5, v6, v7, v8, v9], .int .i64 br, .int .i64 day, .bool loc] w := by
  unfold LawH
  obtain rfl := hs.len
  have hbig := hs.big
  have hle := hs.le
  have hsl : ∀ W, Below w.heap.size w W → Hos W W.heap.size A xs.length c xs := fun W hW => (hs.below hW).more hW.size
  have HV := hide (fun W (hW : Below w.heap.size w W) => hvalid_any A _ c xs W (hsl W hW))
  have B0 := hide ((Below.refl w.heap.size w).alloc (Nat.le_refl _) (.cells #[.int .i64 it, .int .i64 rcd, v2, v3, v4, v5, v6, v7, v8, v9] 36))
  have X0 := hide (Box.new w 36 #[.int .i64 it, .int .i64 rcd, v2, v3, v4, v5, v6, v7, v8, v9])
  cases hv : validH xs with
  | false =>
    rw [hv] at HV
    clear hv hs hsl
    go_enter Try.func5, Try.ntmps5
    go_wp2_with fail
    refine (halive_any _).mono ?_
    rintro e w1 ⟨rfl, hb⟩
    have B1 := hide (B0.out.trans (hb.mono (by simp)))
    clear hb
    go_wp2_with fail
    refine wp_region_grn (by kernel_rfl) (by kernel_rfl) ?_
    repeat (go_big_quiet_step ((go_at_call 14; exact Calls_grn (HV.out _ (B1.out.trans ((Grn.h _).mono B1.out.size))))))
    refine wpQuiet_nil ?_
    rintro _ ⟨p, rfl⟩
    have B2 := hide (B1.out.trans (p.h.mono B1.out.size))
    go_wp2
    go_ret
    exact ⟨rfl, B2.out⟩
  | true =>
    rw [hv] at HV
    obtain ⟨hV, h60⟩ := validH_of hv
    have hp1 := fun W (hW : Below w.heap.size w W) => hPick_any A _ c xs (queH xs rcd day) it rcd br day v2 v3 v4 v5 v6 v7 v8 v9 loc W (hsl W hW) (queD_all hV.rk (by omega)) (by have := queH_len xs rcd day; omega)
    have hp2 := fun W (hW : Below w.heap.size w W) => rPick_any A _ c xs it rcd br day v2 v3 v4 v5 v6 v7 v8 v9 loc W (hsl W hW) hV.rk (by omega) hV.get
    rw [pickR_eq (fun y hy => by have := hV.ids y (List.mem_filter.1 (isorth_mem.1 hy)).1; omega) (fun _ => rfl)] at hp2
    generalize pickF it br loc 0 (queH xs rcd day) = p at hp1 hp2
    have HP1 := hide hp1
    have HP2 := hide hp2
    clear hv hs hsl hV hp1 hp2
    go_enter Try.func5, Try.ntmps5
    go_wp2_with fail
    refine (halive_any _).mono ?_
    rintro e w1 ⟨rfl, hb⟩
    have B1 := hide (B0.out.trans (hb.mono (by simp)))
    have X1 := hide (X0.out.below hb (by simp))
    clear hb
    have c0 := X1.out.cell 0
    have c1 := X1.out.cell 1
    have c2 := X1.out.cell 2
    have c3 := X1.out.cell 3
    have c4 := X1.out.cell 4
    have c5 := X1.out.cell 5
    have c6 := X1.out.cell 6
    have c7 := X1.out.cell 7
    have c8 := X1.out.cell 8
    have c9 := X1.out.cell 9
    simp at c0 c1 c2 c3 c4 c5 c6 c7 c8 c9
    have f0 := Grn.cell c0
    have f1 := Grn.cell c1
    have f2 := Grn.cell c2
    have f3 := Grn.cell c3
    have f4 := Grn.cell c4
    have f5 := Grn.cell c5
    have f6 := Grn.cell c6
    have f7 := Grn.cell c7
    have f8 := Grn.cell c8
    have f9 := Grn.cell c9
    go_wp2_with fail
    refine wp_region_grn (by kernel_rfl) (by kernel_rfl) ?_
    repeat (go_big_quiet_step (first | (go_at_call 14; exact Calls_grn (HV.out _ (B1.out.trans ((Grn.h _).mono B1.out.size)))) | (go_at_call 22; exact Calls_grn (HP1.out _ (B1.out.trans ((Grn.h _).mono B1.out.size)))) | (go_at_call 23; exact Calls_grn (HP2.out _ (B1.out.trans ((Grn.h _).mono B1.out.size))))))
    refine wpQuiet_nil ?_
    rintro _ ⟨p, rfl⟩
    have B2 := hide (B1.out.trans (p.h.mono B1.out.size))
    go_wp2
    go_ret
    exact ⟨rfl, B2.out⟩
end Go.Proofs.Ytgjhjabnnhhkbaa
