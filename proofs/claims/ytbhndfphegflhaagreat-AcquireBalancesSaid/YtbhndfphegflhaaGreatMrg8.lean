/- Texts laid together by merge.py: Step, OdH, OdR. -/
import Derived.Test.YtbhndfphegflhaaGreatMrg4
import Derived.Deep.RegionLaw
import Derived.Test.YtbhndfphegflhaaGreatMrg6
set_option linter.unusedSimpArgs false
set_option linter.unusedVariables false
/- An append of a list onto a row of the call's own, as a step of a region that draws; the rest of a slice. No program. -/
namespace Go.Proofs.YtbhndfphegflhaaGreat
open Go.RowKit

theorem step_append_sl {P : Program} {α : Type} {enc : α → List Value} {k : Nat} {ops : Array Oper} {o : Oper} {a : Act} {w : World} {K : Act → World → Prop} {Q : Exit → Act → World → Prop} {E : Prop}
    (hgd : o.guard = none) (s x : Operand) (t : TypeId)
    (ho : o.op = .call { callee := .builtin .append, args := #[s, x], argTypes := #[t, t] })
    (base : Nat) (e : TypeId) (i : TypeInfo) (z : Value) (bytes : Nat) (ht : P.underlying t = some (.slice e)) (hi : P.info? e = some i) (hz : i.zero = some z)
    (hsize : i.size = k) (hby : i.bytes = bytes) (hzs : z.cells.size = k) (hk0 : 0 < k) (hk : ∀ x, (enc x).length = k) (h1 : ∀ x, ∀ u ∈ enc x, u.oneCell' = true)
    (v : Value) (n : Nat) (ys : List Value) (hsv : a.eval s = v) (hown : w.ownsRow base e k v n ys)
    {B : Nat} (A : Option Addr) (m c : Nat) {xs : List α} (hx : a.eval x = .slice A m c) (hs : Sl enc k w B A m c xs)
    (hnm : n + m ≤ maxLen) (hbytes : (n + m) * bytes ≤ 140737488355328) (hbase : base ≤ w.heap.size)
    (h : ∀ v' w', w'.ownsRow base e k v' (n + m) (ys ++ xs.flatMap enc) → w.grownBy w' v.ownBlock → (v'.ownBlock = v.ownBlock ∨ v'.ownBlock = some w.heap.size) → K (a.put o.dst v') w') :
    if Region.wanted o (yielded ops a.tmps) = true then Oper.wp P o a w K Q else E := by
  have hw : Region.wanted o (yielded ops a.tmps) = true := by simp [Region.wanted, hgd]
  rw [if_pos hw]
  obtain ⟨v', w', hr, h2, h3, h4⟩ := run_append_sl (P := P) w base t o.type e i z bytes ht hi hz hsize hby hzs hk0 hk h1 v n ys hown hs hnm hbytes hbase
  unfold Oper.wp execOp
  simp only [ho, resolve, invoke, builtin, Sem.run_bind, Sem.run_pure, Result.andThen_ok, List.map_toArray, List.map_cons, List.map_nil, hsv, hx, hr]
  exact h v' w' h2 h3 h4

/-- The elements from i on: 's[i:]'. -/
theorem Sl.drop {α : Type} {enc : α → List Value} {k : Nat} {w : World} {B b off n c : Nat} {xs : List α} (h : Sl enc k w B (some ⟨b, off, none⟩) n c xs) {i : Nat} (hi : i ≤ n) (hn : 0 < n) :
    (c = i → Sl enc k w B (some ⟨b, off, none⟩) (n - i) (c - i) (xs.drop i)) ∧ (¬ c = i → Sl enc k w B (some ⟨b, off + i * k, none⟩) (n - i) (c - i) (xs.drop i)) := by
  have hle := h.le
  have hbig := h.big
  have hlen := h.len
  obtain ⟨b', off', hA, hb, hc⟩ := h.cells hn
  cases hA
  refine ⟨fun e => ⟨by rw [List.length_drop]; omega, by omega, by omega, (fun e => by cases e), fun h0 => by omega⟩, fun _ => ⟨by rw [List.length_drop]; omega, by omega, by omega, (fun e => by cases e), fun _ => ⟨b, off + i * k, rfl, hb, fun j x hx q u hu => ?_⟩⟩⟩
  rw [List.getElem?_drop] at hx
  have := hc (i + j) x hx q u hu
  rw [show off + i * k + j * k + q = off + (i + j) * k + q from by rw [Nat.add_mul]; omega]
  exact this
theorem Sl.empty {α : Type} {enc : α → List Value} {k : Nat} (w : World) (B : Nat) (A : Option Addr) (c : Nat) (h : A = none → c = 0) : Sl enc k w B A 0 c [] := ⟨rfl, by omega, by omega, h, fun h0 => by omega⟩
end Go.Proofs.YtbhndfphegflhaaGreat

/- Walks: put, the reference's with. -/
namespace Go.Proofs.YtbhndfphegflhaaGreat
open Go.RowKit

/-- What a change of orders hands back: the error and the orders. -/
def ResO (w : World) (r : Int × List Od) (e : Ending) (w' : World) : Prop :=
  ∃ A n c, e = .returned (.tuple #[.slice A n c, .int .i64 r.1]) ∧ Ods w' w'.heap.size A n c r.2 ∧ Below w.heap.size w w'
theorem ResO.nil {w w' : World} {er : Int} (h : Below w.heap.size w w') : ResO w (er, []) (.returned (.tuple #[.slice none 0 0, .int .i64 er])) w' := ⟨none, 0, 0, rfl, Sl.none_, h⟩
theorem od_sl1 {w : World} {g : Nat} {x : Od} (h : Box w g 35 (odC x)) : Ods w (g + 1) (some ⟨g, 0, none⟩) 1 1 [x] :=
  Sl.of_box (t := 35) odE_len (xs := [x]) (show Box w g 35 (([x] : List Od).flatMap odE).toArray from h) rfl (Nat.le_refl _) (by omega)

/-- put: a copy in which one element is replaced. -/
theorem oput_any (A : Option Addr) (n c i : Nat) (x : Od) (xs : List Od) (w : World) (hs : Ods w w.heap.size A n c xs) (hn : n ≤ 1000) (hi : i < n) :
    Calls Tryz.prog 126 #[.slice A n c, .int .i64 i, odV x] w fun e w' => ∃ v, e = .returned v ∧ Odo w' w.heap.size v (xs.set i x) ∧ Below w.heap.size w w' := by
  obtain rfl := hs.len
  have hcl := fun o => od_clone A xs.length c xs (w.alloc o) ((hs.alloc (Nat.le_refl _) o).more (by simp)) hn
  have HC := hide hcl
  clear hcl hs
  unfold odV
  go_enter Tryz.func126, Tryz.ntmps126
  go_wp2_with fail
  refine (HC.out _).mono ?_
  rintro e w1 ⟨v, rfl, hown, hb⟩
  obtain ⟨bx, r0, r1, r2, r3, r4, r5, r6, r7, r8, r9⟩ := od_box (x := x) (Box.new w 35 (odC x)) (hb.mono (by simp))
  rcases own_box hown with ⟨_, h0⟩ | ⟨g, cap, cur, rfl, hbg, hB, hnc, hcm, hcs, htk⟩
  · omega
  · have hcl : ∀ j, i * 10 ≤ j → j < (i + 1) * 10 → ∃ u, w1.cell? ⟨g, j, none⟩ = some u := fun j _ h2 => by
      rw [hB.cell, Array.getElem?_eq_getElem (by omega)]; exact ⟨_, rfl⟩
    obtain ⟨u0, q0⟩ := hcl (i * 10) (by omega) (by omega)
    obtain ⟨u1, q1⟩ := hcl (i * 10 + 1) (by omega) (by omega)
    obtain ⟨u2, q2⟩ := hcl (i * 10 + 2) (by omega) (by omega)
    obtain ⟨u3, q3⟩ := hcl (i * 10 + 3) (by omega) (by omega)
    obtain ⟨u4, q4⟩ := hcl (i * 10 + 4) (by omega) (by omega)
    obtain ⟨u5, q5⟩ := hcl (i * 10 + 5) (by omega) (by omega)
    obtain ⟨u6, q6⟩ := hcl (i * 10 + 6) (by omega) (by omega)
    obtain ⟨u7, q7⟩ := hcl (i * 10 + 7) (by omega) (by omega)
    obtain ⟨u8, q8⟩ := hcl (i * 10 + 8) (by omega) (by omega)
    obtain ⟨u9, q9⟩ := hcl (i * 10 + 9) (by omega) (by omega)
    have hfz := fun j => hB.frz j
    have HO := hide hown
    have hbg' : w.heap.size ≤ g := by simp at hbg; omega
    have hin : i < xs.length := hi
    clear bx hcl htk hcs hB hown
    go_wp2
    go_ret
    refine ⟨_, rfl, ?_, below_setCells hbg' (odE x) (i * 10) _ (below_call hb)⟩
    have := own_setk odE_len HO.out rfl hi x
    unfold Odo
    rw [List.length_set]
    exact own_base this (by simp)

/-- The orders in which x replaces those with its ID. -/
def withO (xs : List Od) (x : Od) : List Od := xs.map (fun y => if (y.id == x.id) = true then x else y)
theorem with_snoc {xs : List Od} {k : Nat} {x y : Od} (h : xs[k]? = some y) : withO (xs.take (k + 1)) x = withO (xs.take k) x ++ [if (y.id == x.id) = true then x else y] := by
  unfold withO
  rw [take_step h, List.map_append]; rfl

set_option maxHeartbeats 1000000 in
theorem rwith_any (A : Option Addr) (n c : Nat) (xs : List Od) (x : Od) (w : World) (hs : Ods w w.heap.size A n c xs) (hn : n ≤ 1000) :
    Calls Tryz.prog 127 #[.slice A n c, odV x] w fun e w' => ∃ v, e = .returned v ∧ Odo w' w.heap.size v (withO xs x) ∧ Below w.heap.size w w' := by
  obtain ⟨i0, hi, hz0, hz1, hz2⟩ := info_parts od_info
  obtain rfl := hs.len
  have hle := hs.le
  have hbig := hs.big
  have HS := hide hs
  have HI := hide (And.intro hi (And.intro hz0 (And.intro hz1 hz2)))
  have HBX := hide (Box.new w 35 (odC x))
  clear hs hi hz0 hz1 hz2
  unfold odV
  go_enter Tryz.func127, Tryz.ntmps127
  go_wp2
  go_loopw [5, 6] (fun v s6 wr => ∃ k : Nat, k ≤ xs.length ∧ s6 = .int .i64 k ∧ Odo wr (w.heap.size + 1) v (withO (xs.take k) x) ∧ Below (w.heap.size + 1) (w.alloc (.cells (odC x) 35)) wr) (fun _ s6 _ => xs.length - (intOf s6).toNat)
  case atStart => exact ⟨0, Nat.zero_le _, rfl, World.ownsRow_nil _ _ _ _, Below.refl _ _⟩
  case round =>
    obtain ⟨k, hk, rfl, ho, hb⟩ := hrel
    have hbw : Below w.heap.size w wr := below_call (o := .cells (odC x) 35) (by rw [World.size_alloc]; exact hb)
    have HO := hide ho
    have HB := hide hb
    have HBW := hide hbw
    have hz : w.heap.size + 1 ≤ wr.heap.size := by have := hb.size; simpa using this
    obtain ⟨_, d0, d1, d2, d3, d4, d5, d6, d7, d8, d9⟩ := od_box HBX.out hb
    clear ho hb hbw
    by_cases hlt : k < xs.length
    · obtain ⟨b, off, y, rfl, hbB, hy, c0, c1, c2, c3, c4, c5, c6, c7, c8, c9⟩ := Ods_at (HS.out.below HBW.out) hlt
      have hst := with_snoc (x := x) hy
      have hlen : (withO (xs.take k) x).length = k := by unfold withO; rw [List.length_map, List.length_take]; omega
      have HLEN := hide hlen
      have hsrc : ∀ w' z g, Box w' g 35 (odC z) → Ods w' (g + 1) (some ⟨g, 0, none⟩) 1 1 [z] := fun w' z g h => od_sl1 h
      have HSRC := hide hsrc
      have hown2 : ∀ m o, ((wr.drewN m).alloc o).ownsRow (w.heap.size + 1) 35 10 u5 (withO (xs.take k) x).length ((withO (xs.take k) x).flatMap odE) := fun m o => (show (wr.drewN m).ownsRow _ _ _ _ _ _ from HO.out).alloc o
      have HO2 := hide hown2
      have HBD := hide (fun m => below_drewN HB.out m)
      by_cases hp : (y.id == x.id) = true
      · rw [if_pos hp] at hst
        have HST := hide hst
        clear hy hst hsrc hown2 hlen
        go_wp2_with fail
        go_quiet (fail)
        go_wp2_with (at_builtin; go_must (refine wpList_append_sl _ rfl _ _ 23 rfl (w.heap.size + 1) 35 i0 _ 96 Tryz.underlying23 HI.out.1 HI.out.2.1 HI.out.2.2.1 HI.out.2.2.2 rfl (by decide) odE_len odE_one _ _ _ rfl (HO2.out _ _) _ 1 1 rfl (HSRC.out _ x _ (Box.new _ _ _)) (by rw [HLEN.out]; unfold maxLen; omega) (by rw [HLEN.out]; omega) (by simp; omega) ?_))
        intro v' w1 hown hg hat
        have H1 := hide hown
        have H2 := hide (((HBD.out _).alloc (by simpa using hz) _).grown hg (by simp; omega) (by intro q hq; exact (HO.out.lt q hq).1))
        clear hown hg hat
        go_wp2
        go_roundw
        case rel =>
          refine ⟨k + 1, by omega, by go_num, ?_, H2.out⟩
          unfold Odo
          rw [HST.out, List.flatMap_append, List.length_append]
          exact H1.out
        case measure => simp [intOf]; omega
      · have hpf : (y.id == x.id) = false := by simpa using hp
        rw [if_neg hp] at hst
        have HST := hide hst
        clear hy hst hsrc hown2 hlen hp
        go_wp2_with fail
        go_quiet (fail)
        go_wp2_with (at_builtin; go_must (refine wpList_append_sl _ rfl _ _ 23 rfl (w.heap.size + 1) 35 i0 _ 96 Tryz.underlying23 HI.out.1 HI.out.2.1 HI.out.2.2.1 HI.out.2.2.2 rfl (by decide) odE_len odE_one _ _ _ rfl (HO2.out _ _) _ 1 1 rfl (HSRC.out _ y _ (Box.new _ _ _)) (by rw [HLEN.out]; unfold maxLen; omega) (by rw [HLEN.out]; omega) (by simp; omega) ?_))
        intro v' w1 hown hg hat
        have H1 := hide hown
        have H2 := hide (((HBD.out _).alloc (by simpa using hz) _).grown hg (by simp; omega) (by intro q hq; exact (HO.out.lt q hq).1))
        clear hown hg hat
        go_wp2
        go_roundw
        case rel =>
          refine ⟨k + 1, by omega, by go_num, ?_, H2.out⟩
          unfold Odo
          rw [HST.out, List.flatMap_append, List.length_append]
          exact H1.out
        case measure => simp [intOf]; omega
    · go_wp2
      go_ret
      refine ⟨u5, rfl, ?_, HBW.out⟩
      have := HO.out
      rw [List.take_of_length_le (by omega)] at this
      exact own_base this (by omega)
end Go.Proofs.YtbhndfphegflhaaGreat

/- Plain laws on orders. No walk. -/
namespace Go.Proofs.YtbhndfphegflhaaGreat

theorem chkOs_ok : ∀ (xs : List Od) (p : Option Int), chkOs p xs = 0 → ∀ x ∈ xs, chkO x = 0
  | [], _, _, x, hx => by simp at hx
  | y :: r, p, h, x, hx => by
    rw [chkOs] at h
    split at h
    · simp at h
    · split at h
      · rename_i hb; rw [h] at hb; simp at hb
      · rename_i hb
        rcases List.mem_cons.1 hx with rfl | hx
        · simpa using hb
        · exact chkOs_ok r _ h x hx
theorem chkOs_gt : ∀ (xs : List Od) (q : Int), chkOs (some q) xs = 0 → ∀ x ∈ xs, q < x.id
  | [], _, _, x, hx => by simp at hx
  | y :: r, q, h, x, hx => by
    rw [chkOs] at h
    split at h
    · simp at h
    · rename_i h1
      have hy : q < y.id := by simpa using h1
      split at h
      · rename_i hb; rw [h] at hb; simp at hb
      · rcases List.mem_cons.1 hx with rfl | hx
        · exact hy
        · have := chkOs_gt r _ h x hx; omega
theorem chkOs_tail {x : Od} {r : List Od} {p : Option Int} (h : chkOs p (x :: r) = 0) : chkOs (some x.id) r = 0 := by
  rw [chkOs] at h
  split at h
  · simp at h
  · split at h
    · rename_i hb; rw [h] at hb; simp at hb
    · exact h
theorem with_set : ∀ {xs : List Od} {p : Option Int}, chkOs p xs = 0 → ∀ {i : Nat} {x y : Od}, xs[i]? = some x → y.id = x.id → withO xs y = xs.set i y
  | [], _, _, i, x, y, h, _ => by simp at h
  | z :: r, p, hc, 0, x, y, h, he => by
    simp at h; subst h
    have ht := chkOs_gt r _ (chkOs_tail hc)
    unfold withO
    rw [List.map_cons, List.set_cons_zero, if_pos (by simp [he])]
    congr 1
    conv => rhs; rw [← List.map_id r]
    refine List.map_congr_left (fun u hu => ?_)
    have := ht u hu
    rw [if_neg (by simp; omega)]; rfl
  | z :: r, p, hc, i + 1, x, y, h, he => by
    have ih := with_set (chkOs_tail hc) (i := i) (x := x) (y := y) (by simpa using h) he
    have ht := chkOs_gt r _ (chkOs_tail hc) x (List.mem_of_getElem? (i := i) (by simpa using h))
    unfold withO at ih ⊢
    rw [List.map_cons, List.set_cons_succ, ih, if_neg (by simp; omega)]

structure VldO (xs : List Od) : Prop where
  len : xs.length ≤ 64
  chk : chkOs none xs = 0
theorem VldO.of {xs : List Od} (h : rightO xs = 0) : VldO xs := by
  unfold rightO at h
  split at h
  · simp at h
  · exact ⟨by omega, h⟩
theorem VldO.right {xs : List Od} (h : VldO xs) : rightO xs = 0 := by
  unfold rightO; rw [if_neg (by have := h.len; omega)]; exact h.chk
theorem VldO.M {xs : List Od} (h : VldO xs) : ∀ x ∈ xs, OdM x := fun x hx => (chkO_M (chkOs_ok xs none h.chk x hx)).1
theorem VldO.sh {xs : List Od} (h : VldO xs) : ∀ x ∈ xs, sharesV x.sh = true := fun x hx => (chkO_M (chkOs_ok xs none h.chk x hx)).2.2.2.1
theorem VldO.wi {xs : List Od} (h : VldO xs) : ∀ (i : Nat) (x y : Od), xs[i]? = some x → y.id = x.id → withO xs y = xs.set i y := fun _ _ _ hx he => with_set h.chk hx he

/-- The same shares, where they lie. -/
def SmSh (x y : Od) : Prop := x.shA = y.shA ∧ x.shn = y.shn ∧ x.shc = y.shc ∧ x.sh = y.sh
theorem SmSh.rfl {x : Od} : SmSh x x := ⟨Eq.refl _, Eq.refl _, Eq.refl _, Eq.refl _⟩
theorem SmSh.od {x y : Od} (h : SmSh x y) {w : World} {B : Nat} (hy : OdS w B y) : OdS w B x := by
  obtain ⟨h1, h2, h3, h4⟩ := h
  unfold OdS
  rw [h1, h2, h3, h4]; exact hy
theorem set_mem {α : Type} {xs : List α} {i : Nat} {y z : α} (h : z ∈ xs.set i y) : z = y ∨ z ∈ xs := by
  rcases List.mem_or_eq_of_mem_set h with h | h
  · exact .inr h
  · exact .inl h
theorem getO_mem {xs : List Od} {id : Int} (h : atO xs id ≠ -1) : (getO xs id).1 ∈ xs := by
  rcases getO_cases xs id with ⟨h1, _⟩ | ⟨i, x, _, h2, _, h4, _⟩
  · exact absurd h1 h
  · rw [h4]; exact List.mem_of_getElem? h2
theorem opO_mem {xs : List Od} {id : Int} {er : Od → Int} {g : Od → Od} (hg : ∀ x, SmSh (g x) x) : ∀ z ∈ (opO xs id er g).2, ∃ x ∈ xs, SmSh z x := by
  unfold opO
  split
  · intro z hz; simp at hz
  · rename_i h1
    split
    · intro z hz
      rcases set_mem hz with rfl | hz
      · exact ⟨_, getO_mem h1, hg _⟩
      · exact ⟨z, hz, SmSh.rfl⟩
    · intro z hz; simp at hz
theorem receiveO_mem {xs : List Od} {id m : Int} : ∀ z ∈ (receiveO xs id m).2, ∃ x ∈ xs, SmSh z x := opO_mem (fun _ => ⟨Eq.refl _, Eq.refl _, Eq.refl _, Eq.refl _⟩)
theorem stopO_mem {xs : List Od} {id : Int} : ∀ z ∈ (stopO xs id).2, ∃ x ∈ xs, SmSh z x := opO_mem (fun _ => ⟨Eq.refl _, Eq.refl _, Eq.refl _, Eq.refl _⟩)
theorem billO_mem {xs : List Od} {b : Bl} : ∀ z ∈ (billO xs b).2, ∃ x ∈ xs, SmSh z x := opO_mem (fun _ => ⟨Eq.refl _, Eq.refl _, Eq.refl _, Eq.refl _⟩)
theorem placeO_mem {xs : List Od} {x : Od} : ∀ z ∈ (placeO xs x).2, z ∈ xs ∨ z = x := by
  unfold placeO
  split
  · split
    · intro z hz
      rcases List.mem_append.1 hz with h | h
      · exact .inl h
      · exact .inr (List.mem_singleton.1 h)
    · intro z hz; simp at hz
  · intro z hz; simp at hz

/-! ### what the changes keep -/
theorem chkO_of {x : Od} (h1 : bad1 x = false) (h2 : OdM x) (h3 : 1 ≤ x.st ∧ x.st ≤ 3) (h4 : sharesV x.sh = true) (h5 : bad4 x = false) : chkO x = 0 := by
  have b2 : bad2 x = false := by
    unfold bad2
    rw [winB_iff.2 h2.rcv, winB_iff.2 h2.bil, winB_iff.2 h2.paid]; rfl
  have b3 : bad3 x = false := by unfold bad3; rw [winB_iff.2 h3, h4]; rfl
  unfold chkO
  rw [h1, b2, b3, h5]; rfl
theorem bad4_iff {x : Od} : bad4 x = false ↔ (x.st = 2 ↔ x.bil = x.cop) := by
  unfold bad4
  have e1 : (x.st == 2) = decide (x.st = 2) := rfl
  have e2 : (x.bil == x.cop) = decide (x.bil = x.cop) := rfl
  rw [e1, e2]
  by_cases h1 : x.st = 2 <;> by_cases h2 : x.bil = x.cop <;> simp [h1, h2]
theorem rcv_ok {x : Od} {n : Int} (h : chkO x = 0) (he : rcvE n x = 0) : chkO (rcvF n x) = 0 ∧ resvO (rcvF n x) = resvO x := by
  obtain ⟨hM, b1, b3, b4, b5⟩ := chkO_M h
  have hn : 1 ≤ n ∧ x.st = 1 ∧ n ≤ x.cop - x.rcv := by
    unfold rcvE at he
    split at he
    · cases he
    · split at he
      · rename_i h1 h2; omega
      · cases he
  have hr := hM.rcv
  have hb := hM.bil
  refine ⟨chkO_of b1 ⟨hM.id, hM.cop, hM.pri, ⟨by simp only [rcvF]; omega, by simp only [rcvF]; omega⟩, ⟨hb.1, by simp only [rcvF]; omega⟩, hM.paid⟩ b3 b4 ?_, ?_⟩
  · rw [bad4_iff] at b5 ⊢; exact b5
  · unfold resvO rcvF
    rw [if_pos hn.2.1, if_pos hn.2.1]
theorem stop_ok {x : Od} (h : chkO x = 0) (he : stopE x = 0) : chkO (stopF x) = 0 ∧ resvO (stopF x) = resvO x - (x.cop - x.rcv) * x.pri := by
  obtain ⟨hM, b1, b3, b4, b5⟩ := chkO_M h
  have hn : x.st = 1 := by
    unfold stopE at he
    split at he
    · assumption
    · cases he
  refine ⟨chkO_of b1 ⟨hM.id, hM.cop, hM.pri, hM.rcv, hM.bil, hM.paid⟩ ⟨by simp only [stopF]; omega, by simp only [stopF]; omega⟩ b4 ?_, ?_⟩
  · rw [bad4_iff] at b5 ⊢
    simp only [stopF]
    constructor
    · intro h; omega
    · intro h; have := b5.2 h; omega
  · unfold resvO stopF
    rw [if_pos hn]
    simp only
    rw [if_neg (by omega), if_pos trivial, ← Int.sub_mul]
    congr 1; omega
theorem billE_ok {b : Bl} {x : Od} (he : billE b x = 0) : x.ven = b.ven ∧ (1 ≤ b.cop ∧ b.cop ≤ x.rcv - x.bil) ∧ (1 ≤ b.amt ∧ x.paid + b.amt ≤ 100000000) := by
  unfold billE at he
  split at he
  · split at he
    · split at he
      · split at he
        · rename_i h1 h2 h3 h4; exact ⟨h1, ⟨h2.2.1, h3⟩, h2.2.2.1, h4⟩
        · cases he
      · cases he
    · cases he
  · cases he
theorem bill_ok {b : Bl} {x : Od} (h : chkO x = 0) (he : billE b x = 0) : chkO (billF b x) = 0 ∧ resvO (billF b x) = resvO x - b.cop * x.pri := by
  obtain ⟨hM, b1, b3, b4, b5⟩ := chkO_M h
  obtain ⟨_, ⟨c1, c2⟩, a1, a2⟩ := billE_ok he
  have hr := hM.rcv
  have hb := hM.bil
  have hp := hM.paid
  rw [bad4_iff] at b5
  have hne : ¬ x.bil = x.cop := by omega
  have hs2 : ¬ x.st = 2 := fun h => hne (b5.1 h)
  by_cases hc : x.bil + b.cop = x.cop
  · have e : billF b x = { x with bil := x.bil + b.cop, paid := x.paid + b.amt, st := 2 } := by unfold billF; rw [if_pos hc]
    rw [e]
    refine ⟨chkO_of b1 ⟨hM.id, hM.cop, hM.pri, hM.rcv, ⟨by simp only; omega, by simp only; omega⟩, ⟨by simp only; omega, by simp only; omega⟩⟩ ⟨by simp only; omega, by simp only; omega⟩ b4 (by rw [bad4_iff]; simp [hc]), ?_⟩
    unfold resvO
    simp only
    rw [if_neg (by omega), if_neg (by omega)]
    by_cases h1 : x.st = 1
    · rw [if_pos h1, ← Int.sub_mul, show x.cop - x.bil - b.cop = 0 by omega]; simp
    · rw [if_neg h1, if_pos (by omega), ← Int.sub_mul, show x.rcv - x.bil - b.cop = 0 by omega]; simp
  · have e : billF b x = { x with bil := x.bil + b.cop, paid := x.paid + b.amt } := by unfold billF; rw [if_neg hc]
    rw [e]
    refine ⟨chkO_of b1 ⟨hM.id, hM.cop, hM.pri, hM.rcv, ⟨by simp only; omega, by simp only; omega⟩, ⟨by simp only; omega, by simp only; omega⟩⟩ b3 b4 (by rw [bad4_iff]; simp only; exact ⟨fun h => absurd h hs2, fun h => absurd h hc⟩), ?_⟩
    unfold resvO
    simp only
    by_cases h1 : x.st = 1
    · rw [if_pos h1, if_pos h1, ← Int.sub_mul]; congr 1; omega
    · rw [if_neg h1, if_neg h1, if_pos (by omega), if_pos (by omega), ← Int.sub_mul]; congr 1; omega
theorem chkOs_set : ∀ {xs : List Od} {p : Option Int} {i : Nat} {x y : Od}, xs[i]? = some x → y.id = x.id → chkO y = 0 → chkOs p xs = 0 → chkOs p (xs.set i y) = 0
  | [], _, _, _, _, h, _, _, _ => by simp at h
  | z :: r, p, 0, x, y, h, he, hb, hc => by
    simp at h; subst h
    have ht := chkOs_tail hc
    rw [chkOs] at hc
    rw [List.set_cons_zero, chkOs, he]
    split at hc
    · simp at hc
    · rename_i h1
      rw [if_neg h1, if_neg (by rw [hb]; decide)]
      exact ht
  | z :: r, p, i + 1, x, y, h, he, hb, hc => by
    have ht := chkOs_tail hc
    rw [chkOs] at hc
    rw [List.set_cons_succ, chkOs]
    split at hc
    · simp at hc
    · rename_i h1
      rw [if_neg h1]
      split at hc
      · rename_i h2; rw [hc] at h2; simp at h2
      · rename_i h2
        rw [if_neg h2]
        exact chkOs_set (by simpa using h) he hb ht
theorem take_set_selfO {α : Type} : ∀ (xs : List α) (i : Nat) (y : α), (xs.set i y).take i = xs.take i
  | [], _, _ => rfl
  | _ :: _, 0, _ => rfl
  | x :: r, i + 1, y => by rw [List.set_cons_succ, List.take_succ_cons, List.take_succ_cons, take_set_selfO r i y]
theorem getO_at {xs : List Od} {id : Int} {i : Nat} {x : Od} (h : xs[i]? = some x) (hp : x.id = id) (ha : ∀ y ∈ xs.take i, (y.id == id) = false) : getO xs id = (x, true) := by
  have : xs.find? (fun x : Od => x.id == id) = some x := by
    obtain ⟨hi, rfl⟩ := List.getElem?_eq_some_iff.1 h
    rw [List.find?_eq_some_iff_append]
    exact ⟨by simpa using hp, xs.take i, xs.drop (i + 1), by rw [← List.drop_eq_getElem_cons hi, List.take_append_drop], fun y hy => by rw [ha y hy]; rfl⟩
  unfold getO; rw [this]
/-- What an operation does to valid orders. -/
theorem opO_cases {xs : List Od} (hv : VldO xs) (id : Int) {er : Od → Int} {g : Od → Od} (hid : ∀ x, (g x).id = x.id) (hk : ∀ x, chkO x = 0 → er x = 0 → chkO (g x) = 0) :
    ((opO xs id er g).1 ≠ 0 ∧ (opO xs id er g).2 = []) ∨
    ∃ x : Od, er x = 0 ∧ chkO x = 0 ∧ (opO xs id er g).1 = 0 ∧ getO xs id = (x, true) ∧ getO (opO xs id er g).2 id = (g x, true) ∧ rightO (opO xs id er g).2 = 0 ∧ (opO xs id er g).2.length = xs.length ∧ g x ∈ (opO xs id er g).2 := by
  rcases getO_cases xs id with ⟨h1, _⟩ | ⟨i, x, h1, h2, h3, h4, h5⟩
  · left; rw [opO_none h1]; simp
  · rw [opO_some h1 h4]
    by_cases he : er x = 0
    · right
      have hx := chkOs_ok xs none hv.chk x (List.mem_of_getElem? h2)
      have hi : i < xs.length := (List.getElem?_eq_some_iff.1 h2).1
      have hg : (xs.set i (g x))[i]? = some (g x) := by rw [List.getElem?_set, if_pos rfl, if_pos hi]
      rw [if_pos he]
      refine ⟨x, he, hx, rfl, h4, ?_, ?_, List.length_set, List.mem_of_getElem? hg⟩
      · exact getO_at hg (by rw [hid, h3]) (by rw [take_set_selfO]; exact h5)
      · exact VldO.right ⟨by rw [List.length_set]; exact hv.len, chkOs_set h2 (hid x) (hk x hx he) hv.chk⟩
    · left; rw [if_neg he]; exact ⟨he, rfl⟩
end Go.Proofs.YtbhndfphegflhaaGreat
