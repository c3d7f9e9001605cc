/- Texts laid together: SeS, SeIns, AqSa, AqSb, AqSc. -/
import Derived.Test.YtbhndfphegflhaaGreatMrg52
import Derived.Test.YtbhndfphegflhaaGreatMrg10
import Derived.Deep.RegionLaw
import Derived.Test.YtbhndfphegflhaaGreatMrg49
set_option linter.unusedSimpArgs false
set_option linter.unusedVariables false
/- Plain part of AcquireSerials at states: what stays where a row grows; the results. -/
namespace Go.Proofs.YtbhndfphegflhaaGreat
open Go.RowKit

section
variable {α : Type} {enc : α → List Value} {k : Nat} {w w' : World} {B n c : Nat} {A : Option Addr} {xs : List α}
theorem Sl.grownN (h : Sl enc k w B A n c xs) {row : Option Nat} (hg : w.grownBy w' row) (hB : B ≤ w.heap.size) (hn : ∀ g, row = some g → NotAt A n g) : Sl enc k w' B A n c xs :=
  ⟨h.len, h.le, h.big, h.nl, fun h0 => by
    obtain ⟨b, off, hA, hb, hc⟩ := h.cells h0
    refine ⟨b, off, hA, hb, fun i x hx j u hu => ?_⟩
    have hne : some b ≠ row := fun e => hn b e.symm b off hA h0 rfl
    have hbk := hg.block b (by omega) hne
    have h1 := hc i x hx j u hu
    have e : w'.cell? ⟨b, off + i * k + j, none⟩ = w.cell? ⟨b, off + i * k + j, none⟩ := by simp [World.cell?, hbk]
    rw [e]
    exact h1⟩
end
theorem SeS.grownN {w w' : World} {B : Nat} {s : Se} (h : SeS w B s) {row : Option Nat} (hg : w.grownBy w' row) (hB : B ≤ w.heap.size) (hn : ∀ g, row = some g → SeN s g) : SeS w' B s :=
  ⟨⟨h.pt.1.grownN hg hB (fun g e => (hn g e).1), h.pt.2.grownN hg hB (fun g e => (hn g e).2.1)⟩, h.iu.grownN hg hB (fun g e => (hn g e).2.2)⟩
theorem SeS.far {w : World} {B : Nat} {s : Se} (h : SeS w B s) {p : Addr} (hn : SeN s p.block) (u : Value) : SeS (w.setCell p u) B s :=
  ⟨⟨Sl.far h.pt.1 hn.1 u, Sl.far h.pt.2 hn.2.1 u⟩, Sl.far h.iu hn.2.2 u⟩
theorem SeS.far6 {w : World} {B : Nat} {s : Se} (h : SeS w B s) {g : Nat} (hn : SeN s g) (u0 u1 u2 u3 u4 u5 : Value) :
    SeS ((((((w.setCell ⟨g, 0, none⟩ u0).setCell ⟨g, 1, none⟩ u1).setCell ⟨g, 2, none⟩ u2).setCell ⟨g, 3, none⟩ u3).setCell ⟨g, 4, none⟩ u4).setCell ⟨g, 5, none⟩ u5) B s :=
  (((((h.far (p := ⟨g, 0, none⟩) hn u0).far (p := ⟨g, 1, none⟩) hn u1).far (p := ⟨g, 2, none⟩) hn u2).far (p := ⟨g, 3, none⟩) hn u3).far (p := ⟨g, 4, none⟩) hn u4).far (p := ⟨g, 5, none⟩) hn u5
/-- The state with other subscriptions, or none. -/
def stS (a : Aq) (e : Int) (xs : List Se) : Aq := if e = 0 then { a with s := xs } else aq0
/-- What Subscribe, Expect and Arrive hand back. -/
def ResQ (w : World) (a : Aq) (e0 : Int) (xs : List Se) (e : Ending) (w' : World) : Prop :=
  ∃ z : Aq, e = .returned (.tuple #[aqV z, .int .i64 e0]) ∧ AqS w' w'.heap.size z ∧ AqQ (stS a e0 xs) z ∧ Below w.heap.size w w'
theorem AqQ.refl (a : Aq) : AqQ a a := ⟨rfl, rfl, rfl, rfl, rfl, (SesQ.refl a.s).s, rfl⟩
theorem resQ_err {w w' : World} {a : Aq} {er : Int} {xs : List Se} (he : ¬ er = 0) (h : Below w.heap.size w w') : ResQ w a er xs (.returned (.tuple #[aqV aq0, .int .i64 er])) w' :=
  ⟨aq0, rfl, AqS.zero _ _, by unfold stS; rw [if_neg he]; exact AqQ.refl _, h⟩
theorem AqQ.subs {a : Aq} {xs ys : List Se} (h : SesQ xs ys) (A : Option Addr) (n c : Nat) : AqQ (stS a 0 xs) { a with sA := A, sn := n, sc := c, s := ys } := by
  unfold stS
  rw [if_pos rfl]
  exact ⟨rfl, rfl, rfl, rfl, h.l, h.s, rfl⟩
theorem expL_step {xs : List Se} {u : Int} {k : Nat} {x : Se} (h : xs[k]? = some x) : (expL xs u).take (k + 1) = (expL xs u).take k ++ [setS x (expI x u)] := by
  unfold expL
  rw [← List.map_take, ← List.map_take, take_step h, List.map_append]
  rfl
theorem expL_len (xs : List Se) (u : Int) : (expL xs u).length = xs.length := by unfold expL; rw [List.length_map]
/-- A new subscription in its place. -/
def insP (xs : List Se) (s : Se) : List Se := if ix (fun x => decide (s.rcd < x.rcd)) xs < 0 then xs ++ [s] else xs.take (ix (fun x => decide (s.rcd < x.rcd)) xs).toNat ++ s :: xs.drop (ix (fun x => decide (s.rcd < x.rcd)) xs).toNat
theorem insP_none {xs : List Se} {s : Se} (h : ix (fun x => decide (s.rcd < x.rcd)) xs = -1) : insP xs s = xs ++ [s] := by unfold insP; rw [h, if_pos (by decide)]
theorem insP_at {xs : List Se} {s : Se} {i : Nat} (h : ix (fun x => decide (s.rcd < x.rcd)) xs = (i : Int)) : insP xs s = xs.take i ++ s :: xs.drop i := by
  unfold insP; rw [h, if_neg (by omega), Int.toNat_natCast]
end Go.Proofs.YtbhndfphegflhaaGreat

/- Walks: slices.Insert of one element. Printed by gen_ins.py. -/
namespace Go.Proofs.YtbhndfphegflhaaGreat
open Go.RowKit

theorem se_sl1 {w : World} {g : Nat} {x : Se} (h : Box w g 76 (seC x)) : Ses w (g + 1) (some ⟨g, 0, none⟩) 1 1 [x] :=
  Sl.of_box (t := 76) seE_len (xs := [x]) (show Box w g 76 (([x] : List Se).flatMap seE).toArray from h) rfl (Nat.le_refl _) (by omega)

set_option maxRecDepth 100000 in
/-- At the end: an append. -/
theorem se_ins_end (base : Nat) (v : Value) (n : Nat) (xs : List Se) (x : Se) (vb : Nat) (w : World) (hown : w.ownsRow base 76 9 v n (xs.flatMap seE)) (hn : n ≤ 1000) (hb : base ≤ w.heap.size) (hV : Box w vb 76 (seC x)) :
    Calls Tryz.prog 98 #[v, .int .i64 n, .slice (some ⟨vb, 0, none⟩) 1 1] w fun e w' => ∃ v', e = .returned v' ∧ w'.ownsRow base 76 9 v' (n + 1) ((xs ++ [x]).flatMap seE) ∧ Below base w w' := by
  obtain ⟨i0, hi, hz0, hz1, hz2⟩ := info_parts se_info
  have HV := hide (se_sl1 hV)
  have HO := hide hown
  rcases own_box hown with ⟨rfl, rfl⟩ | ⟨g, cap, cur, rfl, hbg, hB, hnc, hcm, hcs, htk⟩
  · clear hown hV
    go_enter Tryz.func98, Tryz.ntmps98
    go_wp2_with (at_builtin; go_must (refine wpList_append_sl _ rfl _ _ 25 rfl base 76 i0 _ 120 Tryz.underlying25 hi hz0 hz1 hz2 rfl (by decide) seE_len seE_one _ 0 _ rfl HO.out _ 1 1 rfl HV.out (by unfold maxLen; omega) (by omega) hb ?_))
    intro v' w1 hown hg hat
    go_wp2
    go_ret
    refine ⟨v', rfl, by simpa using hown, (Below.refl base w).grown hg hb (by intro k hk; simp [Value.ownBlock] at hk)⟩
  · have HC := hide (And.intro hcs htk)
    clear hown hV hB hcs htk
    unfold maxLen at hcm
    go_enter Tryz.func98, Tryz.ntmps98
    go_wp2_with (at_builtin; go_must (refine wpList_append_sl _ rfl _ _ 25 rfl base 76 i0 _ 120 Tryz.underlying25 hi hz0 hz1 hz2 rfl (by decide) seE_len seE_one _ n _ rfl HO.out _ 1 1 rfl HV.out (by unfold maxLen; omega) (by omega) hb ?_))
    all_goals
      intro v' w1 hown hg hat
      go_wp2
      go_ret
      exact ⟨v', rfl, by rw [List.flatMap_append]; exact hown, (Below.refl base w).grown hg hb (by intro k hk; simp [Value.ownBlock] at hk; omega)⟩

set_option maxRecDepth 100000 in
/-- Inside, where there is room. -/
theorem se_ins_room (g n cap i : Nat) (cur : Array Value) (x : Se) (vb : Nat) (w : World) (hB : Box w g 76 cur) (hV : Box w vb 76 (seC x)) (hne : vb ≠ g) (hi : i < n) (hroom : n + 1 ≤ cap) (_hcm : cap ≤ maxLen)
    (hcs : cur.size = cap * 9) (hn : n ≤ 1000) (h1 : ∀ u ∈ cur.toList.take (n * 9), u.oneCell' = true) :
    Calls Tryz.prog 98 #[.slice (some ⟨g, 0, none⟩) n cap, .int .i64 i, .slice (some ⟨vb, 0, none⟩) 1 1] w fun e w' =>
      e = .returned (.slice (some ⟨g, 0, none⟩) (n + 1) cap) ∧ w' = (w.drew.setCells g ((i + 1) * 9) ((cur.toList.take (n * 9)).drop (i * 9))).setCells g (i * 9) (seE x) := by
  obtain ⟨i0, hi0, hz0, hz1, hz2⟩ := info_parts se_info
  obtain ⟨ms, hms⟩ : ∃ ms, ms = (cur.toList.take (n * 9)).drop (i * 9) := ⟨_, rfl⟩
  have hml : ms.length = (n - i) * 9 := by rw [hms]; simp; omega
  have hmc : ∀ j v, ms[j]? = some v → w.drew.cell? ((⟨g, i * 9, none⟩ : Addr).add j) = some v := by
    intro j v hj
    rw [hms, List.getElem?_drop, List.getElem?_take] at hj
    split at hj
    · rw [Addr.add_lit]
      exact (hB.drew.cell _).trans (by simpa using hj)
    · cases hj
  have hm1 : ∀ u ∈ ms, u.oneCell' = true := fun u hu => h1 u (List.mem_of_mem_drop (hms ▸ hu))
  have hsA := World.shape_box hV
  have hsB := World.shape_box hB
  have hov : ∀ lb cb, (callFunc 139 #[.slice (some ⟨vb, 0, none⟩) 1 1, .slice (some ⟨g, (i + 1) * 9, none⟩) lb cb]).run Tryz.prog w = .ok (.value (.bool false)) w := fun lb cb => by
    rw [run_callFunc_extern Tryz.func139 (by kernel_rfl) (by kernel_rfl) (by kernel_rfl) (e := Extern.SlicesOverlaps.overlaps #[25, 25] #[4]) (by kernel_rfl),
      Lib.run_overlaps_apart w 25 4 76 Tryz.underlying25 9 Tryz.sizeOf76 ⟨vb, 0, none⟩ ⟨g, (i + 1) * 9, none⟩ 1 1 lb cb hne 76 76 9 (cap * 9) hsA (hcs ▸ hsB) (by omega) (hV.frz 0) (hV.frz 9)]
    rfl
  have hcp1 : ∀ ty dc sc, (Builtin.copy_ #[25, 25] ty #[.slice (some ⟨g, (i + 1) * 9, none⟩) (n - i) dc, .slice (some ⟨g, i * 9, none⟩) (n + 1 - i) sc]).run Tryz.prog w.drew = .ok (goInt (Nat.min (n + 1 - i) (n - i))) (w.drew.setCells g ((i + 1) * 9) ms) := fun ty dc sc =>
    run_copy_box _ _ ty 76 i0 9 ((i + 1) * 9) (n - i) dc ⟨g, i * 9, none⟩ (n + 1 - i) sc ms Tryz.underlying25 hi0 hz1 hB.drew (by rw [hml]; simp only [Nat.min_def]; split <;> omega) (by rw [hml, hcs]; omega) hmc hm1
  obtain ⟨W1, hW1⟩ : ∃ W1, W1 = w.drew.setCells g ((i + 1) * 9) ms := ⟨_, rfl⟩
  have hB1 : Box W1 g 76 (splice cur.toList ((i + 1) * 9) ms).toArray := by rw [hW1]; exact hB.drew.setCells _ _ _ _ (by rw [hml, hcs]; omega)
  have hV1 : Box W1 vb 76 (seC x) := by rw [hW1]; exact Box.far_setCells hne _ _ _ hV.drew
  rw [← hW1] at hcp1
  have hcp2 : ∀ ty dc, (Builtin.copy_ #[25, 25] ty #[.slice (some ⟨g, i * 9, none⟩) (n + 1 - i) dc, .slice (some ⟨vb, 0, none⟩) 1 1]).run Tryz.prog W1 = .ok (goInt (Nat.min 1 (n + 1 - i))) (W1.setCells g (i * 9) (seE x)) := fun ty dc =>
    run_copy_box _ _ ty 76 i0 9 (i * 9) (n + 1 - i) dc ⟨vb, 0, none⟩ 1 1 (seE x) Tryz.underlying25 hi0 hz1 hB1 (by rw [seE_len]; simp only [Nat.min_def]; split <;> omega)
      (by rw [seE_len]; simp only [List.size_toArray]; rw [length_splice _ _ _ (by rw [hml]; simp; omega)]; simp; omega) (fun j v hj => by rw [Addr.add_lit, Nat.zero_add]; exact (hV1.cell j).trans (by simpa [seE] using hj)) (seE_one x)
  have hw1 : IntKind.i64.wrap ((i : Int) + 1) = (i : Int) + 1 := by rw [IntKind.wrap_i64]; omega
  have hb1 : (0 : Int) ≤ (i : Int) + 1 := by omega
  have hin : i ≤ n := by omega
  have htn : ((i : Int) + 1).toNat = i + 1 := by omega
  have hb2 : ¬ (cap = i + 1) := by omega
  have hb3 : (i : Int) ≤ (n : Int) + 1 := by omega
  have hb4 : ¬ (cap = i) := by omega
  unfold maxLen at _hcm
  have HW := hide hW1
  have HMS := hide hms
  have hz2' : ¬ ((i : Int) = (n : Int)) := by omega
  clear hW1 hms hml hmc hm1 hsA hsB hB hV hB1 hV1 h1 hcs hne hz0 hz1 hz2 hi0
  go_enter Tryz.func98, Tryz.ntmps98
  go_wp2_with (simp only [hov])
  go_region_law (refine step_copy_run1 rfl _ _ 25 25 rfl _ _ (by simp [Act.eval, Act.put]) (by simp [Act.eval, Act.put]) (hcp1 _ _ _) ?_)
  go_wp2_with (at_builtin; refine wpList_copy_run1 _ rfl _ _ 25 25 rfl _ _ rfl rfl (hcp2 _ _) ?_)
  go_ret
  exact ⟨rfl, by rw [HW.out, HMS.out]⟩

set_option maxRecDepth 100000 in
/-- Inside, where there is no room: a new row. -/
theorem se_ins_grow (g n i : Nat) (cur : Array Value) (x : Se) (vb : Nat) (w : World) (hB : Box w g 76 cur) (hV : Box w vb 76 (seC x)) (hi : i < n)
    (hcs : cur.size = n * 9) (hn : n ≤ 1000) (h1 : ∀ u ∈ cur.toList, u.oneCell' = true) :
    Calls Tryz.prog 98 #[.slice (some ⟨g, 0, none⟩) n n, .int .i64 i, .slice (some ⟨vb, 0, none⟩) 1 1] w fun e w' =>
      ∃ G cur', e = .returned (.slice (some ⟨w.heap.size, 0, none⟩) (n + 1) G) ∧ Box w' w.heap.size 76 cur' ∧ n + 1 ≤ G ∧ G ≤ maxLen ∧ cur'.size = G * 9 ∧
        cur'.toList.take ((n + 1) * 9) = cur.toList.take (i * 9) ++ seE x ++ cur.toList.drop (i * 9) ∧ Below w.heap.size w w' := by
  obtain ⟨i0, hi0, hz0, hz1, hz2⟩ := info_parts se_info
  have hgw := hB.lt
  have hvw := hV.lt
  obtain ⟨ms, hms⟩ : ∃ ms, ms = cur.toList.drop (i * 9) := ⟨_, rfl⟩
  have hml : ms.length = (n - i) * 9 := by rw [hms]; simp; omega
  have hm1 : ∀ u ∈ ms, u.oneCell' = true := fun u hu => h1 u (List.mem_of_mem_drop (hms ▸ hu))
  obtain ⟨G, hG⟩ : ∃ G, G = grownCap w (n + 1) n 76 := ⟨_, rfl⟩
  obtain ⟨Z, hZ⟩ : ∃ Z, Z = Builtin.zeroCells (Value.agg #[.int .i64 0, .int .i64 0, .int .i64 0, .int .i64 0, .int .i64 0, .slice none 0 0, .slice none 0 0, .int .i64 0, .slice none 0 0]).cells (n + 1 - i) ++ Builtin.zeroCells (Value.agg #[.int .i64 0, .int .i64 0, .int .i64 0, .int .i64 0, .int .i64 0, .slice none 0 0, .slice none 0 0, .int .i64 0, .slice none 0 0]).cells (G - (n + 1)) := ⟨_, rfl⟩
  have hGn : n + 1 ≤ G := by rw [hG]; exact grownCap_ge w _ _ _
  have hGm : G ≤ maxLen := by rw [hG]; exact grownCap_le_maxLen w _ _ _ (by unfold maxLen; omega)
  have hZs : Z.size = (G - i) * 9 := by
    have hz : (Value.agg #[.int .i64 0, .int .i64 0, .int .i64 0, .int .i64 0, .int .i64 0, .slice none 0 0, .slice none 0 0, .int .i64 0, .slice none 0 0]).cells.size = 9 := rfl
    rw [hZ, Array.size_append, size_zeroCells, size_zeroCells, hz, ← Nat.add_mul]
    congr 1
    omega
  have hold : (Builtin.firstCells i0.size i (.slice (some ⟨g, 0, none⟩) i n)).run Tryz.prog w.drew = .ok (cur.toList.take (i * 9)).toArray w.drew := by
    rw [hz1]
    refine run_firstCells_some w.drew 9 i ⟨g, 0, none⟩ i n _ (by simp; omega) (fun j v hj => ?_)
    rw [Addr.add_lit, Nat.zero_add, hB.drew.cell]
    rw [List.getElem?_take] at hj
    split at hj
    · simpa using hj
    · cases hj
  have hkk : (n : Int) + 1 - (i : Int) = ((n + 1 - i : Nat) : Int) := by omega
  have hik : i + (n + 1 - i) = n + 1 := by omega
  have hrz : ∀ ty, (Builtin.append_ #[25, 3] ty #[.slice (some ⟨g, 0, none⟩) i n, .int .i64 ((n : Int) + 1 - (i : Int))]).run Tryz.prog w =
      .ok (.slice (some ⟨w.heap.size, 0, none⟩) (n + 1) G) (w.drew.alloc (.cells ((cur.toList.take (i * 9)).toArray ++ Z) 76)) := fun ty => by
    have h := Lib.run_append_grow_zeros w 25 3 ty 76 i0 _ .i64 .i64 Tryz.underlying25 Tryz.underlying3 hi0 hz0 (some ⟨g, 0, none⟩) i n _ hold (n + 1 - i) (by omega) (by rw [hz1]; omega) (by omega) (by omega) (by rw [hz2]; omega) (by rw [hz2, hik]; exact growslice_fits (by omega) (by omega))
    rw [hik, ← hG, Array.append_assoc, ← hZ] at h
    rw [hkk]
    exact h
  obtain ⟨W1, hW1⟩ : ∃ W1, W1 = w.drew.alloc (.cells ((cur.toList.take (i * 9)).toArray ++ Z) 76) := ⟨_, rfl⟩
  have b1 : Box W1 w.heap.size 76 ((cur.toList.take (i * 9)).toArray ++ Z) := by rw [hW1]; exact Box.new w.drew _ _
  have s1 : ((cur.toList.take (i * 9)).toArray ++ Z).size = G * 9 := by simp; omega
  have v1 : Box W1 vb 76 (seC x) := by rw [hW1]; exact hV.drew.alloc _
  have g1 : Box W1 g 76 cur := by rw [hW1]; exact hB.drew.alloc _
  have e1 : Below w.heap.size w W1 := by rw [hW1]; exact (Below.refl _ w).drew.alloc (Nat.le_refl _) _
  rw [← hW1] at hrz
  have hcA : ∀ ty dc, (Builtin.copy_ #[25, 25] ty #[.slice (some ⟨w.heap.size, i * 9, none⟩) (n + 1 - i) dc, .slice (some ⟨vb, 0, none⟩) 1 1]).run Tryz.prog W1 = .ok (goInt (Nat.min 1 (n + 1 - i))) (W1.setCells w.heap.size (i * 9) (seE x)) := fun ty dc =>
    run_copy_box _ _ ty 76 i0 9 (i * 9) (n + 1 - i) dc ⟨vb, 0, none⟩ 1 1 (seE x) Tryz.underlying25 hi0 hz1 b1 (by rw [seE_len]; simp only [Nat.min_def]; split <;> omega) (by rw [seE_len, s1]; omega)
      (fun j v hj => by rw [Addr.add_lit, Nat.zero_add]; exact (v1.cell j).trans (by simpa [seE] using hj)) (seE_one x)
  obtain ⟨W2, hW2⟩ : ∃ W2, W2 = W1.setCells w.heap.size (i * 9) (seE x) := ⟨_, rfl⟩
  have b2 : Box W2 w.heap.size 76 (splice ((cur.toList.take (i * 9)).toArray ++ Z).toList (i * 9) (seE x)).toArray := by rw [hW2]; exact b1.setCells _ _ _ _ (by rw [seE_len, s1]; omega)
  have s2 : (splice ((cur.toList.take (i * 9)).toArray ++ Z).toList (i * 9) (seE x)).toArray.size = G * 9 := by
    rw [List.size_toArray, splice_len _ _ _ (by rw [seE_len, Array.length_toList, s1]; omega), Array.length_toList, s1]
  have g2 : Box W2 g 76 cur := by rw [hW2]; exact Box.far_setCells (by omega) _ _ _ g1
  have e2 : Below w.heap.size w W2 := by rw [hW2]; exact below_setCells (Nat.le_refl _) _ _ _ e1
  rw [← hW2] at hcA
  have hcB : ∀ ty dc sc, (Builtin.copy_ #[25, 25] ty #[.slice (some ⟨w.heap.size, (i + 1) * 9, none⟩) (n - i) dc, .slice (some ⟨g, i * 9, none⟩) (n - i) sc]).run Tryz.prog W2.drew = .ok (goInt (Nat.min (n - i) (n - i))) (W2.drew.setCells w.heap.size ((i + 1) * 9) ms) := fun ty dc sc =>
    run_copy_box _ _ ty 76 i0 9 ((i + 1) * 9) (n - i) dc ⟨g, i * 9, none⟩ (n - i) sc ms Tryz.underlying25 hi0 hz1 b2.drew (by rw [hml]; simp only [Nat.min_def]; split <;> omega) (by rw [hml, s2]; omega)
      (fun j v hj => by
        rw [Addr.add_lit]
        rw [hms, List.getElem?_drop] at hj
        exact (g2.drew.cell _).trans (by simpa using hj)) hm1
  have b3 := b2.drew.setCells ms ((i + 1) * 9) _ _ (by rw [hml, s2]; omega)
  have e3 := below_setCells (b := w.heap.size) (Nat.le_refl _) ms ((i + 1) * 9) _ e2.drew
  have hfin : (splice (splice ((cur.toList.take (i * 9)).toArray ++ Z).toList (i * 9) (seE x)) ((i + 1) * 9) ms).take ((n + 1) * 9) = cur.toList.take (i * 9) ++ seE x ++ cur.toList.drop (i * 9) := by
    have h := splice_two ((cur.toList.take (i * 9)).toArray ++ Z).toList (seE x) ms (i * 9) (by rw [seE_len, hml, Array.length_toList, s1]; omega)
    rw [seE_len, hml, show i * 9 + 9 = (i + 1) * 9 from by omega, show (i + 1) * 9 + (n - i) * 9 = (n + 1) * 9 from by omega] at h
    have e4 : (((cur.toList.take (i * 9)).toArray ++ Z).toList).take (i * 9) = cur.toList.take (i * 9) := by
      rw [Array.toList_append, List.take_append_of_le_length (by simp; omega)]
      exact List.take_of_length_le (by rw [List.toList_toArray, List.length_take]; exact Nat.min_le_left _ _)
    rw [h, e4, hms]
  have s3 : (splice (splice ((cur.toList.take (i * 9)).toArray ++ Z).toList (i * 9) (seE x)) ((i + 1) * 9) ms).toArray.size = G * 9 := by
    rw [List.size_toArray, splice_len _ _ _ (by rw [hml]; rw [List.size_toArray] at s2; rw [s2]; omega)]; simpa using s2
  have HF := hide (And.intro b3 (And.intro e3 (And.intro hfin s3)))
  have hw1 : IntKind.i64.wrap ((i : Int) + 1) = (i : Int) + 1 := by rw [IntKind.wrap_i64]; omega
  have hb1 : (0 : Int) ≤ (i : Int) + 1 := by omega
  have hin : i ≤ n := by omega
  have htn : ((i : Int) + 1).toNat = i + 1 := by omega
  have hGi : ¬ (G = i) := by omega
  have hGim : ¬ (G = i + 1) := by omega
  have hci : ¬ (n = i) := by omega
  have hb3 : (i : Int) ≤ (n : Int) := by omega
  have hz2' : ¬ ((i : Int) = (n : Int)) := by omega
  have HGm := hide hGm
  unfold maxLen at hGm
  clear hW1 hW2 hms hml hm1 hB hV h1 hcs hz0 hz1 hz2 hi0 hG hZ hZs hold hkk hik b1 s1 v1 g1 e1 b2 s2 g2 e2 b3 e3 hfin s3
  go_enter Tryz.func98, Tryz.ntmps98
  go_wp2_with (first
    | (at_builtin; refine Lib.wpList_append_run _ rfl _ _ _ _ rfl _ _ rfl rfl _ _ (hrz _) ?_)
    | (at_builtin; refine wpList_copy_run1 _ rfl _ _ 25 25 rfl _ _ rfl rfl (hcA _ _) ?_))
  go_region_law (refine step_copy_run1 rfl _ _ 25 25 rfl _ _ (by simp [Act.eval, Act.put]) (by simp [Act.eval, Act.put]) (hcB _ _ _) ?_)
  go_wp2
  go_ret
  exact ⟨G, _, rfl, HF.out.1, hGn, HGm.out, HF.out.2.2.2, HF.out.2.2.1, HF.out.2.1⟩

set_option maxRecDepth 100000 in
/-- slices.Insert of one element into a row of the call's own. -/
theorem se_insert (base : Nat) (v : Value) (n i : Nat) (xs : List Se) (x : Se) (vb : Nat) (w : World) (hown : w.ownsRow base 76 9 v n (xs.flatMap seE)) (hl : xs.length = n) (hi : i ≤ n) (hn : n ≤ 1000) (hb : base ≤ w.heap.size)
    (hV : Box w vb 76 (seC x)) (hne : v.ownBlock ≠ some vb) :
    Calls Tryz.prog 98 #[v, .int .i64 i, .slice (some ⟨vb, 0, none⟩) 1 1] w fun e w' => ∃ v', e = .returned v' ∧ w'.ownsRow base 76 9 v' (n + 1) ((xs.take i ++ x :: xs.drop i).flatMap seE) ∧ Below base w w' := by
  by_cases hin : i = n
  · subst hin
    rw [List.take_of_length_le (by omega), List.drop_of_length_le (by omega)]
    exact se_ins_end base v i xs x vb w hown hn hb hV
  · rcases own_box hown with ⟨_, h0⟩ | ⟨g, cap, cur, rfl, hbg, hB, hnc, hcm, hcs, htk⟩
    · omega
    · have hf : (xs.flatMap seE).take (i * 9) ++ seE x ++ (xs.flatMap seE).drop (i * 9) = (xs.take i ++ x :: xs.drop i).flatMap seE := by
        rw [flat_take seE_len, flat_drop seE_len, List.flatMap_append, List.flatMap_cons, List.append_assoc]
      have hone : ∀ u ∈ xs.flatMap seE, u.oneCell' = true := fun u hu => by obtain ⟨y, _, hy⟩ := List.mem_flatMap.1 hu; exact seE_one y u hy
      have hxl : (xs.flatMap seE).length = n * 9 := by rw [flat_len seE_len, hl]
      by_cases hr : n + 1 ≤ cap
      · refine (se_ins_room g n cap i cur x vb w hB hV (fun e => hne (by simp [Value.ownBlock, e])) (by omega) hr hcm hcs hn (by rw [htk]; exact hone)).mono ?_
        rintro e w' ⟨rfl, rfl⟩
        rw [htk]
        have b1 := hB.drew.setCells ((xs.flatMap seE).drop (i * 9)) ((i + 1) * 9) _ _ (by rw [List.length_drop, hxl, hcs]; omega)
        have s1 : (splice cur.toList ((i + 1) * 9) ((xs.flatMap seE).drop (i * 9))).toArray.size = cap * 9 := by
          rw [List.size_toArray, splice_len _ _ _ (by rw [List.length_drop, hxl, Array.length_toList, hcs]; omega), Array.length_toList, hcs]
        have b2 := b1.setCells (seE x) (i * 9) _ _ (by rw [seE_len, s1]; omega)
        refine ⟨_, rfl, b2.own hbg (by omega) hcm ?_ ?_, below_setCells hbg _ _ _ (below_setCells hbg _ _ _ (Below.refl base w).drew)⟩
        · rw [List.size_toArray, splice_len _ _ _ (by rw [seE_len]; rw [List.size_toArray] at s1; simp only [s1]; omega)]
          simpa using s1
        · have h := splice_two' cur.toList (seE x) ((xs.flatMap seE).drop (i * 9)) (i * 9) (by rw [seE_len, List.length_drop, hxl, Array.length_toList, hcs]; omega)
          rw [seE_len, List.length_drop, hxl, show i * 9 + 9 = (i + 1) * 9 from by omega, show (i + 1) * 9 + (n * 9 - i * 9) = (n + 1) * 9 from by omega] at h
          have e3 : cur.toList.take (i * 9) = (xs.flatMap seE).take (i * 9) := by rw [← htk, List.take_take, Nat.min_eq_left (by omega)]
          rw [e3, hf] at h
          exact h
      · obtain rfl : cap = n := by omega
        have hcl : cur.toList = xs.flatMap seE := by rw [← htk, List.take_of_length_le (by rw [Array.length_toList, hcs]; exact Nat.le_refl _)]
        refine (se_ins_grow g cap i cur x vb w hB hV (by omega) hcs hn (by rw [hcl]; exact hone)).mono ?_
        rintro e w' ⟨G, cur', rfl, hB', h1, h2, h3, h4, h5⟩
        exact ⟨_, rfl, hB'.own hb h1 h2 h3 (by rw [h4, hcl, hf]), h5.mono hb⟩
end Go.Proofs.YtbhndfphegflhaaGreat

/- Expect of the reference, at a state. Printed by gen_aq_sa.py. -/
namespace Go.Proofs.YtbhndfphegflhaaGreat
open Go.RowKit

/-- What Expect hands back. -/
def ResX (w : World) (a : Aq) (xs : List Se) (e : Ending) (w' : World) : Prop :=
  ∃ z : Aq, e = .returned (.tuple #[aqV z, .int .i64 0]) ∧ AqS w' w'.heap.size z ∧ AqQ (stS a 0 xs) z ∧ Below w.heap.size w w' ∧ ∀ g, g < w.heap.size → (∀ s ∈ a.s, SeN s g) → ∀ s ∈ z.s, SeN s g
set_option maxRecDepth 100000 in
set_option maxHeartbeats 8000000 in
theorem rexpA_any (a : Aq) (u : Int) (w : World) (hs : AqS w w.heap.size a) (hv : ∀ s ∈ a.s, SeV s) (hu : ∀ s ∈ a.s, (issU (sePt s) u).length ≤ 60) (hn : a.sn ≤ 100) :
    Calls Tryz.prog 49 #[aqV a, .int .i64 u] w (ResX w a (expL a.s u)) := by
  obtain ⟨i0, hi0, hz0, hz1, hz2⟩ := info_parts se_info
  have HI := hide (And.intro hi0 (And.intro hz0 (And.intro hz1 hz2)))
  have B0 := hide (((Below.refl w.heap.size w).alloc (Nat.le_refl _) (.cells (aqC a) 27)).alloc (by simp) (.cells (aqC aq0) 27))
  have X0 := hide ((Box.new w 27 (aqC a)).alloc (.cells (aqC aq0) 27))
  have R0 := hide (Box.new (w.alloc (.cells (aqC a) 27)) 27 (aqC aq0))
  rw [World.size_alloc] at R0
  have HS := hide hs
  have HE := hide (fun x (hx : x ∈ a.s) W (h : Below w.heap.size w W) => rexp37_any x u W (((hs.ss x hx).below h).more h.size) (hv x hx) (hu x hx))
  have hlen := hs.s.len
  have hbig := hs.s.big
  have HLEN := hide hlen
  clear hs hv hu hi0 hz0 hz1 hz2 hlen
  unfold ResSe seV at HE
  unfold aqV
  go_enter Tryz.func49, Tryz.ntmps49
  go_wp2
  obtain ⟨W0, hW0⟩ : ∃ W0, W0 = (w.alloc (.cells (aqC a) 27)).alloc (.cells (aqC aq0) 27) := ⟨_, rfl⟩
  have hfold : (w.alloc (.cells (aqC a) 27)).alloc (.cells #[.int .i64 0, .slice none 0 0, .slice none 0 0, .slice none 0 0, .slice none 0 0, .int .i64 0] 27) = W0 := hW0.symm
  first
    | rw [hfold]
    | skip
  rw [← hW0] at B0 X0 R0
  clear hfold hW0
  have hzw : w.heap.size + 1 < W0.heap.size := R0.out.lt
  have Z0 := hide (Below.refl (w.heap.size + 2) W0)
  go_loopw [6, 7, 8, 9] (fun v s7 _ _ wr => ∃ (k : Nat) (ys : List Se), k ≤ a.sn ∧ s7 = .int .i64 k ∧ Seo wr (w.heap.size + 2) v ys ∧ SesQ ((expL a.s u).take k) ys ∧ (∀ y ∈ ys, SeS wr wr.heap.size y ∧ (∀ g, v.ownBlock = some g → SeN y g) ∧ SeN y w.heap.size ∧ SeN y (w.heap.size + 1) ∧ (∀ g, g < w.heap.size → (∀ s ∈ a.s, SeN s g) → SeN y g)) ∧ Below (w.heap.size + 2) W0 wr) (fun _ s7 _ _ _ => a.sn - (intOf s7).toNat)
  case atStart => exact ⟨0, [], Nat.zero_le _, rfl, World.ownsRow_nil _ _ _ _, SesQ.nil, by simp, Z0.out⟩
  case round =>
    clear Z0
    obtain ⟨k, ys, hk, rfl, ho, hq, hys, hb⟩ := hrel
    have HO := hide ho
    have HQ := hide hq
    have HYS := hide hys
    have HB := hide hb
    have hzr : w.heap.size + 1 < wr.heap.size := Nat.lt_of_lt_of_le hzw hb.size
    have BW := hide (B0.out.trans (hb.mono (by omega)))
    have XW := hide (X0.out.below hb (by omega))
    have HYL := hide (show ys.length = k by rw [← hq.l, List.length_take, expL_len, HLEN.out]; omega)
    clear ho hq hys hb
    have x4 := XW.out.cell 4
    simp at x4
    by_cases hlt : k < a.sn
    · have hkz : (k : Int) < (a.sn : Int) := by omega
      obtain ⟨b, off, x, hA, hbB, hx, c0, c1, c2, c3, c4, c5, c6, c7, c8⟩ := Ses_at (HS.out.s.below BW.out) hlt
      rw [hA] at x4
      have HXM := hide (List.mem_of_getElem? hx)
      have HTK := hide (expL_step (u := u) hx)
      have HC := hide (HE.out x HXM.out wr BW.out)
      clear hx hA
      go_wp2_with fail
      refine HC.out.mono ?_
      rintro e w2 ⟨z, rfl, hz, hqz, hb, hna⟩
      have HZ := hide hz
      have HQZ := hide hqz
      have HB2 := hide hb
      have HNA := hide hna
      clear hz hqz hb hna HC c0 c1 c2 c3 c4 c5 c6 c7 c8 x4
      obtain ⟨w3, hw3⟩ : ∃ w3, w3 = w2.alloc (.cells (seC z) 76) := ⟨_, rfl⟩
      have Y3 := hide (show Box w3 w2.heap.size 76 (seC z) by rw [hw3]; exact Box.new w2 76 (seC z))
      have HB3 := hide (show Below wr.heap.size wr w3 by rw [hw3]; exact HB2.out.alloc HB2.out.size _)
      have HZ3 := hide (show SeS w3 w3.heap.size z by rw [hw3]; exact (HZ.out.below ((Below.refl w2.heap.size w2).alloc (Nat.le_refl _) _)).more (by simp))
      go_upto_region 6 with fail
      have hfold3 : w2.alloc (.cells #[.int .i64 z.rcd, .int .i64 z.start, .int .i64 z.every, .int .i64 z.pv, .int .i64 z.fv, .slice z.skA z.skn z.skc, .slice z.dbA z.dbn z.dbc, .int .i64 z.nx, .slice z.iuA z.iun z.iuc] 76) = w3 := hw3.symm
      rw [hfold3]
      have hz3 : w.heap.size + 1 < w3.heap.size := Nat.lt_of_lt_of_le hzr HB3.out.size
      clear hfold3 hw3 HZ HB2
      have y0 := Y3.out.cell 0
      have y1 := Y3.out.cell 1
      have y2 := Y3.out.cell 2
      have y3 := Y3.out.cell 3
      have y4 := Y3.out.cell 4
      have y5 := Y3.out.cell 5
      have y6 := Y3.out.cell 6
      have y7 := Y3.out.cell 7
      have y8 := Y3.out.cell 8
      simp at y0 y1 y2 y3 y4 y5 y6 y7 y8
      have HO3 := hide (own_bel HO.out HB3.out)
      have HO4 := hide (show ∀ o, (w3.alloc o).ownsRow (w.heap.size + 2) 76 9 u6 ys.length (ys.flatMap seE) from fun o => HO3.out.alloc o)
      go_wp2_with (at_builtin; go_must (refine wpList_append_sl _ rfl _ _ 25 rfl (w.heap.size + 2) 76 i0 _ 120 Tryz.underlying25 HI.out.1 HI.out.2.1 HI.out.2.2.1 HI.out.2.2.2 rfl (by decide) seE_len seE_one _ _ _ rfl (HO4.out _) _ 1 1 rfl (se_sl1 (x := z) (Box.new _ _ _)) (by rw [HYL.out]; unfold maxLen; omega) (by rw [HYL.out]; omega) (by first | (simp; omega) | (simp only [World.size_alloc]; omega)) ?_))
      intro v' w5 hown hg hat
      obtain ⟨WX, hWX⟩ : ∃ WX, WX = w3.alloc (.cells (seC z) 76) := ⟨_, rfl⟩
      have hg2 : WX.grownBy w5 (Value.ownBlock u6) := by rw [hWX]; exact hg
      have hat2 : v'.ownBlock = Value.ownBlock u6 ∨ v'.ownBlock = some WX.heap.size := by rw [hWX, World.size_alloc]; exact hat
      have HBX := hide (show Below wr.heap.size wr WX by rw [hWX]; exact HB3.out.alloc HB3.out.size _)
      have HZX := hide (show SeS WX WX.heap.size z by rw [hWX]; exact (HZ3.out.below ((Below.refl w3.heap.size w3).alloc (Nat.le_refl _) _)).more (by simp))
      have HG := hide hg2
      have HAT := hide hat2
      have HOW := hide hown
      clear hown hg hat hg2 hat2 hWX y0 y1 y2 y3 y4 y5 y6 y7 y8 HO3 HO4 Y3
      have HXz := hide (show wr.heap.size ≤ WX.heap.size by have := HBX.out.size; omega)
      have HNz := hide (show ∀ g, g < wr.heap.size → w.heap.size ≤ g → SeN z g from fun g h1 h2 => HNA.out g h1 ((HS.out.ss x HXM.out).old h2))
      have HYX := hide (show ∀ y ∈ ys ++ [z], SeS WX WX.heap.size y ∧ ∀ g, Value.ownBlock u6 = some g → SeN y g by
        intro y hy
        rcases List.mem_append.1 hy with hy | hy
        · exact ⟨((HYS.out y hy).1.below HBX.out).more HXz.out, (HYS.out y hy).2.1⟩
        · rw [List.mem_singleton.1 hy]
          refine ⟨HZX.out, fun g hg => HNz.out g ?_ ?_⟩
          · exact (HO.out.lt g hg).2
          · have := (HO.out.lt g hg).1; omega)
      have HY5 := hide (show ∀ y ∈ ys ++ [z], SeS w5 w5.heap.size y ∧ (∀ g, v'.ownBlock = some g → SeN y g) ∧ SeN y w.heap.size ∧ SeN y (w.heap.size + 1) ∧ (∀ g, g < w.heap.size → (∀ s ∈ a.s, SeN s g) → SeN y g) by
        intro y hy
        obtain ⟨h1, h2⟩ := HYX.out y hy
        refine ⟨(h1.grownN HG.out (Nat.le_refl _) h2).more (HG.out.size), fun g hg => ?_, ?_, ?_, fun g h7 h8 => ?_⟩
        · rcases HAT.out with e | e
          · exact h2 g (by rw [← e]; exact hg)
          · rw [e] at hg; cases hg; exact h1.old (Nat.le_refl _)
        · rcases List.mem_append.1 hy with hy | hy
          · exact (HYS.out y hy).2.2.1
          · rw [List.mem_singleton.1 hy]; exact HNz.out _ (by omega) (Nat.le_refl _)
        · rcases List.mem_append.1 hy with hy | hy
          · exact (HYS.out y hy).2.2.2.1
          · rw [List.mem_singleton.1 hy]; exact HNz.out _ (by omega) (by omega)
        · rcases List.mem_append.1 hy with hy | hy
          · exact (HYS.out y hy).2.2.2.2 g h7 h8
          · rw [List.mem_singleton.1 hy]; exact HNA.out g (by omega) (h8 x HXM.out))
      have HB5 := hide (((HB.out.trans (HBX.out.mono (by omega)))).grown HG.out (by have := HBX.out.size; omega) (by intro q hq; exact (HO.out.lt q hq).1))
      go_wp2
      go_roundw
      case rel =>
        refine ⟨k + 1, ys ++ [z], by omega, by go_num, ?_, ?_, HY5.out, HB5.out⟩
        · unfold Seo
          rw [List.flatMap_append, List.length_append]
          have h1 := HOW.out
          simpa using h1
        · rw [HTK.out]
          exact HQ.out.snoc HQZ.out
      case measure => simp [intOf]; omega
    · have hkz : ¬ (k : Int) < (a.sn : Int) := by omega
      have HQA := hide (show SesQ (expL a.s u) ys by
        have h := HQ.out
        rwa [List.take_of_length_le (by rw [expL_len, HLEN.out]; omega)] at h)
      have RW := hide (R0.out.below HB.out (by omega))
      obtain ⟨A2, c2, hv2, _⟩ := Seo_sl HO.out (by rw [HYL.out]; omega)
      obtain ⟨m2, hm2⟩ : ∃ m2, ys.length = m2 := ⟨_, rfl⟩
      have HM2 := hide hm2
      rw [hm2] at hv2
      subst hv2
      have HOE := hide (show wr.ownsRow (w.heap.size + 2) 76 9 (.slice A2 m2 c2) m2 (ys.flatMap seE) by have h := HO.out; unfold Seo at h; rw [HM2.out] at h; exact h)
      clear hm2 x4 hlt
      have x0 := XW.out.cell 0
      have x1 := XW.out.cell 1
      have x2 := XW.out.cell 2
      have x3 := XW.out.cell 3
      have x4 := XW.out.cell 4
      have x5 := XW.out.cell 5
      simp at x0 x1 x2 x3 x4 x5
      have fx := fun j => XW.out.frz j
      have r0 := RW.out.cell 0
      have r1 := RW.out.cell 1
      have r2 := RW.out.cell 2
      have r3 := RW.out.cell 3
      have r4 := RW.out.cell 4
      have r5 := RW.out.cell 5
      simp [aq0] at r0 r1 r2 r3 r4 r5
      have fr := fun j => RW.out.frz j
      have HB9 := hide (below_aq (BW.out.setCell (p := ⟨w.heap.size, 4, none⟩) (Nat.le_refl _) (.slice A2 m2 c2)) (show w.heap.size ≤ w.heap.size + 1 by omega) (.int .i64 a.yr) (.slice a.fA a.fn a.fc) (.slice a.oA a.on a.oc) (.slice a.bA a.bn a.bc) (.slice A2 m2 c2) (.int .i64 a.nx))
      go_wp2
      refine bodyPost_ret (v := .tuple #[aqV { a with sA := A2, sn := m2, sc := c2, s := ys }, .int .i64 0]) (by simp [results, Tryz.results49, go_sem, r0, r1, r2, r3, r4, r5, x0, x1, x2, x3, x4, x5, aqV]) rfl ?_
      refine ⟨_, rfl, ?_, AqQ.subs HQA.out A2 m2 c2, HB9.out, fun g h7 h8 y hy => (HYS.out y hy).2.2.2.2 g h7 h8⟩
      have h9 := HB9.out
      refine ⟨(HS.out.f.below h9).more h9.size, (HS.out.o.below h9).more h9.size, fun y hy => ((HS.out.os y hy).below h9).more h9.size, (HS.out.b.below h9).more h9.size, ?_, fun y hy => ?_⟩
      · refine Sl.of_own seE_len (base := w.heap.size + 2) (e := 76) ?_ HM2.out (show m2 ≤ 140737488355328 by have := HM2.out; have := HYL.out; omega)
        (iterate 6 (refine own_setp ?_ (by show w.heap.size + 1 < _; omega) _))
        refine own_setp ?_ (by show w.heap.size < _; omega) _
        exact HOE.out
      · obtain ⟨h1, _, h3, h4, _⟩ := HYS.out y hy
        exact ((h1.far (p := ⟨w.heap.size, 4, none⟩) h3 (.slice A2 m2 c2)).far6 h4 _ _ _ _ _ _).more (by simp)
end Go.Proofs.YtbhndfphegflhaaGreat

/- Expect of the program, at a state. Printed by gen_aq_sa.py. -/
namespace Go.Proofs.YtbhndfphegflhaaGreat
open Go.RowKit

theorem box_set4 {w : World} {g : Nat} {t : TypeId} {c0 c1 c2 c3 c4 c5 : Value} (h : Box w g t #[c0, c1, c2, c3, c4, c5]) (u : Value) : Box (w.setCell ⟨g, 4, none⟩ u) g t #[c0, c1, c2, c3, u, c5] := by
  have := h.set_ 4 u
  simpa using this
set_option maxRecDepth 100000 in
set_option maxHeartbeats 8000000 in
theorem pexpA_any (a : Aq) (u : Int) (w : World) (hs : AqS w w.heap.size a) (hv : ∀ s ∈ a.s, SeV s) (hu : ∀ s ∈ a.s, (issU (sePt s) u).length ≤ 60) (hn : a.sn ≤ 100) :
    Calls Tryz.prog 48 #[aqV a, .int .i64 u] w (ResX w a (expL a.s u)) := by
  obtain ⟨i0, hi0, hz0, hz1, hz2⟩ := info_parts se_info
  have HI := hide (And.intro hi0 (And.intro hz0 (And.intro hz1 hz2)))
  have B0 := hide ((((Below.refl w.heap.size w).alloc (Nat.le_refl _) (.cells (aqC a) 27)).alloc (by simp) (.cells (aqC aq0) 27)).alloc (by simp; omega) (.cells #[.int .i64 a.yr, .slice a.fA a.fn a.fc, .slice a.oA a.on a.oc, .slice a.bA a.bn a.bc, .slice none 0 0, .int .i64 a.nx] 27))
  have R0 := hide ((Box.new (w.alloc (.cells (aqC a) 27)) 27 (aqC aq0)).alloc (.cells #[.int .i64 a.yr, .slice a.fA a.fn a.fc, .slice a.oA a.on a.oc, .slice a.bA a.bn a.bc, .slice none 0 0, .int .i64 a.nx] 27))
  have O0 := hide (Box.new ((w.alloc (.cells (aqC a) 27)).alloc (.cells (aqC aq0) 27)) 27 #[.int .i64 a.yr, .slice a.fA a.fn a.fc, .slice a.oA a.on a.oc, .slice a.bA a.bn a.bc, .slice none 0 0, .int .i64 a.nx])
  simp only [World.size_alloc] at R0 O0
  have HS := hide hs
  have HE := hide (fun x (hx : x ∈ a.s) W (h : Below w.heap.size w W) => sexp_any x u W (((hs.ss x hx).below h).more h.size) (hv x hx) (hu x hx))
  have hlen := hs.s.len
  have hbig := hs.s.big
  have HLEN := hide hlen
  clear hs hv hu hi0 hz0 hz1 hz2 hlen
  unfold ResSe seV at HE
  unfold aqV
  go_enter Tryz.func48, Tryz.ntmps48
  go_wp2
  obtain ⟨W0, hW0⟩ : ∃ W0, W0 = ((w.alloc (.cells (aqC a) 27)).alloc (.cells (aqC aq0) 27)).alloc (.cells #[.int .i64 a.yr, .slice a.fA a.fn a.fc, .slice a.oA a.on a.oc, .slice a.bA a.bn a.bc, .slice none 0 0, .int .i64 a.nx] 27) := ⟨_, rfl⟩
  have hfold : ((w.alloc (.cells (aqC a) 27)).alloc (.cells #[.int .i64 0, .slice none 0 0, .slice none 0 0, .slice none 0 0, .slice none 0 0, .int .i64 0] 27)).alloc (.cells #[.int .i64 a.yr, .slice a.fA a.fn a.fc, .slice a.oA a.on a.oc, .slice a.bA a.bn a.bc, .slice none 0 0, .int .i64 a.nx] 27) = W0 := hW0.symm
  first
    | rw [hfold]
    | skip
  rw [← hW0] at B0 R0 O0
  clear hfold hW0
  have hzw : w.heap.size + 1 + 1 < W0.heap.size := O0.out.lt
  have Z0 := hide (Below.refl (w.heap.size + 2) W0)
  go_loopw [8, 9, 10, 16] (fun _ _ _ s16 wr => ∃ (k : Nat) (ys : List Se) (A : Option Addr) (c : Nat), k ≤ a.sn ∧ s16 = .int .i64 k ∧ ys.length = k ∧ Box wr (w.heap.size + 1 + 1) 27 #[.int .i64 a.yr, .slice a.fA a.fn a.fc, .slice a.oA a.on a.oc, .slice a.bA a.bn a.bc, .slice A k c, .int .i64 a.nx] ∧ wr.ownsRow (w.heap.size + 3) 76 9 (.slice A k c) k (ys.flatMap seE) ∧ SesQ ((expL a.s u).take k) ys ∧ (∀ y ∈ ys, SeS wr wr.heap.size y ∧ (∀ g, Value.ownBlock (.slice A k c) = some g → SeN y g) ∧ SeN y (w.heap.size + 1) ∧ SeN y (w.heap.size + 1 + 1) ∧ (∀ g, g < w.heap.size → (∀ s ∈ a.s, SeN s g) → SeN y g)) ∧ Below (w.heap.size + 2) W0 wr) (fun _ _ _ s16 _ => a.sn - (intOf s16).toNat)
  case atStart => exact ⟨0, [], none, 0, Nat.zero_le _, rfl, rfl, O0.out, World.ownsRow_nil _ _ _ _, SesQ.nil, by simp, Z0.out⟩
  case round =>
    clear Z0 O0
    obtain ⟨k, ys, A, c, hk, rfl, hyl, hO, ho, hq, hys, hb⟩ := hrel
    have HYL := hide hyl
    have OW := hide hO
    have HO := hide ho
    have HQ := hide hq
    have HYS := hide hys
    have HB := hide hb
    have hzr : w.heap.size + 1 + 1 < wr.heap.size := Nat.lt_of_lt_of_le hzw hb.size
    have BW := hide (B0.out.trans (hb.mono (by omega)))
    clear hyl hO ho hq hys hb
    by_cases hlt : k < a.sn
    · have hkz : (k : Int) < (a.sn : Int) := by omega
      obtain ⟨b, off, x, hA, hbB, hx, c0, c1, c2, c3, c4, c5, c6, c7, c8⟩ := Ses_at (HS.out.s.below BW.out) hlt
      rw [hA]
      have HXM := hide (List.mem_of_getElem? hx)
      have HTK := hide (expL_step (u := u) hx)
      have HB1 := hide ((Below.refl wr.heap.size wr).alloc (Nat.le_refl _) (.cells (seC x) 76))
      have HC := hide (HE.out x HXM.out _ (BW.out.trans (HB1.out.mono BW.out.size)))
      unfold seC at HC
      clear hx hA
      go_wp2_with fail
      refine HC.out.mono ?_
      rintro e w2 ⟨z, rfl, hz, hqz, hb, hna⟩
      have HZ := hide hz
      have HQZ := hide hqz
      have HB2 := hide (HB1.out.trans (hb.mono (by simp)))
      have HNA := hide (fun g (h1 : g < wr.heap.size) h2 => hna g (by simp; omega) h2)
      clear hz hqz hb hna HC c0 c1 c2 c3 c4 c5 c6 c7 c8 HB1
      obtain ⟨w3, hw3⟩ : ∃ w3, w3 = w2.alloc (.cells (seC z) 76) := ⟨_, rfl⟩
      have Y3 := hide (show Box w3 w2.heap.size 76 (seC z) by rw [hw3]; exact Box.new w2 76 (seC z))
      have HB3 := hide (show Below wr.heap.size wr w3 by rw [hw3]; exact HB2.out.alloc HB2.out.size _)
      have HZ3 := hide (show SeS w3 w3.heap.size z by rw [hw3]; exact (HZ.out.below ((Below.refl w2.heap.size w2).alloc (Nat.le_refl _) _)).more (by simp))
      go_upto_region 7 with fail
      have hfold3 : w2.alloc (.cells #[.int .i64 z.rcd, .int .i64 z.start, .int .i64 z.every, .int .i64 z.pv, .int .i64 z.fv, .slice z.skA z.skn z.skc, .slice z.dbA z.dbn z.dbc, .int .i64 z.nx, .slice z.iuA z.iun z.iuc] 76) = w3 := hw3.symm
      rw [hfold3]
      have hz3 : w.heap.size + 1 + 1 < w3.heap.size := Nat.lt_of_lt_of_le hzr HB3.out.size
      clear hfold3 hw3 HZ HB2
      have y0 := Y3.out.cell 0
      have y1 := Y3.out.cell 1
      have y2 := Y3.out.cell 2
      have y3 := Y3.out.cell 3
      have y4 := Y3.out.cell 4
      have y5 := Y3.out.cell 5
      have y6 := Y3.out.cell 6
      have y7 := Y3.out.cell 7
      have y8 := Y3.out.cell 8
      simp at y0 y1 y2 y3 y4 y5 y6 y7 y8
      have O3 := hide (OW.out.below HB3.out OW.out.lt)
      have o4 := O3.out.cell 4
      simp at o4
      have HO3 := hide (own_bel HO.out HB3.out)
      have HO4 := hide (show ∀ o, (w3.alloc o).ownsRow (w.heap.size + 3) 76 9 (.slice A k c) k (ys.flatMap seE) from fun o => HO3.out.alloc o)
      go_wp2_with (at_builtin; go_must (refine wpList_append_sl _ rfl _ _ 25 rfl (w.heap.size + 3) 76 i0 _ 120 Tryz.underlying25 HI.out.1 HI.out.2.1 HI.out.2.2.1 HI.out.2.2.2 rfl (by decide) seE_len seE_one _ _ _ rfl (HO4.out _) _ 1 1 rfl (se_sl1 (x := z) (Box.new _ _ _)) (by unfold maxLen; omega) (by omega) (by first | (simp; omega) | (simp only [World.size_alloc]; omega)) ?_))
      intro v' w5 hown hg hat
      obtain ⟨WX, hWX⟩ : ∃ WX, WX = w3.alloc (.cells (seC z) 76) := ⟨_, rfl⟩
      have hg2 : WX.grownBy w5 (Value.ownBlock (.slice A k c)) := by rw [hWX]; exact hg
      have hat2 : v'.ownBlock = Value.ownBlock (.slice A k c) ∨ v'.ownBlock = some WX.heap.size := by rw [hWX, World.size_alloc]; exact hat
      have HBX := hide (show Below wr.heap.size wr WX by rw [hWX]; exact HB3.out.alloc HB3.out.size _)
      have HZX := hide (show SeS WX WX.heap.size z by rw [hWX]; exact (HZ3.out.below ((Below.refl w3.heap.size w3).alloc (Nat.le_refl _) _)).more (by simp))
      have HG := hide hg2
      have hsz5 : (ys ++ [z]).length = k + 1 := by rw [List.length_append, HYL.out]; rfl
      have HSZ5 := hide hsz5
      have hown2 : w5.ownsRow (w.heap.size + 3) 76 9 v' (k + 1) ((ys ++ [z]).flatMap seE) := by rw [List.flatMap_append]; simpa using hown
      obtain ⟨A', c', hv', _⟩ := Seo_sl (show Seo w5 (w.heap.size + 3) v' (ys ++ [z]) by unfold Seo; rw [hsz5]; exact hown2) (by rw [hsz5]; omega)
      rw [hsz5] at hv'
      subst hv'
      have HAT := hide hat2
      have HOW := hide hown2
      clear hown hown2 hg hat hg2 hat2 hWX y0 y1 y2 y3 y4 y5 y6 y7 y8 o4 HO3 HO4 Y3 O3 hsz5
      have HXz := hide (show wr.heap.size ≤ WX.heap.size by have := HBX.out.size; omega)
      have HNz := hide (show ∀ g, g < wr.heap.size → w.heap.size ≤ g → SeN z g from fun g h1 h2 => HNA.out g h1 ((HS.out.ss x HXM.out).old h2))
      have HYX := hide (show ∀ y ∈ ys ++ [z], SeS WX WX.heap.size y ∧ ∀ g, Value.ownBlock (.slice A k c) = some g → SeN y g by
        intro y hy
        rcases List.mem_append.1 hy with hy | hy
        · exact ⟨((HYS.out y hy).1.below HBX.out).more HXz.out, (HYS.out y hy).2.1⟩
        · rw [List.mem_singleton.1 hy]
          refine ⟨HZX.out, fun g hg => HNz.out g ?_ ?_⟩
          · exact (HO.out.lt g hg).2
          · have := (HO.out.lt g hg).1; omega)
      have HY5 := hide (show ∀ y ∈ ys ++ [z], SeS w5 w5.heap.size y ∧ (∀ g, Value.ownBlock (.slice A' (k + 1) c') = some g → SeN y g) ∧ SeN y (w.heap.size + 1) ∧ SeN y (w.heap.size + 1 + 1) ∧ (∀ g, g < w.heap.size → (∀ s ∈ a.s, SeN s g) → SeN y g) by
        intro y hy
        obtain ⟨h1, h2⟩ := HYX.out y hy
        refine ⟨(h1.grownN HG.out (Nat.le_refl _) h2).more (HG.out.size), fun g hg => ?_, ?_, ?_, fun g h7 h8 => ?_⟩
        · rcases HAT.out with e | e
          · exact h2 g (by rw [← e]; exact hg)
          · rw [e] at hg; cases hg; exact h1.old (Nat.le_refl _)
        · rcases List.mem_append.1 hy with hy | hy
          · exact (HYS.out y hy).2.2.1
          · rw [List.mem_singleton.1 hy]; exact HNz.out _ (by omega) (by omega)
        · rcases List.mem_append.1 hy with hy | hy
          · exact (HYS.out y hy).2.2.2.1
          · rw [List.mem_singleton.1 hy]; exact HNz.out _ (by omega) (by omega)
        · rcases List.mem_append.1 hy with hy | hy
          · exact (HYS.out y hy).2.2.2.2 g h7 h8
          · rw [List.mem_singleton.1 hy]; exact HNA.out g (by omega) (h8 x HXM.out))
      have hrow : ∀ q, Value.ownBlock (.slice A k c) = some q → w.heap.size + 3 ≤ q := fun q hq => (HO.out.lt q hq).1
      have HB5 := hide (((HB.out.trans (HBX.out.mono (by omega)))).grown HG.out (by have := HBX.out.size; omega) (by intro q hq; have := hrow q hq; omega))
      have O5 := hide (Box.grown (OW.out.below HBX.out OW.out.lt) HG.out (fun e => by have := hrow _ e.symm; omega))
      have o4 := O5.out.cell 4
      have of4 := O5.out.frz 4
      simp at o4
      clear hrow
      go_wp2
      go_roundw
      case rel =>
        refine ⟨k + 1, ys ++ [z], A', c', by omega, by go_num, HSZ5.out, box_set4 O5.out _, own_setp HOW.out (p := ⟨w.heap.size + 1 + 1, 4, none⟩) (by show w.heap.size + 1 + 1 < _; omega) _, ?_, fun y hy => ?_, HB5.out.setCell (p := ⟨w.heap.size + 1 + 1, 4, none⟩) (by show _ ≤ w.heap.size + 1 + 1; omega) _⟩
        · rw [HTK.out]
          exact HQ.out.snoc HQZ.out
        · obtain ⟨h1, h2, h3, h4, h5⟩ := HY5.out y hy
          exact ⟨(h1.far (p := ⟨w.heap.size + 1 + 1, 4, none⟩) h4 _).more (by simp), h2, h3, h4, h5⟩
      case measure => simp [intOf]; omega
    · have hkz : ¬ (k : Int) < (a.sn : Int) := by omega
      have hke : k = a.sn := by omega
      have HQA := hide (show SesQ (expL a.s u) ys by
        have h := HQ.out
        rwa [List.take_of_length_le (by rw [expL_len, HLEN.out]; omega)] at h)
      have RW := hide (R0.out.below HB.out (by omega))
      clear hke hlt
      have x0 := OW.out.cell 0
      have x1 := OW.out.cell 1
      have x2 := OW.out.cell 2
      have x3 := OW.out.cell 3
      have x4 := OW.out.cell 4
      have x5 := OW.out.cell 5
      simp at x0 x1 x2 x3 x4 x5
      have fx := fun j => OW.out.frz j
      have r0 := RW.out.cell 0
      have r1 := RW.out.cell 1
      have r2 := RW.out.cell 2
      have r3 := RW.out.cell 3
      have r4 := RW.out.cell 4
      have r5 := RW.out.cell 5
      simp [aq0] at r0 r1 r2 r3 r4 r5
      have fr := fun j => RW.out.frz j
      have HB9 := hide (below_aq BW.out (show w.heap.size ≤ w.heap.size + 1 by omega) (.int .i64 a.yr) (.slice a.fA a.fn a.fc) (.slice a.oA a.on a.oc) (.slice a.bA a.bn a.bc) (.slice A k c) (.int .i64 a.nx))
      go_wp2
      refine bodyPost_ret (v := .tuple #[aqV { a with sA := A, sn := k, sc := c, s := ys }, .int .i64 0]) (by simp [results, Tryz.results48, go_sem, r0, r1, r2, r3, r4, r5, x0, x1, x2, x3, x4, x5, aqV]) rfl ?_
      refine ⟨_, rfl, ?_, AqQ.subs HQA.out A k c, HB9.out, fun g h7 h8 y hy => (HYS.out y hy).2.2.2.2 g h7 h8⟩
      have h9 := HB9.out
      refine ⟨(HS.out.f.below h9).more h9.size, (HS.out.o.below h9).more h9.size, fun y hy => ((HS.out.os y hy).below h9).more h9.size, (HS.out.b.below h9).more h9.size, ?_, fun y hy => ?_⟩
      · refine Sl.of_own seE_len (base := w.heap.size + 3) (e := 76) ?_ HYL.out (show k ≤ 140737488355328 by omega)
        (iterate 6 (refine own_setp ?_ (by show w.heap.size + 1 < _; omega) _))
        exact HO.out
      · obtain ⟨h1, _, h3, _, _⟩ := HYS.out y hy
        exact (h1.far6 h3 _ _ _ _ _ _).more (by simp)
end Go.Proofs.YtbhndfphegflhaaGreat

/- Arrive of the reference, at a state. Printed by gen_aq_sc.py. -/
namespace Go.Proofs.YtbhndfphegflhaaGreat
open Go.RowKit

theorem arrL_none {xs : List Se} {r v n t : Int} (h : ix (fun s => s.rcd == r) xs = -1) : arrL xs r v n t = (9, []) := by unfold arrL; rw [h, if_pos (by decide)]
theorem arrL_at {xs : List Se} {r v n t : Int} {i : Nat} {x : Se} (h : ix (fun s => s.rcd == r) xs = (i : Int)) (hx : xs[i]? = some x) :
    arrL xs r v n t = if (rcvS x v n t).1 = 0 then (0, xs.set i (rcvS x v n t).2) else ((rcvS x v n t).1, []) := by
  unfold arrL
  rw [h, if_neg (by omega), Int.toNat_natCast, List.getD_eq_getElem?_getD, hx]
  rfl
theorem set_take_eq {α : Type} {xs : List α} {k : Nat} {x y : α} (h : xs[k]? = some x) : (xs.set k y).take (k + 1) = xs.take k ++ [y] := by
  rw [take_step (set_get h)]
  congr 1
  exact List.take_set_of_le (Nat.le_refl _)
theorem set_take_ne {α : Type} {xs : List α} {i k : Nat} {x y : α} (h : xs[k]? = some x) (hi : i < k) : (xs.set i y).take (k + 1) = (xs.set i y).take k ++ [x] := by
  refine take_step ?_
  rw [List.getElem?_set_ne (by omega)]
  exact h
theorem pw_ne {xs : List Se} (hp : xs.Pairwise (fun x y => x.rcd < y.rcd)) {i k : Nat} {x y : Se} (hi : i < k) (hx : xs[i]? = some x) (hy : xs[k]? = some y) : x.rcd < y.rcd := by
  obtain ⟨h1, rfl⟩ := List.getElem?_eq_some_iff.1 hx
  obtain ⟨h2, rfl⟩ := List.getElem?_eq_some_iff.1 hy
  exact List.pairwise_iff_getElem.1 hp i k h1 h2 hi
theorem box_set9 {w : World} {g : Nat} {t : TypeId} {c0 c1 c2 c3 c4 c5 c6 c7 c8 : Value} (h : Box w g t #[c0, c1, c2, c3, c4, c5, c6, c7, c8]) (u0 u1 u2 u3 u4 u5 u6 u7 u8 : Value) :
    Box (((((((((w.setCell ⟨g, 0, none⟩ u0).setCell ⟨g, 1, none⟩ u1).setCell ⟨g, 2, none⟩ u2).setCell ⟨g, 3, none⟩ u3).setCell ⟨g, 4, none⟩ u4).setCell ⟨g, 5, none⟩ u5).setCell ⟨g, 6, none⟩ u6).setCell ⟨g, 7, none⟩ u7).setCell ⟨g, 8, none⟩ u8) g t #[u0, u1, u2, u3, u4, u5, u6, u7, u8] := by
  have := ((((((((h.set_ 0 u0).set_ 1 u1).set_ 2 u2).set_ 3 u3).set_ 4 u4).set_ 5 u5).set_ 6 u6).set_ 7 u7).set_ 8 u8
  simpa using this
theorem SeS.far9 {w : World} {B : Nat} {s : Se} (h : SeS w B s) {g : Nat} (hn : SeN s g) (u0 u1 u2 u3 u4 u5 u6 u7 u8 : Value) :
    SeS (((((((((w.setCell ⟨g, 0, none⟩ u0).setCell ⟨g, 1, none⟩ u1).setCell ⟨g, 2, none⟩ u2).setCell ⟨g, 3, none⟩ u3).setCell ⟨g, 4, none⟩ u4).setCell ⟨g, 5, none⟩ u5).setCell ⟨g, 6, none⟩ u6).setCell ⟨g, 7, none⟩ u7).setCell ⟨g, 8, none⟩ u8) B s :=
  (((h.far6 hn u0 u1 u2 u3 u4 u5).far (p := ⟨g, 6, none⟩) hn u6).far (p := ⟨g, 7, none⟩) hn u7).far (p := ⟨g, 8, none⟩) hn u8

set_option maxRecDepth 100000 in
set_option maxHeartbeats 16000000 in
theorem rarr_any (a : Aq) (r v n t : Int) (w : World) (hs : AqS w w.heap.size a) (hv : ∀ s ∈ a.s, SeV s) (hp : a.s.Pairwise (fun x y => x.rcd < y.rcd)) (hn : a.sn ≤ 100) :
    Calls Tryz.prog 46 #[aqV a, .int .i64 r, .int .i64 v, .int .i64 n, .int .i64 t] w (ResQ w a (arrL a.s r v n t).1 (arrL a.s r v n t).2) := by
  obtain ⟨i0, hi0, hz0, hz1, hz2⟩ := info_parts se_info
  have HI := hide (And.intro hi0 (And.intro hz0 (And.intro hz1 hz2)))
  have B0 := hide (((Below.refl w.heap.size w).alloc (Nat.le_refl _) (.cells (aqC a) 27)).alloc (by simp) (.cells (aqC aq0) 27))
  have X0 := hide ((Box.new w 27 (aqC a)).alloc (.cells (aqC aq0) 27))
  have R0 := hide (Box.new (w.alloc (.cells (aqC a) 27)) 27 (aqC aq0))
  rw [World.size_alloc] at R0
  have HS := hide hs
  have HP := hide hp
  have HE := hide (fun x (hx : x ∈ a.s) W (h : Below w.heap.size w W) => rrcv37_any x v n t W (((hs.ss x hx).below h).more h.size) (hv x hx))
  have hlen := hs.s.len
  have hbig := hs.s.big
  have HLEN := hide hlen
  clear hs hv hp hi0 hz0 hz1 hz2 hlen
  unfold ResSe seV at HE
  unfold aqV
  go_enter Tryz.func46, Tryz.ntmps46
  go_wp2
  obtain ⟨W0, hW0⟩ : ∃ W0, W0 = (w.alloc (.cells (aqC a) 27)).alloc (.cells (aqC aq0) 27) := ⟨_, rfl⟩
  have hfold : (w.alloc (.cells (aqC a) 27)).alloc (.cells #[.int .i64 0, .slice none 0 0, .slice none 0 0, .slice none 0 0, .slice none 0 0, .int .i64 0] 27) = W0 := hW0.symm
  first
    | rw [hfold]
    | skip
  rw [← hW0] at B0 X0 R0
  clear hfold hW0
  have hzw : w.heap.size + 1 < W0.heap.size := R0.out.lt
  have Z0 := hide (Below.refl (w.heap.size + 2) W0)
  go_loopw [12, 13, 14, 15, 16, 17] (fun vv s13 s14 _ _ _ wr => ∃ (k : Nat) (ys : List Se), k ≤ a.sn ∧ s14 = .int .i64 k ∧ Seo wr (w.heap.size + 2) vv ys ∧ (∀ y ∈ ys, SeS wr wr.heap.size y ∧ (∀ g, vv.ownBlock = some g → SeN y g) ∧ SeN y w.heap.size ∧ SeN y (w.heap.size + 1)) ∧ Below (w.heap.size + 2) W0 wr ∧
    ((s13 = .bool false ∧ SesQ (a.s.take k) ys ∧ ix (fun s => s.rcd == r) a.s = idxP (fun s => s.rcd == r) (a.s.drop k) k) ∨ (s13 = .bool true ∧ ∃ i x, i < k ∧ ix (fun s => s.rcd == r) a.s = (i : Nat) ∧ a.s[i]? = some x ∧ x.rcd = r ∧ (rcvS x v n t).1 = 0 ∧ SesQ ((a.s.set i (rcvS x v n t).2).take k) ys))) (fun _ _ s14 _ _ _ _ => a.sn - (intOf s14).toNat)
  case atStart => exact ⟨0, [], Nat.zero_le _, rfl, World.ownsRow_nil _ _ _ _, by simp, Z0.out, .inl ⟨rfl, SesQ.nil, rfl⟩⟩
  case round =>
    clear Z0
    obtain ⟨k, ys, hk, rfl, ho, hys, hb, hcase⟩ := hrel
    have HO := hide ho
    have HYS := hide hys
    have HB := hide hb
    have hzr : w.heap.size + 1 < wr.heap.size := Nat.lt_of_lt_of_le hzw hb.size
    have BW := hide (B0.out.trans (hb.mono (by omega)))
    have XW := hide (X0.out.below hb (by omega))
    have HYL := hide (show ys.length = k by
      rcases hcase with ⟨_, h, _⟩ | ⟨_, i, x, _, _, _, _, _, h⟩
      · rw [← h.l, List.length_take, HLEN.out]; omega
      · rw [← h.l, List.length_take, List.length_set, HLEN.out]; omega)
    clear ho hys hb
    have x4 := XW.out.cell 4
    simp at x4
    by_cases hlt : k < a.sn
    · have hkz : (k : Int) < (a.sn : Int) := by omega
      obtain ⟨b, off, x, hA, hbB, hx, c0, c1, c2, c3, c4, c5, c6, c7, c8⟩ := Ses_at (HS.out.s.below BW.out) hlt
      rw [hA] at x4
      have HX := hide hx
      have HXM := hide (List.mem_of_getElem? hx)
      clear hx hA
      rcases hcase with ⟨rfl, hq, hix⟩ | ⟨rfl, i, xi, hi, hix, hxi, hri, hr0, hq⟩
      · have HQ := hide hq
        have HIX := hide hix
        have HST := hide (idxP_step (p := fun s : Se => s.rcd == r) HX.out)
        clear hq hix
        by_cases hr : x.rcd = r
        · have hrb : (x.rcd == r) = true := by simpa using hr
          have HAT0 := hide (arrL_at (r := r) (v := v) (n := n) (t := t) (show ix (fun s : Se => s.rcd == r) a.s = (k : Int) by rw [HIX.out, HST.out]; simp [hr]) HX.out)
          have HIK := hide (show ix (fun s : Se => s.rcd == r) a.s = (k : Nat) by rw [HIX.out, HST.out]; simp [hr])
          have HRR := hide hr
          have HB1 := hide ((Below.refl wr.heap.size wr).alloc (Nat.le_refl _) (.cells (seC x) 76))
          have HC := hide (HE.out x HXM.out _ (BW.out.trans (HB1.out.mono BW.out.size)))
          have T1 := hide (Box.new wr 76 (seC x))
          unfold seC at HC
          obtain ⟨rr, hrr⟩ : ∃ rr, rcvS x v n t = rr := ⟨_, rfl⟩
          have HRV := hide hrr
          rw [hrr] at HC HAT0
          clear hr hrr
          go_wp2_with fail
          refine HC.out.mono ?_
          rintro e w2 ⟨z, rfl, hz, hqz, hb, hna⟩
          have HZ := hide hz
          have HQZ := hide hqz
          have HB2 := hide (HB1.out.trans (hb.mono (by simp)))
          have HNA := hide (fun g (h1 : g ≤ wr.heap.size) h2 => hna g (by simp; omega) h2)
          have T2 := hide (T1.out.below hb (by simp))
          clear hz hqz hb hna HC c0 c1 c2 c3 c4 c5 c6 c7 c8 HB1 T1 x4
          obtain ⟨w3, hw3⟩ : ∃ w3, w3 = w2.alloc (.cells (seC z) 76) := ⟨_, rfl⟩
          have Y3 := hide (show Box w3 w2.heap.size 76 (seC z) by rw [hw3]; exact Box.new w2 76 (seC z))
          have T3 := hide (show Box w3 wr.heap.size 76 (seC x) by rw [hw3]; exact T2.out.alloc _)
          have HB3 := hide (show Below wr.heap.size wr w3 by rw [hw3]; exact HB2.out.alloc HB2.out.size _)
          have HZ3 := hide (show SeS w3 w3.heap.size z by rw [hw3]; exact (HZ.out.below ((Below.refl w2.heap.size w2).alloc (Nat.le_refl _) _)).more (by simp))
          have hwz2 : wr.heap.size ≠ w2.heap.size := by have := T2.out.lt; omega
          go_upto_region 9 with fail
          have hfold3 : w2.alloc (.cells #[.int .i64 z.rcd, .int .i64 z.start, .int .i64 z.every, .int .i64 z.pv, .int .i64 z.fv, .slice z.skA z.skn z.skc, .slice z.dbA z.dbn z.dbc, .int .i64 z.nx, .slice z.iuA z.iun z.iuc] 76) = w3 := hw3.symm
          rw [hfold3]
          clear hfold3 hw3 HZ HB2 T2
          by_cases he : rr.1 = 0
          · have heb : (rr.1 != 0) = false := by simp [he]
            have HER := hide he
            clear he
            have p0 := Y3.out.cell 0
            have p1 := Y3.out.cell 1
            have p2 := Y3.out.cell 2
            have p3 := Y3.out.cell 3
            have p4 := Y3.out.cell 4
            have p5 := Y3.out.cell 5
            have p6 := Y3.out.cell 6
            have p7 := Y3.out.cell 7
            have p8 := Y3.out.cell 8
            simp at p0 p1 p2 p3 p4 p5 p6 p7 p8
            have q0 := T3.out.cell 0
            have q1 := T3.out.cell 1
            have q2 := T3.out.cell 2
            have q3 := T3.out.cell 3
            have q4 := T3.out.cell 4
            have q5 := T3.out.cell 5
            have q6 := T3.out.cell 6
            have q7 := T3.out.cell 7
            have q8 := T3.out.cell 8
            simp at q0 q1 q2 q3 q4 q5 q6 q7 q8
            have qf := fun j => T3.out.frz j
            have HNz := hide (show ∀ g, g < wr.heap.size → w.heap.size ≤ g → SeN z g from fun g h1 h2 => HNA.out g (by omega) ((HS.out.ss x HXM.out).old h2))
            have HNt := hide (show SeN z wr.heap.size from HNA.out _ (Nat.le_refl _) ((HS.out.ss x HXM.out).old (by omega)))
            go_upto_region 13 with fail
            obtain ⟨wA, hwA⟩ : ∃ wA, wA = (((((((((w3.setCell ⟨wr.heap.size, 0, none⟩ (.int .i64 z.rcd)).setCell ⟨wr.heap.size, 1, none⟩ (.int .i64 z.start)).setCell ⟨wr.heap.size, 2, none⟩ (.int .i64 z.every)).setCell ⟨wr.heap.size, 3, none⟩ (.int .i64 z.pv)).setCell ⟨wr.heap.size, 4, none⟩ (.int .i64 z.fv)).setCell ⟨wr.heap.size, 5, none⟩ (.slice z.skA z.skn z.skc)).setCell ⟨wr.heap.size, 6, none⟩ (.slice z.dbA z.dbn z.dbc)).setCell ⟨wr.heap.size, 7, none⟩ (.int .i64 z.nx)).setCell ⟨wr.heap.size, 8, none⟩ (.slice z.iuA z.iun z.iuc)) := ⟨_, rfl⟩
            have TA1 := hide (show Box wA wr.heap.size 76 (seC z) by rw [hwA]; exact box_set9 T3.out _ _ _ _ _ _ _ _ _)
            have HBA := hide (show Below wr.heap.size wr wA by rw [hwA]; exact below_se HB3.out (Nat.le_refl _) _ _ _ _ _ _ _ _ _)
            have HZA := hide (show SeS wA wA.heap.size z by rw [hwA]; exact (HZ3.out.far9 HNt.out _ _ _ _ _ _ _ _ _).more (by simp))
            rw [← hwA]
            clear hwA p0 p1 p2 p3 p4 p5 p6 p7 p8 q0 q1 q2 q3 q4 q5 q6 q7 q8 qf Y3 T3 HZ3 HB3
            have y0 := TA1.out.cell 0
            have y1 := TA1.out.cell 1
            have y2 := TA1.out.cell 2
            have y3 := TA1.out.cell 3
            have y4 := TA1.out.cell 4
            have y5 := TA1.out.cell 5
            have y6 := TA1.out.cell 6
            have y7 := TA1.out.cell 7
            have y8 := TA1.out.cell 8
            simp at y0 y1 y2 y3 y4 y5 y6 y7 y8
            have hzA : w.heap.size + 1 < wA.heap.size := Nat.lt_of_lt_of_le hzr HBA.out.size
            have HO3 := hide (own_bel HO.out HBA.out)
            have HO4 := hide (show ∀ o, (wA.alloc o).ownsRow (w.heap.size + 2) 76 9 u12 ys.length (ys.flatMap seE) from fun o => HO3.out.alloc o)
            go_wp2_with (at_builtin; go_must (refine wpList_append_sl _ rfl _ _ 25 rfl (w.heap.size + 2) 76 i0 _ 120 Tryz.underlying25 HI.out.1 HI.out.2.1 HI.out.2.2.1 HI.out.2.2.2 rfl (by decide) seE_len seE_one _ _ _ rfl (HO4.out _) _ 1 1 rfl (se_sl1 (x := z) (Box.new _ _ _)) (by rw [HYL.out]; unfold maxLen; omega) (by rw [HYL.out]; omega) (by first | (simp; omega) | (simp only [World.size_alloc]; omega)) ?_))
            intro v' w5 hown hg hat
            obtain ⟨WX, hWX⟩ : ∃ WX, WX = wA.alloc (.cells (seC z) 76) := ⟨_, rfl⟩
            have hg2 : WX.grownBy w5 (Value.ownBlock u12) := by rw [hWX]; exact hg
            have hat2 : v'.ownBlock = Value.ownBlock u12 ∨ v'.ownBlock = some WX.heap.size := by rw [hWX, World.size_alloc]; exact hat
            have HBX := hide (show Below wr.heap.size wr WX by rw [hWX]; exact HBA.out.alloc HBA.out.size _)
            have HZX := hide (show SeS WX WX.heap.size z by rw [hWX]; exact (HZA.out.below ((Below.refl wA.heap.size wA).alloc (Nat.le_refl _) _)).more (by simp))
            have HG := hide hg2
            have HAT := hide hat2
            have HOW := hide hown
            clear hown hg hat hg2 hat2 hWX y0 y1 y2 y3 y4 y5 y6 y7 y8 HO3 HO4 TA1
            have HXz := hide (show wr.heap.size ≤ WX.heap.size by have := HBX.out.size; omega)
            have HYX := hide (show ∀ y ∈ ys ++ [z], SeS WX WX.heap.size y ∧ ∀ g, Value.ownBlock u12 = some g → SeN y g by
              intro y hy
              rcases List.mem_append.1 hy with hy | hy
              · exact ⟨((HYS.out y hy).1.below HBX.out).more HXz.out, (HYS.out y hy).2.1⟩
              · rw [List.mem_singleton.1 hy]
                refine ⟨HZX.out, fun g hg => HNz.out g ?_ ?_⟩
                · exact (HO.out.lt g hg).2
                · have := (HO.out.lt g hg).1; omega)
            have HY5 := hide (show ∀ y ∈ ys ++ [z], SeS w5 w5.heap.size y ∧ (∀ g, v'.ownBlock = some g → SeN y g) ∧ SeN y w.heap.size ∧ SeN y (w.heap.size + 1) by
              intro y hy
              obtain ⟨h1, h2⟩ := HYX.out y hy
              refine ⟨(h1.grownN HG.out (Nat.le_refl _) h2).more (HG.out.size), fun g hg => ?_, ?_, ?_⟩
              · rcases HAT.out with e | e
                · exact h2 g (by rw [← e]; exact hg)
                · rw [e] at hg; cases hg; exact h1.old (Nat.le_refl _)
              · rcases List.mem_append.1 hy with hy | hy
                · exact (HYS.out y hy).2.2.1
                · rw [List.mem_singleton.1 hy]; exact HNz.out _ (by omega) (Nat.le_refl _)
              · rcases List.mem_append.1 hy with hy | hy
                · exact (HYS.out y hy).2.2.2
                · rw [List.mem_singleton.1 hy]; exact HNz.out _ (by omega) (by omega))
            have HB5 := hide (((HB.out.trans (HBX.out.mono (by omega)))).grown HG.out (by have := HBX.out.size; omega) (by intro q hq; exact (HO.out.lt q hq).1))
            go_wp2
            go_roundw
            case rel =>
              refine ⟨k + 1, ys ++ [z], by omega, by go_num, ?_, HY5.out, HB5.out, ?_⟩
              · unfold Seo
                rw [List.flatMap_append, List.length_append]
                have h1 := HOW.out
                simpa using h1
              · refine .inr ⟨rfl, k, x, by omega, HIK.out, HX.out, HRR.out, by rw [HRV.out]; exact HER.out, ?_⟩; rw [HRV.out, set_take_eq HX.out]; exact HQ.out.snoc HQZ.out
            case measure => simp [intOf]; omega
          · have heb : (rr.1 != 0) = true := by simpa using he
            have HER := hide he
            have R3 := hide ((R0.out.below HB.out (by omega)).below HB3.out (by omega))
            have HRES := hide (show arrL a.s r v n t = (rr.1, []) by rw [HAT0.out, if_neg he])
            clear he
            have r0 := R3.out.cell 0
            have r1 := R3.out.cell 1
            have r2 := R3.out.cell 2
            have r3 := R3.out.cell 3
            have r4 := R3.out.cell 4
            have r5 := R3.out.cell 5
            simp [aq0] at r0 r1 r2 r3 r4 r5
            have fr := fun j => R3.out.frz j
            go_wp2
            refine bodyPost_ret (v := .tuple #[aqV aq0, .int .i64 rr.1]) (by simp [results, Tryz.results46, go_sem, r0, r1, r2, r3, r4, r5, aqV, aq0]) rfl ?_
            rw [HRES.out]
            exact resQ_err HER.out (below_aq (BW.out.trans (HB3.out.mono BW.out.size)) (show w.heap.size ≤ w.heap.size + 1 by omega) _ _ _ _ _ _)
        · have hrb : (x.rcd == r) = false := by simpa using hr
          have HNI := hide (show ix (fun s : Se => s.rcd == r) a.s = idxP (fun s : Se => s.rcd == r) (a.s.drop (k + 1)) ((k + 1 : Nat) : Int) by rw [HIX.out, HST.out]; simp [hr])
          clear hr
          obtain ⟨wA, hwA⟩ : ∃ wA, wA = wr.alloc (.cells (seC x) 76) := ⟨_, rfl⟩
          have TA1 := hide (show Box wA wr.heap.size 76 (seC x) by rw [hwA]; exact Box.new wr 76 (seC x))
          have HBA := hide (show Below wr.heap.size wr wA by rw [hwA]; exact (Below.refl wr.heap.size wr).alloc (Nat.le_refl _) _)
          have HZA := hide (show SeS wA wA.heap.size x from ((HS.out.ss x HXM.out).below (BW.out.trans (HBA.out.mono BW.out.size))).more (BW.out.trans (HBA.out.mono BW.out.size)).size)
          have HNz := hide (show ∀ g, g < wr.heap.size → w.heap.size ≤ g → SeN x g from fun g h1 h2 => (HS.out.ss x HXM.out).old h2)
          go_upto_region 13 with fail
          have hfoldA : wr.alloc (.cells #[.int .i64 x.rcd, .int .i64 x.start, .int .i64 x.every, .int .i64 x.pv, .int .i64 x.fv, .slice x.skA x.skn x.skc, .slice x.dbA x.dbn x.dbc, .int .i64 x.nx, .slice x.iuA x.iun x.iuc] 76) = wA := hwA.symm
          rw [hfoldA]
          clear hfoldA hwA
          clear c0 c1 c2 c3 c4 c5 c6 c7 c8 x4
          have y0 := TA1.out.cell 0
          have y1 := TA1.out.cell 1
          have y2 := TA1.out.cell 2
          have y3 := TA1.out.cell 3
          have y4 := TA1.out.cell 4
          have y5 := TA1.out.cell 5
          have y6 := TA1.out.cell 6
          have y7 := TA1.out.cell 7
          have y8 := TA1.out.cell 8
          simp at y0 y1 y2 y3 y4 y5 y6 y7 y8
          have hzA : w.heap.size + 1 < wA.heap.size := Nat.lt_of_lt_of_le hzr HBA.out.size
          have HO3 := hide (own_bel HO.out HBA.out)
          have HO4 := hide (show ∀ o, (wA.alloc o).ownsRow (w.heap.size + 2) 76 9 u12 ys.length (ys.flatMap seE) from fun o => HO3.out.alloc o)
          go_wp2_with (at_builtin; go_must (refine wpList_append_sl _ rfl _ _ 25 rfl (w.heap.size + 2) 76 i0 _ 120 Tryz.underlying25 HI.out.1 HI.out.2.1 HI.out.2.2.1 HI.out.2.2.2 rfl (by decide) seE_len seE_one _ _ _ rfl (HO4.out _) _ 1 1 rfl (se_sl1 (x := x) (Box.new _ _ _)) (by rw [HYL.out]; unfold maxLen; omega) (by rw [HYL.out]; omega) (by first | (simp; omega) | (simp only [World.size_alloc]; omega)) ?_))
          intro v' w5 hown hg hat
          obtain ⟨WX, hWX⟩ : ∃ WX, WX = wA.alloc (.cells (seC x) 76) := ⟨_, rfl⟩
          have hg2 : WX.grownBy w5 (Value.ownBlock u12) := by rw [hWX]; exact hg
          have hat2 : v'.ownBlock = Value.ownBlock u12 ∨ v'.ownBlock = some WX.heap.size := by rw [hWX, World.size_alloc]; exact hat
          have HBX := hide (show Below wr.heap.size wr WX by rw [hWX]; exact HBA.out.alloc HBA.out.size _)
          have HZX := hide (show SeS WX WX.heap.size x by rw [hWX]; exact (HZA.out.below ((Below.refl wA.heap.size wA).alloc (Nat.le_refl _) _)).more (by simp))
          have HG := hide hg2
          have HAT := hide hat2
          have HOW := hide hown
          clear hown hg hat hg2 hat2 hWX y0 y1 y2 y3 y4 y5 y6 y7 y8 HO3 HO4 TA1
          have HXz := hide (show wr.heap.size ≤ WX.heap.size by have := HBX.out.size; omega)
          have HYX := hide (show ∀ y ∈ ys ++ [x], SeS WX WX.heap.size y ∧ ∀ g, Value.ownBlock u12 = some g → SeN y g by
            intro y hy
            rcases List.mem_append.1 hy with hy | hy
            · exact ⟨((HYS.out y hy).1.below HBX.out).more HXz.out, (HYS.out y hy).2.1⟩
            · rw [List.mem_singleton.1 hy]
              refine ⟨HZX.out, fun g hg => HNz.out g ?_ ?_⟩
              · exact (HO.out.lt g hg).2
              · have := (HO.out.lt g hg).1; omega)
          have HY5 := hide (show ∀ y ∈ ys ++ [x], SeS w5 w5.heap.size y ∧ (∀ g, v'.ownBlock = some g → SeN y g) ∧ SeN y w.heap.size ∧ SeN y (w.heap.size + 1) by
            intro y hy
            obtain ⟨h1, h2⟩ := HYX.out y hy
            refine ⟨(h1.grownN HG.out (Nat.le_refl _) h2).more (HG.out.size), fun g hg => ?_, ?_, ?_⟩
            · rcases HAT.out with e | e
              · exact h2 g (by rw [← e]; exact hg)
              · rw [e] at hg; cases hg; exact h1.old (Nat.le_refl _)
            · rcases List.mem_append.1 hy with hy | hy
              · exact (HYS.out y hy).2.2.1
              · rw [List.mem_singleton.1 hy]; exact HNz.out _ (by omega) (Nat.le_refl _)
            · rcases List.mem_append.1 hy with hy | hy
              · exact (HYS.out y hy).2.2.2
              · rw [List.mem_singleton.1 hy]; exact HNz.out _ (by omega) (by omega))
          have HB5 := hide (((HB.out.trans (HBX.out.mono (by omega)))).grown HG.out (by have := HBX.out.size; omega) (by intro q hq; exact (HO.out.lt q hq).1))
          go_wp2
          go_roundw
          case rel =>
            refine ⟨k + 1, ys ++ [x], by omega, by go_num, ?_, HY5.out, HB5.out, ?_⟩
            · unfold Seo
              rw [List.flatMap_append, List.length_append]
              have h1 := HOW.out
              simpa using h1
            · exact .inl ⟨rfl, by rw [take_step HX.out]; exact HQ.out.snoc (SeQ.refl x), HNI.out⟩
          case measure => simp [intOf]; omega
      · have HQ := hide hq
        have hlr := pw_ne HP.out hi hxi HX.out
        have hrb : (x.rcd == r) = false := by simp; omega
        have HF := hide (And.intro hi (And.intro hix (And.intro hxi (And.intro hri hr0))))
        clear hq hix hxi hr0 hlr hri
        obtain ⟨wA, hwA⟩ : ∃ wA, wA = wr.alloc (.cells (seC x) 76) := ⟨_, rfl⟩
        have TA1 := hide (show Box wA wr.heap.size 76 (seC x) by rw [hwA]; exact Box.new wr 76 (seC x))
        have HBA := hide (show Below wr.heap.size wr wA by rw [hwA]; exact (Below.refl wr.heap.size wr).alloc (Nat.le_refl _) _)
        have HZA := hide (show SeS wA wA.heap.size x from ((HS.out.ss x HXM.out).below (BW.out.trans (HBA.out.mono BW.out.size))).more (BW.out.trans (HBA.out.mono BW.out.size)).size)
        have HNz := hide (show ∀ g, g < wr.heap.size → w.heap.size ≤ g → SeN x g from fun g h1 h2 => (HS.out.ss x HXM.out).old h2)
        go_upto_region 13 with fail
        have hfoldA : wr.alloc (.cells #[.int .i64 x.rcd, .int .i64 x.start, .int .i64 x.every, .int .i64 x.pv, .int .i64 x.fv, .slice x.skA x.skn x.skc, .slice x.dbA x.dbn x.dbc, .int .i64 x.nx, .slice x.iuA x.iun x.iuc] 76) = wA := hwA.symm
        rw [hfoldA]
        clear hfoldA hwA
        clear c0 c1 c2 c3 c4 c5 c6 c7 c8 x4
        have y0 := TA1.out.cell 0
        have y1 := TA1.out.cell 1
        have y2 := TA1.out.cell 2
        have y3 := TA1.out.cell 3
        have y4 := TA1.out.cell 4
        have y5 := TA1.out.cell 5
        have y6 := TA1.out.cell 6
        have y7 := TA1.out.cell 7
        have y8 := TA1.out.cell 8
        simp at y0 y1 y2 y3 y4 y5 y6 y7 y8
        have hzA : w.heap.size + 1 < wA.heap.size := Nat.lt_of_lt_of_le hzr HBA.out.size
        have HO3 := hide (own_bel HO.out HBA.out)
        have HO4 := hide (show ∀ o, (wA.alloc o).ownsRow (w.heap.size + 2) 76 9 u12 ys.length (ys.flatMap seE) from fun o => HO3.out.alloc o)
        go_wp2_with (at_builtin; go_must (refine wpList_append_sl _ rfl _ _ 25 rfl (w.heap.size + 2) 76 i0 _ 120 Tryz.underlying25 HI.out.1 HI.out.2.1 HI.out.2.2.1 HI.out.2.2.2 rfl (by decide) seE_len seE_one _ _ _ rfl (HO4.out _) _ 1 1 rfl (se_sl1 (x := x) (Box.new _ _ _)) (by rw [HYL.out]; unfold maxLen; omega) (by rw [HYL.out]; omega) (by first | (simp; omega) | (simp only [World.size_alloc]; omega)) ?_))
        intro v' w5 hown hg hat
        obtain ⟨WX, hWX⟩ : ∃ WX, WX = wA.alloc (.cells (seC x) 76) := ⟨_, rfl⟩
        have hg2 : WX.grownBy w5 (Value.ownBlock u12) := by rw [hWX]; exact hg
        have hat2 : v'.ownBlock = Value.ownBlock u12 ∨ v'.ownBlock = some WX.heap.size := by rw [hWX, World.size_alloc]; exact hat
        have HBX := hide (show Below wr.heap.size wr WX by rw [hWX]; exact HBA.out.alloc HBA.out.size _)
        have HZX := hide (show SeS WX WX.heap.size x by rw [hWX]; exact (HZA.out.below ((Below.refl wA.heap.size wA).alloc (Nat.le_refl _) _)).more (by simp))
        have HG := hide hg2
        have HAT := hide hat2
        have HOW := hide hown
        clear hown hg hat hg2 hat2 hWX y0 y1 y2 y3 y4 y5 y6 y7 y8 HO3 HO4 TA1
        have HXz := hide (show wr.heap.size ≤ WX.heap.size by have := HBX.out.size; omega)
        have HYX := hide (show ∀ y ∈ ys ++ [x], SeS WX WX.heap.size y ∧ ∀ g, Value.ownBlock u12 = some g → SeN y g by
          intro y hy
          rcases List.mem_append.1 hy with hy | hy
          · exact ⟨((HYS.out y hy).1.below HBX.out).more HXz.out, (HYS.out y hy).2.1⟩
          · rw [List.mem_singleton.1 hy]
            refine ⟨HZX.out, fun g hg => HNz.out g ?_ ?_⟩
            · exact (HO.out.lt g hg).2
            · have := (HO.out.lt g hg).1; omega)
        have HY5 := hide (show ∀ y ∈ ys ++ [x], SeS w5 w5.heap.size y ∧ (∀ g, v'.ownBlock = some g → SeN y g) ∧ SeN y w.heap.size ∧ SeN y (w.heap.size + 1) by
          intro y hy
          obtain ⟨h1, h2⟩ := HYX.out y hy
          refine ⟨(h1.grownN HG.out (Nat.le_refl _) h2).more (HG.out.size), fun g hg => ?_, ?_, ?_⟩
          · rcases HAT.out with e | e
            · exact h2 g (by rw [← e]; exact hg)
            · rw [e] at hg; cases hg; exact h1.old (Nat.le_refl _)
          · rcases List.mem_append.1 hy with hy | hy
            · exact (HYS.out y hy).2.2.1
            · rw [List.mem_singleton.1 hy]; exact HNz.out _ (by omega) (Nat.le_refl _)
          · rcases List.mem_append.1 hy with hy | hy
            · exact (HYS.out y hy).2.2.2
            · rw [List.mem_singleton.1 hy]; exact HNz.out _ (by omega) (by omega))
        have HB5 := hide (((HB.out.trans (HBX.out.mono (by omega)))).grown HG.out (by have := HBX.out.size; omega) (by intro q hq; exact (HO.out.lt q hq).1))
        go_wp2
        go_roundw
        case rel =>
          refine ⟨k + 1, ys ++ [x], by omega, by go_num, ?_, HY5.out, HB5.out, ?_⟩
          · unfold Seo
            rw [List.flatMap_append, List.length_append]
            have h1 := HOW.out
            simpa using h1
          · exact .inr ⟨rfl, i, xi, by omega, HF.out.2.1, HF.out.2.2.1, HF.out.2.2.2.1, HF.out.2.2.2.2, by rw [set_take_ne HX.out HF.out.1]; exact HQ.out.snoc (SeQ.refl x)⟩
        case measure => simp [intOf]; omega
    · have hkz : ¬ (k : Int) < (a.sn : Int) := by omega
      have RW := hide (R0.out.below HB.out (by omega))
      have r0 := RW.out.cell 0
      have r1 := RW.out.cell 1
      have r2 := RW.out.cell 2
      have r3 := RW.out.cell 3
      have r4 := RW.out.cell 4
      have r5 := RW.out.cell 5
      simp [aq0] at r0 r1 r2 r3 r4 r5
      have fr := fun j => RW.out.frz j
      rcases hcase with ⟨rfl, _, hix⟩ | ⟨rfl, i, xi, hi, hix, hxi, hri, hr0, hq⟩
      · have HRES := hide (show arrL a.s r v n t = (9, []) from arrL_none (by rw [hix, idxP_end (by rw [HLEN.out]; omega)]))
        clear hix
        go_wp2
        refine bodyPost_ret (v := .tuple #[aqV aq0, .int .i64 9]) (by simp [results, Tryz.results46, go_sem, r0, r1, r2, r3, r4, r5, aqV, aq0]) rfl ?_
        rw [HRES.out]
        exact resQ_err (by decide) (below_aq BW.out (show w.heap.size ≤ w.heap.size + 1 by omega) _ _ _ _ _ _)
      · have HRES := hide (show arrL a.s r v n t = (0, a.s.set i (rcvS xi v n t).2) by rw [arrL_at hix hxi, if_pos hr0])
        have HQA := hide (show SesQ (a.s.set i (rcvS xi v n t).2) ys by
          have h := hq
          rwa [List.take_of_length_le (by rw [List.length_set, HLEN.out]; omega)] at h)
        obtain ⟨A2, c2, hv2, _⟩ := Seo_sl HO.out (by rw [HYL.out]; omega)
        obtain ⟨m2, hm2⟩ : ∃ m2, ys.length = m2 := ⟨_, rfl⟩
        have HM2 := hide hm2
        rw [hm2] at hv2
        subst hv2
        have HOE := hide (show wr.ownsRow (w.heap.size + 2) 76 9 (.slice A2 m2 c2) m2 (ys.flatMap seE) by have h := HO.out; unfold Seo at h; rw [HM2.out] at h; exact h)
        clear hm2 x4 hlt hix hxi hri hr0 hq
        have x0 := XW.out.cell 0
        have x1 := XW.out.cell 1
        have x2 := XW.out.cell 2
        have x3 := XW.out.cell 3
        have x4 := XW.out.cell 4
        have x5 := XW.out.cell 5
        simp at x0 x1 x2 x3 x4 x5
        have fx := fun j => XW.out.frz j
        have HB9 := hide (below_aq (BW.out.setCell (p := ⟨w.heap.size, 4, none⟩) (Nat.le_refl _) (.slice A2 m2 c2)) (show w.heap.size ≤ w.heap.size + 1 by omega) (.int .i64 a.yr) (.slice a.fA a.fn a.fc) (.slice a.oA a.on a.oc) (.slice a.bA a.bn a.bc) (.slice A2 m2 c2) (.int .i64 a.nx))
        go_wp2
        refine bodyPost_ret (v := .tuple #[aqV { a with sA := A2, sn := m2, sc := c2, s := ys }, .int .i64 0]) (by simp [results, Tryz.results46, go_sem, r0, r1, r2, r3, r4, r5, x0, x1, x2, x3, x4, x5, aqV]) rfl ?_
        rw [HRES.out]
        refine ⟨_, rfl, ?_, AqQ.subs HQA.out A2 m2 c2, HB9.out⟩
        have h9 := HB9.out
        refine ⟨(HS.out.f.below h9).more h9.size, (HS.out.o.below h9).more h9.size, fun y hy => ((HS.out.os y hy).below h9).more h9.size, (HS.out.b.below h9).more h9.size, ?_, fun y hy => ?_⟩
        · refine Sl.of_own seE_len (base := w.heap.size + 2) (e := 76) ?_ HM2.out (show m2 ≤ 140737488355328 by have := HM2.out; have := HYL.out; omega)
          (iterate 6 (refine own_setp ?_ (by show w.heap.size + 1 < _; omega) _))
          refine own_setp ?_ (by show w.heap.size < _; omega) _
          exact HOE.out
        · obtain ⟨h1, _, h3, h4⟩ := HYS.out y hy
          exact ((h1.far (p := ⟨w.heap.size, 4, none⟩) h3 (.slice A2 m2 c2)).far6 h4 _ _ _ _ _ _).more (by simp)
end Go.Proofs.YtbhndfphegflhaaGreat
