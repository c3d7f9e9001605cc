/- Texts laid together by merge.py: AqE, AqG. -/
import Derived.Test.YtbhndfphegflhaaGreatMrg15
import Derived.Test.YtbhndfphegflhaaGreatMrg1
import Derived.Test.YtbhndfphegflhaaGreatMrg22
import Derived.Test.YtbhndfphegflhaaGreatMrg2
import Derived.BigGuardPart
import Derived.Test.YtbhndfphegflhaaGreatMrg21
set_option linter.unusedSimpArgs false
set_option linter.unusedVariables false
/- What an operation on states hands back; rows beside a box that is written. -/
namespace Go.Proofs.YtbhndfphegflhaaGreat
open Go.RowKit

/-- The row of a slice does not lie in block g. -/
def NotAt (A : Option Addr) (n g : Nat) : Prop := ∀ b off, A = some ⟨b, off, none⟩ → 0 < n → b ≠ g
section
variable {α : Type} {enc : α → List Value} {k : Nat} {w : World} {B n c : Nat} {A : Option Addr} {xs : List α}
theorem Sl.far (h : Sl enc k w B A n c xs) {p : Addr} (hn : NotAt A n p.block) (u : Value) : Sl enc k (w.setCell p u) B A n c xs :=
  ⟨h.len, h.le, h.big, h.nl, fun h0 => by
    obtain ⟨b, off, hA, hb, hc⟩ := h.cells h0
    exact ⟨b, off, hA, hb, fun i x hx j v hv => (World.cell?_setCell_other w p _ u (fun e => hn b off hA h0 (by rw [e]))).trans (hc i x hx j v hv)⟩⟩
theorem Sl.far6 (h : Sl enc k w B A n c xs) {g : Nat} (hn : NotAt A n g) (u0 u1 u2 u3 u4 u5 : Value) :
    Sl enc k ((((((w.setCell ⟨g, 0, none⟩ u0).setCell ⟨g, 1, none⟩ u1).setCell ⟨g, 2, none⟩ u2).setCell ⟨g, 3, none⟩ u3).setCell ⟨g, 4, none⟩ u4).setCell ⟨g, 5, none⟩ u5) B A n c xs :=
  (((((h.far hn u0).far hn u1).far hn u2).far hn u3).far hn u4).far hn u5
theorem Sl.old (h : Sl enc k w B A n c xs) {g : Nat} (hg : B ≤ g) : NotAt A n g := fun b off hA h0 e => by
  obtain ⟨b', off', hA', hb, _⟩ := h.cells h0
  rw [hA] at hA'; cases hA'; omega
/-- Cells that no element fills. -/
theorem Sl.notAt (h : Sl enc k w B A n c xs) {g : Nat} {t : TypeId} {cs : Array Value} (hb : Box w g t cs) (hne : ∀ (x : α) (off : Nat), ¬ ∀ (j : Nat) (u : Value), (enc x)[j]? = some u → cs[off + j]? = some u) : NotAt A n g := fun b off hA h0 e => by
  obtain ⟨b', off', x, hA', _, _, hc⟩ := h.at_ h0
  rw [hA] at hA'; cases hA'
  subst e
  refine hne x off (fun j u hu => ?_)
  have := hc j u hu
  rw [hb.cell] at this
  simpa using this
end
theorem aq_noOd (a : Aq) (x : Od) (off : Nat) : ¬ ∀ j u, (odE x)[j]? = some u → (aqC a)[off + j]? = some u := fun h => by
  have := h 9 _ rfl
  rw [Array.getElem?_eq_none (by simp)] at this
  cases this
theorem aq_noFu (a : Aq) (x : Fu) (off : Nat) : ¬ ∀ j u, (fuE x)[j]? = some u → (aqC a)[off + j]? = some u := fun h => by
  match off with
  | 0 => have := h 1 _ rfl; simp at this
  | 1 => have := h 0 _ rfl; simp at this
  | off + 2 => have := h 4 _ rfl; rw [Array.getElem?_eq_none (by simp <;> omega)] at this; cases this
theorem aq_noBl (a : Aq) (x : Bl) (off : Nat) : ¬ ∀ j u, (blE x)[j]? = some u → (aqC a)[off + j]? = some u := fun h => by
  match off with
  | 0 => have := h 1 _ rfl; simp at this
  | 1 => have := h 0 _ rfl; simp at this
  | off + 2 => have := h 4 _ rfl; rw [Array.getElem?_eq_none (by simp <;> omega)] at this; cases this
theorem aq_noSe (a : Aq) (x : Se) (off : Nat) : ¬ ∀ j u, (seE x)[j]? = some u → (aqC a)[off + j]? = some u := fun h => by
  have := h 8 _ rfl
  rw [Array.getElem?_eq_none (by simp)] at this
  cases this

/-- What an operation on a state hands back: the error, and the state. -/
def ResA (w : World) (r : Int × Pa) (e : Ending) (w' : World) : Prop :=
  ∃ x : Aq, e = .returned (.tuple #[aqV x, .int .i64 r.1]) ∧ AqS w' w'.heap.size x ∧ aqP x = r.2 ∧ Below w.heap.size w w'
theorem AqS.zero (w : World) (B : Nat) : AqS w B aq0 := ⟨Sl.none_, Sl.none_, fun _ h => (by cases h), Sl.none_, Sl.none_, fun _ h => (by cases h)⟩
theorem resA_err {w w' : World} {er : Int} (h : Below w.heap.size w w') : ResA w (er, pa0) (.returned (.tuple #[aqV aq0, .int .i64 er])) w' := ⟨aq0, rfl, AqS.zero _ _, rfl, h⟩
/-- The state with other orders. -/
theorem AqS.orders {w w' : World} {a : Aq} (h : AqS w w.heap.size a) (hb : Below w.heap.size w w') {A : Option Addr} {n c : Nat} {xs : List Od} (ho : Ods w' w'.heap.size A n c xs) (hos : ∀ x ∈ xs, OdS w' w'.heap.size x) (yr nx : Int) :
    AqS w' w'.heap.size { a with oA := A, on := n, oc := c, o := xs, yr := yr, nx := nx } :=
  ⟨(h.f.below hb).more hb.size, ho, hos, (h.b.below hb).more hb.size, (h.s.below hb).more hb.size, fun x hx => ((h.ss x hx).below hb).more hb.size⟩
/-- The state with other funds. -/
theorem AqS.funds {w w' : World} {a : Aq} (h : AqS w w.heap.size a) (hb : Below w.heap.size w w') {A : Option Addr} {n c : Nat} {xs : List Fu} (hf : Fs w' w'.heap.size A n c xs) (yr nx : Int) :
    AqS w' w'.heap.size { a with fA := A, fn := n, fc := c, f := xs, yr := yr, nx := nx } :=
  ⟨hf, (h.o.below hb).more hb.size, fun x hx => ((h.os x hx).below hb).more hb.size, (h.b.below hb).more hb.size, (h.s.below hb).more hb.size, fun x hx => ((h.ss x hx).below hb).more hb.size⟩
theorem withOr_ok {a : Pa} {r : Int × List Od} (h : r.1 = 0) : withOr a r = (0, { a with o := r.2 }) := by unfold withOr; rw [if_pos h]
theorem withOr_err {a : Pa} {r : Int × List Od} (h : ¬ r.1 = 0) : withOr a r = (r.1, pa0) := by unfold withOr; rw [if_neg h]
theorem withF_ok {a : Pa} {r : Int × List Fu} (h : r.1 = 0) : withF a r = (0, { a with f := r.2 }) := by unfold withF; rw [if_pos h]
theorem withF_err {a : Pa} {r : Int × List Fu} (h : ¬ r.1 = 0) : withF a r = (r.1, pa0) := by unfold withF; rw [if_neg h]

end Go.Proofs.YtbhndfphegflhaaGreat

/- Walks: withFunds, withOrders, Budget, AddFund, Receive, Close of the program. Printed by gen_aq_g.py. -/
namespace Go.Proofs.YtbhndfphegflhaaGreat
open Go.RowKit

set_option maxRecDepth 100000 in
set_option maxHeartbeats 600000 in
theorem pwithF_any (a : Aq) (A : Option Addr) (n c : Nat) (ys : List Fu) (er : Int) (w : World) :
    Calls Tryz.prog 86 #[aqV a, .slice A n c, .int .i64 er] w fun e w' => e = .returned (.tuple #[aqV (if er = 0 then { a with fA := A, fn := n, fc := c, f := ys } else aq0), .int .i64 er]) ∧ Below w.heap.size w w' := by
  have B0 := hide (((Below.refl w.heap.size w).alloc (Nat.le_refl _) (.cells (aqC a) 27)).alloc (by simp) (.cells (aqC aq0) 27))
  by_cases hz : (er != 0) = true
  · have hn : ¬ er = 0 := by simpa using hz
    rw [if_neg hn]
    clear hn
    unfold aqV
    go_enter Tryz.func86, Tryz.ntmps86
    go_wp2
    refine bodyPost_ret (v := .tuple #[aqV aq0, .int .i64 er]) (by simp [results, Tryz.results86, go_sem, aqV, aq0]) rfl ⟨rfl, B0.out⟩
  · have hz' : (er != 0) = false := by simpa using hz
    have h0 : er = 0 := by simpa using hz
    rw [if_pos h0]
    clear hz
    unfold aqV
    go_enter Tryz.func86, Tryz.ntmps86
    go_wp2
    refine bodyPost_ret (v := .tuple #[aqV { a with fA := A, fn := n, fc := c, f := ys }, .int .i64 0]) (by simp [results, Tryz.results86, go_sem, aqV]) rfl ⟨by rw [h0]; rfl, ?_⟩
    exact ((((Below.refl w.heap.size w).alloc (Nat.le_refl _) _).alloc (by simp) _).alloc (by simp; omega) _)
set_option maxRecDepth 100000 in
set_option maxHeartbeats 600000 in
theorem pwithO_any (a : Aq) (A : Option Addr) (n c : Nat) (ys : List Od) (er : Int) (w : World) :
    Calls Tryz.prog 69 #[aqV a, .slice A n c, .int .i64 er] w fun e w' => e = .returned (.tuple #[aqV (if er = 0 then { a with oA := A, on := n, oc := c, o := ys } else aq0), .int .i64 er]) ∧ Below w.heap.size w w' := by
  have B0 := hide (((Below.refl w.heap.size w).alloc (Nat.le_refl _) (.cells (aqC a) 27)).alloc (by simp) (.cells (aqC aq0) 27))
  by_cases hz : (er != 0) = true
  · have hn : ¬ er = 0 := by simpa using hz
    rw [if_neg hn]
    clear hn
    unfold aqV
    go_enter Tryz.func69, Tryz.ntmps69
    go_wp2
    refine bodyPost_ret (v := .tuple #[aqV aq0, .int .i64 er]) (by simp [results, Tryz.results69, go_sem, aqV, aq0]) rfl ⟨rfl, B0.out⟩
  · have hz' : (er != 0) = false := by simpa using hz
    have h0 : er = 0 := by simpa using hz
    rw [if_pos h0]
    clear hz
    unfold aqV
    go_enter Tryz.func69, Tryz.ntmps69
    go_wp2
    refine bodyPost_ret (v := .tuple #[aqV { a with oA := A, on := n, oc := c, o := ys }, .int .i64 0]) (by simp [results, Tryz.results69, go_sem, aqV]) rfl ⟨by rw [h0]; rfl, ?_⟩
    exact ((((Below.refl w.heap.size w).alloc (Nat.le_refl _) _).alloc (by simp) _).alloc (by simp; omega) _)
set_option maxRecDepth 100000 in
set_option maxHeartbeats 600000 in
theorem pbudA_any (a : Aq) (id am : Int) (w : World) (hs : AqS w w.heap.size a) (hn : a.fn ≤ 1000) (hm : ∀ x ∈ a.f, FuM x) (ham : I64 am) :
    Calls Tryz.prog 37 #[aqV a, .int .i64 id, .int .i64 am] w (ResA w (budA (aqP a) id am)) := by
  have B0 := hide (((Below.refl w.heap.size w).alloc (Nat.le_refl _) (.cells (aqC a) 27)).alloc (by simp) (.cells (aqC aq0) 27))
  have X0 := hide ((Box.new w 27 (aqC a)).alloc (.cells (aqC aq0) 27))
  have R0 := hide (Box.new (w.alloc (.cells (aqC a) 27)) 27 (aqC aq0))
  rw [World.size_alloc] at R0
  have hfn := hs.f.len
  have HC := hide (pbud_any a.fA a.fn a.fc a.f id am _ ((hs.f.below B0.out).more B0.out.size) hn hm ham)
  have HR0 := hide (show budA (aqP a) id am = withF (aqP a) (chR (budF am) a.f id) from rfl)
  have HLEN := hide (show (chR (budF am) a.f id).2.length ≤ 1000 from Nat.le_trans chR_len (by omega))
  obtain ⟨er, ys, hr⟩ : ∃ er ys, chR (budF am) a.f id = (er, ys) := ⟨_, _, rfl⟩
  rw [hr] at HC HR0 HLEN
  have HRR := hide hr
  have HS := hide hs
  clear hs hr hfn
  unfold aqV
  go_enter Tryz.func37, Tryz.ntmps37
  go_wp2_with fail
  refine HC.out.mono ?_
  rintro e w1 ⟨v, rfl, ho, hb⟩
  obtain ⟨A1, c1, hv, hsl⟩ := Fo_sl ho (by show ys.length ≤ _; have := HLEN.out; omega)
  obtain ⟨n1, hn1⟩ : ∃ n1, ys.length = n1 := ⟨_, rfl⟩
  replace hv : v = .slice A1 ys.length c1 := hv
  replace hsl : Fs w1 w1.heap.size A1 ys.length c1 ys := hsl
  rw [hn1] at hv hsl
  subst hv
  clear hn1 ho
  have B1 := hide (B0.out.trans (hb.mono B0.out.size))
  have X1 := hide (X0.out.below hb (by simp; omega))
  have R1 := hide (R0.out.below hb (by simp))
  have N1 := hide (hsl.notAt X1.out (aq_noFu a))
  have N2 := hide (hsl.notAt R1.out (aq_noFu aq0))
  have HSL := hide hsl
  have hz1 := R1.out.lt
  clear hsl hb HC
  have HW := hide (pwithF_any a A1 n1 c1 ys er w1)
  unfold aqV at HW
  have x0 := X1.out.cell 0
  have x1 := X1.out.cell 1
  have x2 := X1.out.cell 2
  have x3 := X1.out.cell 3
  have x4 := X1.out.cell 4
  have x5 := X1.out.cell 5
  simp [aq0] at x0 x1 x2 x3 x4 x5
  go_wp2_with fail
  refine HW.out.mono ?_
  rintro e w2 ⟨rfl, hb⟩
  have B2 := hide (B1.out.trans (hb.mono B1.out.size))
  have R2 := hide (R1.out.below hb R1.out.lt)
  have HSL2 := hide ((HSL.out.below hb).more hb.size)
  have hz2 := R2.out.lt
  clear hb HW x0 x1 x2 x3 x4 x5 X1 R1 B1 HSL
  have r0 := R2.out.cell 0
  have r1 := R2.out.cell 1
  have r2 := R2.out.cell 2
  have r3 := R2.out.cell 3
  have r4 := R2.out.cell 4
  have r5 := R2.out.cell 5
  have fr := fun j => R2.out.frz j
  simp [aq0] at r0 r1 r2 r3 r4 r5
  by_cases hz : er = 0
  · have HR := hide (show budA (aqP a) id am = (0, { aqP a with f := ys }) by rw [HR0.out]; exact withF_ok hz)
    rw [if_pos hz, hz]
    have HZ := hide hz
    clear hz
    go_wp2
    refine bodyPost_ret (v := .tuple #[aqV { a with fA := A1, fn := n1, fc := c1, f := ys }, .int .i64 0]) (by simp [results, Tryz.results37, go_sem, r0, r1, r2, r3, r4, r5, aqV]) rfl ?_
    rw [HR.out]
    have hB := below_aq B2.out (show w.heap.size ≤ w.heap.size + 1 by omega) (.int .i64 a.yr) (.slice A1 n1 c1) (.slice a.oA a.on a.oc) (.slice a.bA a.bn a.bc) (.slice a.sA a.sn a.sc) (.int .i64 a.nx)
    refine ⟨_, rfl, ?_, rfl, hB⟩
    have ho := HSL2.out.far6 N2.out (.int .i64 a.yr) (.slice A1 n1 c1) (.slice a.oA a.on a.oc) (.slice a.bA a.bn a.bc) (.slice a.sA a.sn a.sc) (.int .i64 a.nx)
    refine HS.out.funds hB (ho.more (by simp)) a.yr a.nx
  · have HR := hide (show budA (aqP a) id am = (er, pa0) by rw [HR0.out]; exact withF_err hz)
    rw [if_neg hz]
    go_wp2
    refine bodyPost_ret (v := .tuple #[aqV aq0, .int .i64 er]) (by simp [results, Tryz.results37, go_sem, r0, r1, r2, r3, r4, r5, aqV, aq0]) rfl ?_
    rw [HR.out]
    exact resA_err (below_aq B2.out (by omega) _ _ _ _ _ _)
set_option maxRecDepth 100000 in
set_option maxHeartbeats 600000 in
theorem paddA_any (a : Aq) (x : Fu) (w : World) (hs : AqS w w.heap.size a) (hn : a.fn ≤ 1000) :
    Calls Tryz.prog 35 #[aqV a, fuV x] w (ResA w (addFA (aqP a) x)) := by
  have B0 := hide ((((Below.refl w.heap.size w).alloc (Nat.le_refl _) (.cells (aqC a) 27)).alloc (by simp) (.cells (fuC x) 57)).alloc (by simp; omega) (.cells (aqC aq0) 27))
  have X0 := hide (((Box.new w 27 (aqC a)).alloc (.cells (fuC x) 57)).alloc (.cells (aqC aq0) 27))
  have R0 := hide (Box.new ((w.alloc (.cells (aqC a) 27)).alloc (.cells (fuC x) 57)) 27 (aqC aq0))
  rw [World.size_alloc, World.size_alloc] at R0
  have hfn := hs.f.len
  have HC := hide (padd_any a.fA a.fn a.fc a.f x _ ((hs.f.below B0.out).more B0.out.size) hn)
  have HR0 := hide (show withF (aqP a) (adnF a.f x) = withF (aqP a) (adnF a.f x) from rfl)
  obtain ⟨er, ys, hr⟩ : ∃ er ys, adnF a.f x = (er, ys) := ⟨_, _, rfl⟩
  rw [hr] at HC HR0
  have HRR := hide hr
  have HS := hide hs
  clear hs hr hfn
  by_cases hz0 : x.enc = 0 ∧ x.spent = 0
  · have HP := hide (show addFA (aqP a) x = withF (aqP a) (er, ys) by unfold addFA; rw [if_pos hz0]; show withF (aqP a) (adnF a.f x) = _; rw [HRR.out])
    obtain ⟨e1, e2⟩ := hz0
    have e1' : (x.enc != 0) = false := by simpa using e1
    have e2' : (x.spent != 0) = false := by simpa using e2
    clear e1 e2
    unfold aqV fuV
    go_enter Tryz.func35, Tryz.ntmps35
    go_wp2_with fail
    refine HC.out.mono ?_
    rintro e w1 ⟨A1, n1, c1, rfl, hsl, hb⟩
    have B1 := hide (B0.out.trans (hb.mono B0.out.size))
    have X1 := hide (X0.out.below hb (by simp; omega))
    have R1 := hide (R0.out.below hb (by simp))
    have N1 := hide (hsl.notAt X1.out (aq_noFu a))
    have N2 := hide (hsl.notAt R1.out (aq_noFu aq0))
    have HSL := hide hsl
    have hz1 := R1.out.lt
    clear hsl hb HC
    have HW := hide (pwithF_any a A1 n1 c1 ys er w1)
    unfold aqV at HW
    have x0 := X1.out.cell 0
    have x1 := X1.out.cell 1
    have x2 := X1.out.cell 2
    have x3 := X1.out.cell 3
    have x4 := X1.out.cell 4
    have x5 := X1.out.cell 5
    simp [aq0] at x0 x1 x2 x3 x4 x5
    go_wp2_with fail
    refine HW.out.mono ?_
    rintro e w2 ⟨rfl, hb⟩
    have B2 := hide (B1.out.trans (hb.mono B1.out.size))
    have R2 := hide (R1.out.below hb R1.out.lt)
    have HSL2 := hide ((HSL.out.below hb).more hb.size)
    have hz2 := R2.out.lt
    clear hb HW x0 x1 x2 x3 x4 x5 X1 R1 B1 HSL
    have r0 := R2.out.cell 0
    have r1 := R2.out.cell 1
    have r2 := R2.out.cell 2
    have r3 := R2.out.cell 3
    have r4 := R2.out.cell 4
    have r5 := R2.out.cell 5
    have fr := fun j => R2.out.frz j
    simp [aq0] at r0 r1 r2 r3 r4 r5
    by_cases hz : er = 0
    · have HR := hide (show addFA (aqP a) x = (0, { aqP a with f := ys }) by rw [HP.out]; exact withF_ok hz)
      rw [if_pos hz, hz]
      have HZ := hide hz
      clear hz
      go_wp2
      refine bodyPost_ret (v := .tuple #[aqV { a with fA := A1, fn := n1, fc := c1, f := ys }, .int .i64 0]) (by simp [results, Tryz.results35, go_sem, r0, r1, r2, r3, r4, r5, aqV]) rfl ?_
      rw [HR.out]
      have hB := below_aq B2.out (show w.heap.size ≤ w.heap.size + 1 + 1 by omega) (.int .i64 a.yr) (.slice A1 n1 c1) (.slice a.oA a.on a.oc) (.slice a.bA a.bn a.bc) (.slice a.sA a.sn a.sc) (.int .i64 a.nx)
      refine ⟨_, rfl, ?_, rfl, hB⟩
      have ho := HSL2.out.far6 N2.out (.int .i64 a.yr) (.slice A1 n1 c1) (.slice a.oA a.on a.oc) (.slice a.bA a.bn a.bc) (.slice a.sA a.sn a.sc) (.int .i64 a.nx)
      refine HS.out.funds hB (ho.more (by simp)) a.yr a.nx
    · have HR := hide (show addFA (aqP a) x = (er, pa0) by rw [HP.out]; exact withF_err hz)
      rw [if_neg hz]
      go_wp2
      refine bodyPost_ret (v := .tuple #[aqV aq0, .int .i64 er]) (by simp [results, Tryz.results35, go_sem, r0, r1, r2, r3, r4, r5, aqV, aq0]) rfl ?_
      rw [HR.out]
      exact resA_err (below_aq B2.out (by omega) _ _ _ _ _ _)
  · have HR := hide (show addFA (aqP a) x = (1, pa0) by unfold addFA; rw [if_neg hz0])
    unfold aqV fuV
    go_enter Tryz.func35, Tryz.ntmps35
    go_wp2
    all_goals first
      | (exfalso; omega)
      | (refine bodyPost_ret (v := .tuple #[aqV aq0, .int .i64 1]) (by simp [results, Tryz.results35, go_sem, aqV, aq0]) rfl ?_
         rw [HR.out]
         exact resA_err ((((Below.refl w.heap.size w).alloc (Nat.le_refl _) _).alloc (by simp) _).alloc (by simp; omega) _))
set_option maxRecDepth 100000 in
set_option maxHeartbeats 600000 in
theorem prcvA_any (a : Aq) (id m : Int) (w : World) (hs : AqS w w.heap.size a) (hv : VldO a.o) :
    Calls Tryz.prog 21 #[aqV a, .int .i64 id, .int .i64 m] w (ResA w (rcvA (aqP a) id m)) := by
  have B0 := hide (((Below.refl w.heap.size w).alloc (Nat.le_refl _) (.cells (aqC a) 27)).alloc (by simp) (.cells (aqC aq0) 27))
  have X0 := hide ((Box.new w 27 (aqC a)).alloc (.cells (aqC aq0) 27))
  have R0 := hide (Box.new (w.alloc (.cells (aqC a) 27)) 27 (aqC aq0))
  rw [World.size_alloc] at R0
  have hfn := hs.f.len
  have HC := hide (oreceive_any a.oA a.on a.oc a.o id m _ ((hs.o.below B0.out).more B0.out.size) (by have := hv.len; have := hs.o.len; omega) hv.M)
  have HR0 := hide (show rcvA (aqP a) id m = withOr (aqP a) (receiveO a.o id m) from rfl)
  have HMEM := hide (receiveO_mem (xs := a.o) (id := id) (m := m))
  obtain ⟨er, ys, hr⟩ : ∃ er ys, receiveO a.o id m = (er, ys) := ⟨_, _, rfl⟩
  rw [hr] at HC HR0 HMEM
  have HRR := hide hr
  have HS := hide hs
  clear hs hr hfn
  unfold aqV
  go_enter Tryz.func21, Tryz.ntmps21
  go_wp2_with fail
  refine HC.out.mono ?_
  rintro e w1 ⟨A1, n1, c1, rfl, hsl, hb⟩
  have B1 := hide (B0.out.trans (hb.mono B0.out.size))
  have X1 := hide (X0.out.below hb (by simp; omega))
  have R1 := hide (R0.out.below hb (by simp))
  have N1 := hide (hsl.notAt X1.out (aq_noOd a))
  have N2 := hide (hsl.notAt R1.out (aq_noOd aq0))
  have HSL := hide hsl
  have hz1 := R1.out.lt
  clear hsl hb HC
  have HW := hide (pwithO_any a A1 n1 c1 ys er w1)
  unfold aqV at HW
  have x0 := X1.out.cell 0
  have x1 := X1.out.cell 1
  have x2 := X1.out.cell 2
  have x3 := X1.out.cell 3
  have x4 := X1.out.cell 4
  have x5 := X1.out.cell 5
  simp [aq0] at x0 x1 x2 x3 x4 x5
  go_wp2_with fail
  refine HW.out.mono ?_
  rintro e w2 ⟨rfl, hb⟩
  have B2 := hide (B1.out.trans (hb.mono B1.out.size))
  have R2 := hide (R1.out.below hb R1.out.lt)
  have HSL2 := hide ((HSL.out.below hb).more hb.size)
  have hz2 := R2.out.lt
  clear hb HW x0 x1 x2 x3 x4 x5 X1 R1 B1 HSL
  have r0 := R2.out.cell 0
  have r1 := R2.out.cell 1
  have r2 := R2.out.cell 2
  have r3 := R2.out.cell 3
  have r4 := R2.out.cell 4
  have r5 := R2.out.cell 5
  have fr := fun j => R2.out.frz j
  simp [aq0] at r0 r1 r2 r3 r4 r5
  by_cases hz : er = 0
  · have HR := hide (show rcvA (aqP a) id m = (0, { aqP a with o := ys }) by rw [HR0.out]; exact withOr_ok hz)
    rw [if_pos hz, hz]
    have HZ := hide hz
    clear hz
    go_wp2
    refine bodyPost_ret (v := .tuple #[aqV { a with oA := A1, on := n1, oc := c1, o := ys }, .int .i64 0]) (by simp [results, Tryz.results21, go_sem, r0, r1, r2, r3, r4, r5, aqV]) rfl ?_
    rw [HR.out]
    have hB := below_aq B2.out (show w.heap.size ≤ w.heap.size + 1 by omega) (.int .i64 a.yr) (.slice a.fA a.fn a.fc) (.slice A1 n1 c1) (.slice a.bA a.bn a.bc) (.slice a.sA a.sn a.sc) (.int .i64 a.nx)
    refine ⟨_, rfl, ?_, rfl, hB⟩
    have ho := HSL2.out.far6 N2.out (.int .i64 a.yr) (.slice a.fA a.fn a.fc) (.slice A1 n1 c1) (.slice a.bA a.bn a.bc) (.slice a.sA a.sn a.sc) (.int .i64 a.nx)
    refine HS.out.orders hB (ho.more (by simp)) (fun x hx => ?_) a.yr a.nx
    obtain ⟨y, hy, hsm⟩ := HMEM.out x hx
    exact hsm.od (((HS.out.os y hy).below hB).more hB.size)
  · have HR := hide (show rcvA (aqP a) id m = (er, pa0) by rw [HR0.out]; exact withOr_err hz)
    rw [if_neg hz]
    go_wp2
    refine bodyPost_ret (v := .tuple #[aqV aq0, .int .i64 er]) (by simp [results, Tryz.results21, go_sem, r0, r1, r2, r3, r4, r5, aqV, aq0]) rfl ?_
    rw [HR.out]
    exact resA_err (below_aq B2.out (by omega) _ _ _ _ _ _)
set_option maxRecDepth 100000 in
set_option maxHeartbeats 600000 in
theorem pclsA_any (a : Aq) (w : World) (hs : AqS w w.heap.size a) (hn : a.fn ≤ 1000) (hm : ∀ x ∈ a.f, FuM x) (hy : 0 ≤ a.yr) :
    Calls Tryz.prog 32 #[aqV a] w (ResA w (clsA (aqP a))) := by
  have B0 := hide (((Below.refl w.heap.size w).alloc (Nat.le_refl _) (.cells (aqC a) 27)).alloc (by simp) (.cells (aqC aq0) 27))
  have X0 := hide ((Box.new w 27 (aqC a)).alloc (.cells (aqC aq0) 27))
  have R0 := hide (Box.new (w.alloc (.cells (aqC a) 27)) 27 (aqC aq0))
  rw [World.size_alloc] at R0
  have hfn := hs.f.len
  have HS := hide hs
  by_cases h9 : 2199 ≤ a.yr
  · have HR := hide (show clsA (aqP a) = (2, pa0) by unfold clsA aqP; rw [if_pos h9])
    clear hs
    unfold aqV
    go_enter Tryz.func32, Tryz.ntmps32
    go_wp2
    refine bodyPost_ret (v := .tuple #[aqV aq0, .int .i64 2]) (by simp [results, Tryz.results32, go_sem, aqV, aq0]) rfl ?_
    rw [HR.out]
    exact resA_err B0.out
  · have h9n : a.yr < 2199 := by omega
    have HR := hide (show clsA (aqP a) = (0, { aqP a with f := a.f.map (clsF false), yr := a.yr + 1 }) by unfold clsA aqP; rw [if_neg h9])
    have HC := hide (pclose_any a.fA a.fn a.fc a.f false _ ((hs.f.below B0.out).more B0.out.size) hn hm)
    have HLEN := hide (show (a.f.map (clsF false)).length ≤ 1000 by rw [List.length_map]; omega)
    obtain ⟨ys, hr⟩ : ∃ ys, a.f.map (clsF false) = ys := ⟨_, rfl⟩
    rw [hr] at HC HR HLEN
    have e1 : IntKind.i64.wrap (a.yr + 1) = a.yr + 1 := by rw [IntKind.wrap_i64]; omega
    clear hs hr hfn h9
    unfold aqV
    go_enter Tryz.func32, Tryz.ntmps32
    go_wp2_with fail
    refine HC.out.mono ?_
    rintro e w1 ⟨v, rfl, ho, hb⟩
    obtain ⟨A1, c1, hv, hsl⟩ := Fo_sl ho (by show ys.length ≤ _; have := HLEN.out; omega)
    obtain ⟨n1, hn1⟩ : ∃ n1, ys.length = n1 := ⟨_, rfl⟩
    replace hv : v = .slice A1 ys.length c1 := hv
    replace hsl : Fs w1 w1.heap.size A1 ys.length c1 ys := hsl
    rw [hn1] at hv hsl
    subst hv
    clear hn1 ho
    have B1 := hide (B0.out.trans (hb.mono B0.out.size))
    have X1 := hide (X0.out.below hb (by simp; omega))
    have R1 := hide (R0.out.below hb (by simp))
    have N1 := hide (hsl.notAt X1.out (aq_noFu a))
    have N2 := hide (hsl.notAt R1.out (aq_noFu aq0))
    have HSL := hide hsl
    have hz1 := R1.out.lt
    clear hsl hb HC
    have HW := hide (pwithF_any a A1 n1 c1 ys 0 w1)
    rw [if_pos rfl] at HW
    unfold aqV at HW
    have x0 := X1.out.cell 0
    have x1 := X1.out.cell 1
    have x2 := X1.out.cell 2
    have x3 := X1.out.cell 3
    have x4 := X1.out.cell 4
    have x5 := X1.out.cell 5
    simp [aq0] at x0 x1 x2 x3 x4 x5
    go_wp2_with fail
    refine HW.out.mono ?_
    rintro e w2 ⟨rfl, hb⟩
    have B2 := hide (B1.out.trans (hb.mono B1.out.size))
    have R2 := hide (R1.out.below hb R1.out.lt)
    have HSL2 := hide ((HSL.out.below hb).more hb.size)
    have hz2 := R2.out.lt
    clear hb HW x0 x1 x2 x3 x4 x5 X1 R1 B1 HSL
    have r0 := R2.out.cell 0
    have r1 := R2.out.cell 1
    have r2 := R2.out.cell 2
    have r3 := R2.out.cell 3
    have r4 := R2.out.cell 4
    have r5 := R2.out.cell 5
    have fr := fun j => R2.out.frz j
    simp [aq0] at r0 r1 r2 r3 r4 r5
    go_wp2
    refine bodyPost_ret (v := .tuple #[aqV { a with fA := A1, fn := n1, fc := c1, f := ys, yr := a.yr + 1 }, .int .i64 0]) (by simp [results, Tryz.results32, go_sem, World.cell?_alloc_lt, hz2, r0, r1, r2, r3, r4, r5, aqV]) rfl ?_
    rw [HR.out]
    have hB := (below_aq B2.out (show w.heap.size ≤ w.heap.size + 1 by omega) (.int .i64 (a.yr + 1)) (.slice A1 n1 c1) (.slice a.oA a.on a.oc) (.slice a.bA a.bn a.bc) (.slice a.sA a.sn a.sc) (.int .i64 a.nx)).alloc (by have := B2.out.size; simpa using this) (.cells (aqC { a with fA := A1, fn := n1, fc := c1, f := ys, yr := a.yr + 1 }) 27)
    refine ⟨_, rfl, ?_, rfl, hB⟩
    have ho := (HSL2.out.far6 N2.out (.int .i64 (a.yr + 1)) (.slice A1 n1 c1) (.slice a.oA a.on a.oc) (.slice a.bA a.bn a.bc) (.slice a.sA a.sn a.sc) (.int .i64 a.nx)).alloc (by simp) (.cells (aqC { a with fA := A1, fn := n1, fc := c1, f := ys, yr := a.yr + 1 }) 27)
    refine HS.out.funds hB (ho.more (by simp)) (a.yr + 1) a.nx
end Go.Proofs.YtbhndfphegflhaaGreat
