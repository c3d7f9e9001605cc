/- Texts laid together by merge.py: FuS, FuKit, AqKit, AqOpen, AqOpen2, FuIns, FuT. -/
import Derived.Test.YtbhndfphegflhaaGreatMrg3
import Derived.Test.YtbhndfphegflhaaGreatMrg12
import Derived.Test.YtbhndfphegflhaaGreatMrg7
import Derived.Test.YtbhndfphegflhaaGreatMrg0
import Derived.Test.YtbhndfphegflhaaGreatProg
import Derived.Shelf.Abstract
import Derived.Test.YtbhndfphegflhaaGreatMrg5
import Derived.Test.YtbhndfphegflhaaGreatMrg10
import Derived.Deep.RegionLaw
import Derived.Test.YtbhndfphegflhaaGreatMrg11
set_option linter.unusedSimpArgs false
set_option linter.unusedVariables false
/- Walks: valid; the laws FundTransfers and FundSpends. -/
namespace Go.Proofs.YtbhndfphegflhaaGreat
open Go.RowKit Go.Maps

/-- What valid funds are like. -/
structure Vld (xs : List Fu) : Prop where
  len : xs.length ≤ 32
  ok : ∀ x ∈ xs, badF x = false
  chk : chkA none xs = 0
  par : noneF xs = false
  cyc : cycR xs = false
  ovr : overF xs = false
theorem vld_of {xs : List Fu} (h : rightR xs = 0) : Vld xs := by
  unfold rightR at h
  split at h
  · simp at h
  · rename_i h32
    split at h
    · rename_i hc; exact absurd h hc
    · rename_i hc
      have hc0 : chkA none xs = 0 := by simpa using hc
      split at h
      · simp at h
      · rename_i hp
        split at h
        · simp at h
        · rename_i hcy
          split at h
          · simp at h
          · rename_i ho
            exact ⟨by omega, chkA_ok xs none hc0, hc0, by simpa using hp, by simpa using hcy, by simpa using ho⟩
theorem Vld.M {xs : List Fu} (h : Vld xs) : ∀ x ∈ xs, FuM x := fun x hx => (badF_ok (h.ok x hx)).2.2.1
theorem Vld.W {xs : List Fu} (h : Vld xs) : ∀ x ∈ xs, FuW x := fun x hx => (badF_ok (h.ok x hx)).2.2.2

theorem Fo_sl {w : World} {B : Nat} {v : Value} {xs : List Fu} (h : Fo w B v xs) (hn : xs.length ≤ 140737488355328) : ∃ A c, v = .slice A xs.length c ∧ Fs w w.heap.size A xs.length c xs := by
  have h' := h
  rcases h.2 with ⟨rfl, h0⟩ | ⟨g, cap, _, rfl, _⟩
  · refine ⟨none, 0, by rw [h0], ?_⟩
    unfold Fo at h'
    rw [h0] at h' ⊢
    exact Sl.of_own fuE_len h' h0 (by omega)
  · exact ⟨_, cap, rfl, Sl.of_own fuE_len h' rfl hn⟩

theorem chR_len {F : Fu → Int × Fu} {xs : List Fu} {id : Int} : (chR F xs id).2.length ≤ xs.length := by
  unfold chR
  split
  · simp
  · split <;> simp
end Go.Proofs.YtbhndfphegflhaaGreat

/- Funds in the words of the struct kits: what gen_ins.py asks. -/
namespace Go.Proofs.YtbhndfphegflhaaGreat
open Go.RowKit

abbrev fuC (x : Fu) : Array Value := #[.int .i64 x.id, .int .i64 x.parent, .int .i64 x.budget, .int .i64 x.enc, .int .i64 x.spent]
abbrev Fus (w : World) (B : Nat) (A : Option Addr) (n c : Nat) (xs : List Fu) : Prop := Fs w B A n c xs
theorem fu_box {w w' : World} {g : Nat} {x : Fu} (h : Box w g 57 (fuC x)) (hb : Below (g + 1) w w') : Box w' g 57 (fuC x) ∧
    (w'.cell? ⟨g, 0, none⟩ = some (.int .i64 x.id) ∧ w'.cell? ⟨g, 1, none⟩ = some (.int .i64 x.parent) ∧ w'.cell? ⟨g, 2, none⟩ = some (.int .i64 x.budget) ∧ w'.cell? ⟨g, 3, none⟩ = some (.int .i64 x.enc) ∧ w'.cell? ⟨g, 4, none⟩ = some (.int .i64 x.spent)) :=
  have h' := h.below hb (by omega)
  ⟨h', h'.cell 0, h'.cell 1, h'.cell 2, h'.cell 3, h'.cell 4⟩
end Go.Proofs.YtbhndfphegflhaaGreat

/- library/api.Acquire as plain data; a slice of them; '=='; IndexFunc; Clone. Printed by gen_kit.py. -/
namespace Go.Proofs.YtbhndfphegflhaaGreat
open Go.RowKit

structure Aq where
  yr : Int
  fA : Option Addr
  fn : Nat
  fc : Nat
  f : List Fu
  oA : Option Addr
  on : Nat
  oc : Nat
  o : List Od
  bA : Option Addr
  bn : Nat
  bc : Nat
  b : List Bl
  sA : Option Addr
  sn : Nat
  sc : Nat
  s : List Se
  nx : Int

def aqV (x : Aq) : Value := .agg #[.int .i64 x.yr, .slice x.fA x.fn x.fc, .slice x.oA x.on x.oc, .slice x.bA x.bn x.bc, .slice x.sA x.sn x.sc, .int .i64 x.nx]
abbrev aqC (x : Aq) : Array Value := #[.int .i64 x.yr, .slice x.fA x.fn x.fc, .slice x.oA x.on x.oc, .slice x.bA x.bn x.bc, .slice x.sA x.sn x.sc, .int .i64 x.nx]
def aq0 : Aq := ⟨0, none, 0, 0, [], none, 0, 0, [], none, 0, 0, [], none, 0, 0, [], 0⟩
theorem below_aq {B : Nat} {a w : World} (h : Below B a w) {b : Nat} (hb : B ≤ b) (u0 u1 u2 u3 u4 u5 : Value) :
    Below B a ((((((w.setCell ⟨b, 0, none⟩ u0).setCell ⟨b, 1, none⟩ u1).setCell ⟨b, 2, none⟩ u2).setCell ⟨b, 3, none⟩ u3).setCell ⟨b, 4, none⟩ u4).setCell ⟨b, 5, none⟩ u5) :=
  (((((h.setCell hb u0).setCell hb u1).setCell hb u2).setCell hb u3).setCell hb u4).setCell hb u5

theorem aq_struct : Tryz.prog.underlying 27 = some (.struct (Tryz.prog.fieldsOf 27)) := by kernel_rfl

/-- The state's lists, as they lie. -/
structure AqS (w : World) (B : Nat) (a : Aq) : Prop where
  f : Fs w B a.fA a.fn a.fc a.f
  o : Ods w B a.oA a.on a.oc a.o
  os : ∀ x ∈ a.o, OdS w B x
  b : Bls w B a.bA a.bn a.bc a.b
  s : Ses w B a.sA a.sn a.sc a.s
  ss : ∀ x ∈ a.s, SeS w B x
theorem AqS.below {w w' : World} {B : Nat} {a : Aq} (h : AqS w B a) (hb : Below B w w') : AqS w' B a :=
  ⟨h.f.below hb, h.o.below hb, fun x hx => (h.os x hx).below hb, h.b.below hb, h.s.below hb, fun x hx => (h.ss x hx).below hb⟩
theorem AqS.more {w : World} {B B' : Nat} {a : Aq} (h : AqS w B a) (hb : B ≤ B') : AqS w B' a :=
  ⟨h.f.more hb, h.o.more hb, fun x hx => (h.os x hx).more hb, h.b.more hb, h.s.more hb, fun x hx => (h.ss x hx).more hb⟩
/-- .. of a state of whatever size, as far as the law looks. -/
structure AqO (w : World) (a : Aq) : Prop where
  f : a.fn ≤ 12 → Fs w w.heap.size a.fA a.fn a.fc a.f ∧ ∀ x ∈ a.f, FuW x
  o : a.on ≤ 10 → Ods w w.heap.size a.oA a.on a.oc a.o ∧ ∀ x ∈ a.o, x.shn ≤ 8 → OdS w w.heap.size x
  b : a.bn ≤ 20 → Bls w w.heap.size a.bA a.bn a.bc a.b
  s : a.sn ≤ 4 → Ses w w.heap.size a.sA a.sn a.sc a.s ∧ ∀ x ∈ a.s, SeW x ∧ (x.iun ≤ 60 → Ius w w.heap.size x.iuA x.iun x.iuc x.iu) ∧ (x.skn ≤ 20 → Is w w.heap.size x.skA x.skn x.skc x.sk) ∧ (x.dbn ≤ 20 → Is w w.heap.size x.dbA x.dbn x.dbc x.db)
end Go.Proofs.YtbhndfphegflhaaGreat

/- Arguments of the types of seat 40, opened: states, subscriptions, bills. Printed by gen_aq_kit.py. -/
namespace Go.Proofs.YtbhndfphegflhaaGreat
open Go.RowKit Go.ChangeShapes Go.WideShapes Go.Deep

section
variable {H : Type} {enc : TypeId × Value → H} {P : Program} {w : World} {base : Nat} {spare : Nat → Bool} {held : Bool}
/-- A field of a struct, whatever its cells. -/
theorem field_of {t ty : TypeId} {fs : Array Field} {n j o c : Nat} {cs : List Value} {y : DataW H × List MemPlace} (hs : P.underlying t = some (.struct fs)) (h : DataW.trod enc P w base spare held n t cs = some y)
    (hf : fs[j]?.map (fun f => (f.offset, f.type)) = some (o, ty)) (hc : P.cellsOf ty = c) : ∃ n' y', DataW.trod enc P w base spare held n' ty ((cs.drop o).take c) = some y' := by
  obtain ⟨ys, n', _, _, hlen, hyl, hg⟩ := DataW.trod_struct hs h
  obtain ⟨f, hf0, he⟩ := Option.map_eq_some_iff.1 hf
  have g := hg j f hf0
  rw [(Prod.mk.inj he).1, (Prod.mk.inj he).2, hc, List.getElem?_eq_getElem (by have := (Array.getElem?_eq_some_iff.1 hf0).1; omega)] at g
  exact ⟨n', _, g⟩
/-- A slice whose elements read as plain data. -/
theorem open_sl {α : Type} {en : α → List Value} {K : Nat} {W : α → Prop} {t e : TypeId} {fuel : Nat} {cs : List Value} {x : DataW H × List MemPlace} (hk : ∀ a, (en a).length = K) (hpos : 0 < K)
    (ht : P.underlying t = some (.slice e)) (hC : P.cellsOf e = K)
    (hR : ∀ (n : Nat) (cs : List Value) (y : DataW H × List MemPlace), cs.length = K → DataW.trod enc P w base spare held n e cs = some y → ∃ a, cs = en a ∧ W a)
    (h : DataW.trod enc P w base spare held fuel t cs = some x) :
    ∃ (A : Option Addr) (n c : Nat), cs = [.slice A n c] ∧ (n ≤ 140737488355328 → ∃ xs : List α, Sl en K w w.heap.size A n c xs ∧ ∀ a ∈ xs, W a) := by
  rcases Go.Deep.open_slice ht h with ⟨hcs, _⟩ | ⟨a, len, cap, m, n, D, Pl, hcs, hb, hl, hm, hmm, hx, hi⟩
  · exact ⟨none, 0, 0, hcs, fun _ => ⟨[], Sl.none_, by simp⟩⟩
  · refine ⟨some a, len, cap, hcs, fun hbig => ?_⟩
    rcases Nat.eq_zero_or_pos len with hz | hz
    · subst hz
      exact ⟨[], ⟨rfl, by omega, by omega, (by intro e; cases e), fun h0 => by omega⟩, by simp⟩
    have hlm : len ≤ m := by rw [hmm]; split <;> omega
    have hrow : ∀ i, i < len → ∃ v : α, W v ∧ ∀ j, j < K → w.cell? (a.add (i * K + j)) = some ((en v).getD j undef) := by
      intro i hil
      obtain ⟨cs', hc, ht'⟩ := hi i (by omega)
      rw [hC] at hc
      obtain ⟨_, hlen, hcell⟩ := World.cells?_some hc
      obtain ⟨v, hv, hW⟩ := hR _ _ _ hlen ht'
      refine ⟨v, hW, fun j hj => ?_⟩
      have h1 := hcell j hj
      rw [add_of_add, List.getElem?_eq_getElem (by omega)] at h1
      rw [h1, List.getD_eq_getElem?_getD, ← hv, List.getElem?_eq_getElem (by omega)]; rfl
    obtain ⟨V, hV⟩ : ∃ V : Nat → α, ∀ i, i < len → W (V i) ∧ ∀ j, j < K → w.cell? (a.add (i * K + j)) = some ((en (V i)).getD j undef) := by
      rcases Nat.eq_zero_or_pos len with h0 | h0
      · exact absurd h0 (by omega)
      · obtain ⟨v0, _⟩ := hrow 0 h0
        refine ⟨fun i => if h : i < len then Classical.choose (hrow i h) else v0, fun i hil => ?_⟩
        simp only [hil, dif_pos]
        exact Classical.choose_spec (hrow i hil)
    refine ⟨(List.range len).map V, ⟨by simp, hl, hbig, (by intro e; cases e), fun hlen => ?_⟩, ?_⟩
    · obtain ⟨b, o, spot⟩ := a
      have h0 := (hV 0 hlen).2 0 hpos
      have hspot : spot = none := by simpa [Addr.add] using World.cell?_spot h0
      subst hspot
      refine ⟨b, o, rfl, ?_, fun i x hx j u hu => ?_⟩
      · have := World.block_lt_of_cell? w _ h0
        simpa [Addr.add_lit] using this
      · have hil : i < len := by have := (List.getElem?_eq_some_iff.1 hx).1; simpa using this
        have hxx : x = V i := by
          rw [List.getElem?_map, List.getElem?_range hil] at hx
          exact (Option.some.inj hx).symm
        subst hxx
        have hj : j < K := by have := (List.getElem?_eq_some_iff.1 hu).1; rw [hk] at this; exact this
        have := (hV i hil).2 j hj
        rw [Addr.add_lit, List.getD_eq_getElem?_getD, hu] at this
        rwa [Nat.add_assoc]
    · intro y hy
      obtain ⟨i, hi, rfl⟩ := List.mem_map.1 hy
      exact (hV i (by simpa using hi)).1
end
section
variable {H : Type} {enc : TypeId × Value → H} {w : World} {base : Nat} {spare : Nat → Bool} {held : Bool}
theorem one_int : Tryz.prog.cellsOf 3 = 1 := by kernel_rfl
theorem fu_trod (n : Nat) (cs : List Value) (y : DataW H × List MemPlace) (hl : cs.length = 5) (h : DataW.trod enc Tryz.prog w base spare held n 57 cs = some y) : ∃ a : Fu, cs = fuE a ∧ FuW a := by
  match cs, hl, h with
  | [c0, c1, c2, c3, c4], _, h =>
    obtain ⟨n0, y0, g0⟩ := field_of fu_struct h (j := 0) (o := 0) (ty := 3) (by kernel_rfl) one_int
    obtain ⟨a0, h0, w0⟩ := I64v_of Tryz.underlying3 (v := c0) g0
    obtain ⟨n1, y1, g1⟩ := field_of fu_struct h (j := 1) (o := 1) (ty := 3) (by kernel_rfl) one_int
    obtain ⟨a1, h1, w1⟩ := I64v_of Tryz.underlying3 (v := c1) g1
    obtain ⟨n2, y2, g2⟩ := field_of fu_struct h (j := 2) (o := 2) (ty := 3) (by kernel_rfl) one_int
    obtain ⟨a2, h2, w2⟩ := I64v_of Tryz.underlying3 (v := c2) g2
    obtain ⟨n3, y3, g3⟩ := field_of fu_struct h (j := 3) (o := 3) (ty := 3) (by kernel_rfl) one_int
    obtain ⟨a3, h3, w3⟩ := I64v_of Tryz.underlying3 (v := c3) g3
    obtain ⟨n4, y4, g4⟩ := field_of fu_struct h (j := 4) (o := 4) (ty := 3) (by kernel_rfl) one_int
    obtain ⟨a4, h4, w4⟩ := I64v_of Tryz.underlying3 (v := c4) g4
    subst h0 h1 h2 h3 h4
    exact ⟨⟨a0, a1, a2, a3, a4⟩, rfl, ⟨w0, w1, w2, w3, w4⟩⟩
theorem iu_trod (n : Nat) (cs : List Value) (y : DataW H × List MemPlace) (hl : cs.length = 6) (h : DataW.trod enc Tryz.prog w base spare held n 122 cs = some y) : ∃ a : Iu, cs = iuE a ∧ True := by
  match cs, hl, h with
  | [c0, c1, c2, c3, c4, c5], _, h =>
    obtain ⟨n0, y0, g0⟩ := field_of iu_struct h (j := 0) (o := 0) (ty := 3) (by kernel_rfl) one_int
    obtain ⟨a0, h0, w0⟩ := I64v_of Tryz.underlying3 (v := c0) g0
    obtain ⟨n1, y1, g1⟩ := field_of iu_struct h (j := 1) (o := 1) (ty := 3) (by kernel_rfl) one_int
    obtain ⟨a1, h1, w1⟩ := I64v_of Tryz.underlying3 (v := c1) g1
    obtain ⟨n2, y2, g2⟩ := field_of iu_struct h (j := 2) (o := 2) (ty := 3) (by kernel_rfl) one_int
    obtain ⟨a2, h2, w2⟩ := I64v_of Tryz.underlying3 (v := c2) g2
    obtain ⟨n3, y3, g3⟩ := field_of iu_struct h (j := 3) (o := 3) (ty := 3) (by kernel_rfl) one_int
    obtain ⟨a3, h3, w3⟩ := I64v_of Tryz.underlying3 (v := c3) g3
    obtain ⟨n4, y4, g4⟩ := field_of iu_struct h (j := 4) (o := 4) (ty := 3) (by kernel_rfl) one_int
    obtain ⟨a4, h4, w4⟩ := I64v_of Tryz.underlying3 (v := c4) g4
    obtain ⟨n5, y5, g5⟩ := field_of iu_struct h (j := 5) (o := 5) (ty := 3) (by kernel_rfl) one_int
    obtain ⟨a5, h5, w5⟩ := I64v_of Tryz.underlying3 (v := c5) g5
    subst h0 h1 h2 h3 h4 h5
    exact ⟨⟨a0, a1, a2, a3, a4, a5⟩, rfl, trivial⟩
theorem sh_trod (n : Nat) (cs : List Value) (y : DataW H × List MemPlace) (hl : cs.length = 2) (h : DataW.trod enc Tryz.prog w base spare held n 86 cs = some y) : ∃ a : Sh, cs = shE a ∧ True := by
  match cs, hl, h with
  | [c0, c1], _, h =>
    obtain ⟨n0, y0, g0⟩ := field_of sh_struct h (j := 0) (o := 0) (ty := 3) (by kernel_rfl) one_int
    obtain ⟨a0, h0, w0⟩ := I64v_of Tryz.underlying3 (v := c0) g0
    obtain ⟨n1, y1, g1⟩ := field_of sh_struct h (j := 1) (o := 1) (ty := 3) (by kernel_rfl) one_int
    obtain ⟨a1, h1, w1⟩ := I64v_of Tryz.underlying3 (v := c1) g1
    subst h0 h1
    exact ⟨⟨a0, a1⟩, rfl, trivial⟩
theorem bl_trod (n : Nat) (cs : List Value) (y : DataW H × List MemPlace) (hl : cs.length = 5) (h : DataW.trod enc Tryz.prog w base spare held n 43 cs = some y) : ∃ a : Bl, cs = blE a ∧ True := by
  match cs, hl, h with
  | [c0, c1, c2, c3, c4], _, h =>
    obtain ⟨n0, y0, g0⟩ := field_of bl_struct h (j := 0) (o := 0) (ty := 3) (by kernel_rfl) one_int
    obtain ⟨a0, h0, w0⟩ := I64v_of Tryz.underlying3 (v := c0) g0
    obtain ⟨n1, y1, g1⟩ := field_of bl_struct h (j := 1) (o := 1) (ty := 3) (by kernel_rfl) one_int
    obtain ⟨a1, h1, w1⟩ := I64v_of Tryz.underlying3 (v := c1) g1
    obtain ⟨n2, y2, g2⟩ := field_of bl_struct h (j := 2) (o := 2) (ty := 3) (by kernel_rfl) one_int
    obtain ⟨a2, h2, w2⟩ := I64v_of Tryz.underlying3 (v := c2) g2
    obtain ⟨n3, y3, g3⟩ := field_of bl_struct h (j := 3) (o := 3) (ty := 3) (by kernel_rfl) one_int
    obtain ⟨a3, h3, w3⟩ := I64v_of Tryz.underlying3 (v := c3) g3
    obtain ⟨n4, y4, g4⟩ := field_of bl_struct h (j := 4) (o := 4) (ty := 3) (by kernel_rfl) one_int
    obtain ⟨a4, h4, w4⟩ := I64v_of Tryz.underlying3 (v := c4) g4
    subst h0 h1 h2 h3 h4
    exact ⟨⟨a0, a1, a2, a3, a4⟩, rfl, trivial⟩
theorem in_trod (n : Nat) (cs : List Value) (y : DataW H × List MemPlace) (hl : cs.length = 1) (h : DataW.trod enc Tryz.prog w base spare held n 3 cs = some y) : ∃ a : Int, cs = inE a ∧ True := by
  match cs, hl, h with
  | [c0], _, h =>
    obtain ⟨a, h0, _⟩ := I64v_of Tryz.underlying3 h
    subst h0
    exact ⟨a, rfl, trivial⟩
theorem od_trod (n : Nat) (cs : List Value) (y : DataW H × List MemPlace) (hl : cs.length = 10) (h : DataW.trod enc Tryz.prog w base spare held n 35 cs = some y) : ∃ a : Od, cs = odE a ∧ (a.shn ≤ 8 → OdS w w.heap.size a) := by
  match cs, hl, h with
  | [c0, c1, c2, c3, c4, c5, c6, c7, c8, c9], _, h =>
    obtain ⟨n0, y0, g0⟩ := field_of od_struct h (j := 0) (o := 0) (ty := 3) (by kernel_rfl) one_int
    obtain ⟨a0, h0, w0⟩ := I64v_of Tryz.underlying3 (v := c0) g0
    obtain ⟨n1, y1, g1⟩ := field_of od_struct h (j := 1) (o := 1) (ty := 3) (by kernel_rfl) one_int
    obtain ⟨a1, h1, w1⟩ := I64v_of Tryz.underlying3 (v := c1) g1
    obtain ⟨n2, y2, g2⟩ := field_of od_struct h (j := 2) (o := 2) (ty := 3) (by kernel_rfl) one_int
    obtain ⟨a2, h2, w2⟩ := I64v_of Tryz.underlying3 (v := c2) g2
    obtain ⟨n3, y3, g3⟩ := field_of od_struct h (j := 3) (o := 3) (ty := 3) (by kernel_rfl) one_int
    obtain ⟨a3, h3, w3⟩ := I64v_of Tryz.underlying3 (v := c3) g3
    obtain ⟨n4, y4, g4⟩ := field_of od_struct h (j := 4) (o := 4) (ty := 3) (by kernel_rfl) one_int
    obtain ⟨a4, h4, w4⟩ := I64v_of Tryz.underlying3 (v := c4) g4
    obtain ⟨n5, y5, g5⟩ := field_of od_struct h (j := 5) (o := 5) (ty := 3) (by kernel_rfl) one_int
    obtain ⟨a5, h5, w5⟩ := I64v_of Tryz.underlying3 (v := c5) g5
    obtain ⟨n6, y6, g6⟩ := field_of od_struct h (j := 6) (o := 6) (ty := 3) (by kernel_rfl) one_int
    obtain ⟨a6, h6, w6⟩ := I64v_of Tryz.underlying3 (v := c6) g6
    obtain ⟨n7, y7, g7⟩ := field_of od_struct h (j := 7) (o := 7) (ty := 3) (by kernel_rfl) one_int
    obtain ⟨a7, h7, w7⟩ := I64v_of Tryz.underlying3 (v := c7) g7
    obtain ⟨n8, y8, g8⟩ := field_of od_struct h (j := 8) (o := 8) (ty := 3) (by kernel_rfl) one_int
    obtain ⟨a8, h8, w8⟩ := I64v_of Tryz.underlying3 (v := c8) g8
    obtain ⟨n9, y9, g9⟩ := field_of od_struct h (j := 9) (o := 9) (ty := 33) (by kernel_rfl) (c := 1) (by kernel_rfl)
    obtain ⟨A9, m9, k9, h9, q9⟩ := open_sl (cs := [c9]) shE_len (by omega) Tryz.underlying33 (by kernel_rfl) sh_trod g9
    have h9 : c9 = .slice A9 m9 k9 := by simpa using h9
    obtain ⟨xs, hxs⟩ : ∃ xs : List Sh, m9 ≤ 140737488355328 → Shs w w.heap.size A9 m9 k9 xs := by
      by_cases hm : m9 ≤ 140737488355328
      · obtain ⟨xs, hx, _⟩ := q9 hm; exact ⟨xs, fun _ => hx⟩
      · exact ⟨[], fun h => absurd h hm⟩
    subst h0 h1 h2 h3 h4 h5 h6 h7 h8 h9
    exact ⟨⟨a0, a1, a2, a3, a4, a5, a6, a7, a8, A9, m9, k9, xs⟩, rfl, fun h => hxs (Nat.le_trans h (by omega))⟩
theorem pt_struct : Tryz.prog.underlying 67 = some (.struct (Tryz.prog.fieldsOf 67)) := by kernel_rfl
theorem se_trod (n : Nat) (cs : List Value) (y : DataW H × List MemPlace) (hl : cs.length = 9) (h : DataW.trod enc Tryz.prog w base spare held n 76 cs = some y) :
    ∃ a : Se, cs = seE a ∧ SeW a ∧ (a.iun ≤ 60 → Ius w w.heap.size a.iuA a.iun a.iuc a.iu) ∧ (a.skn ≤ 20 → Is w w.heap.size a.skA a.skn a.skc a.sk) ∧ (a.dbn ≤ 20 → Is w w.heap.size a.dbA a.dbn a.dbc a.db) := by
  match cs, hl, h with
  | [c0, c1, c2, c3, c4, c5, c6, c7, c8], _, h =>
    obtain ⟨n0, y0, g0⟩ := field_of se_struct h (j := 0) (o := 0) (ty := 3) (by kernel_rfl) one_int
    obtain ⟨a0, h0, w0⟩ := I64v_of Tryz.underlying3 (v := c0) g0
    obtain ⟨n7, y7, g7⟩ := field_of se_struct h (j := 2) (o := 7) (ty := 3) (by kernel_rfl) one_int
    obtain ⟨a7, h7, w7⟩ := I64v_of Tryz.underlying3 (v := c7) g7
    obtain ⟨nq, yq, gq⟩ := field_of se_struct h (j := 1) (o := 1) (ty := 67) (by kernel_rfl) (c := 6) (by kernel_rfl)
    have gq : DataW.trod enc Tryz.prog w base spare held nq 67 [c1, c2, c3, c4, c5, c6] = some yq := gq
    obtain ⟨n1, y1, g1⟩ := field_of pt_struct gq (j := 0) (o := 0) (ty := 3) (by kernel_rfl) one_int
    obtain ⟨a1, h1, w1⟩ := I64v_of Tryz.underlying3 (v := c1) g1
    obtain ⟨n2, y2, g2⟩ := field_of pt_struct gq (j := 1) (o := 1) (ty := 3) (by kernel_rfl) one_int
    obtain ⟨a2, h2, w2⟩ := I64v_of Tryz.underlying3 (v := c2) g2
    obtain ⟨n3, y3, g3⟩ := field_of pt_struct gq (j := 2) (o := 2) (ty := 3) (by kernel_rfl) one_int
    obtain ⟨a3, h3, w3⟩ := I64v_of Tryz.underlying3 (v := c3) g3
    obtain ⟨n4, y4, g4⟩ := field_of pt_struct gq (j := 3) (o := 3) (ty := 3) (by kernel_rfl) one_int
    obtain ⟨a4, h4, w4⟩ := I64v_of Tryz.underlying3 (v := c4) g4
    obtain ⟨n4, y4, g4⟩ := field_of pt_struct gq (j := 4) (o := 4) (ty := 65) (by kernel_rfl) (c := 1) (by kernel_rfl)
    obtain ⟨A5, m5, k5, h5, q5⟩ := open_sl (cs := [c5]) inE_len (by omega) Tryz.underlying65 (by kernel_rfl) in_trod g4
    have h5 : c5 = .slice A5 m5 k5 := by simpa using h5
    obtain ⟨n5, y5, g5⟩ := field_of pt_struct gq (j := 5) (o := 5) (ty := 65) (by kernel_rfl) (c := 1) (by kernel_rfl)
    obtain ⟨A6, m6, k6, h6, q6⟩ := open_sl (cs := [c6]) inE_len (by omega) Tryz.underlying65 (by kernel_rfl) in_trod g5
    have h6 : c6 = .slice A6 m6 k6 := by simpa using h6
    obtain ⟨n3, y3, g3⟩ := field_of se_struct h (j := 3) (o := 8) (ty := 74) (by kernel_rfl) (c := 1) (by kernel_rfl)
    obtain ⟨A8, m8, k8, h8, q8⟩ := open_sl (cs := [c8]) iuE_len (by omega) Tryz.underlying74 (by kernel_rfl) iu_trod g3
    have h8 : c8 = .slice A8 m8 k8 := by simpa using h8
    obtain ⟨xs5, hxs5⟩ : ∃ xs : List Int, m5 ≤ 140737488355328 → Is w w.heap.size A5 m5 k5 xs := by
      by_cases hm : m5 ≤ 140737488355328
      · obtain ⟨xs, hx, _⟩ := q5 hm; exact ⟨xs, fun _ => hx⟩
      · exact ⟨[], fun h => absurd h hm⟩
    obtain ⟨xs6, hxs6⟩ : ∃ xs : List Int, m6 ≤ 140737488355328 → Is w w.heap.size A6 m6 k6 xs := by
      by_cases hm : m6 ≤ 140737488355328
      · obtain ⟨xs, hx, _⟩ := q6 hm; exact ⟨xs, fun _ => hx⟩
      · exact ⟨[], fun h => absurd h hm⟩
    obtain ⟨xs8, hxs8⟩ : ∃ xs : List Iu, m8 ≤ 140737488355328 → Ius w w.heap.size A8 m8 k8 xs := by
      by_cases hm : m8 ≤ 140737488355328
      · obtain ⟨xs, hx, _⟩ := q8 hm; exact ⟨xs, fun _ => hx⟩
      · exact ⟨[], fun h => absurd h hm⟩
    subst h0 h1 h2 h3 h4 h5 h6 h7 h8
    exact ⟨⟨a0, a1, a2, a3, a4, A5, m5, k5, xs5, A6, m6, k6, xs6, a7, A8, m8, k8, xs8⟩, rfl, ⟨w0, w1, w2, w3, w4, w7⟩, fun h => hxs8 (Nat.le_trans h (by omega)), fun h => hxs5 (Nat.le_trans h (by omega)), fun h => hxs6 (Nat.le_trans h (by omega))⟩
theorem aq_cells : Tryz.prog.cellsOf 27 = 6 := by kernel_rfl
set_option maxRecDepth 100000 in
theorem open_aq {r : Reach} {b0 : Nat} {v : Value} {d : DataW H} {p : List MemPlace}
    (hv : Value.okWide Tryz.prog w r b0 27 v) (hT : DataW.Trod enc Tryz.prog w base spare held 27 v d p) : ∃ a : Aq, v = aqV a ∧ AqO w a := by
  obtain ⟨cs, rfl, hsz⟩ := okWide_struct aq_struct hv
  obtain ⟨l⟩ := cs
  obtain ⟨fuel, h⟩ := hT
  have hl : l.length = 6 := by have h1 := hsz; rw [aq_cells] at h1; simpa using h1
  match l, hl, h with
  | [c0, c1, c2, c3, c4, c5], _, h =>
    have h : DataW.trod enc Tryz.prog w base spare held fuel 27 [c0, c1, c2, c3, c4, c5] = some (d, p) := h
    obtain ⟨n0, y0, g0⟩ := field_of aq_struct h (j := 0) (o := 0) (ty := 3) (by kernel_rfl) one_int
    obtain ⟨a0, h0, w0⟩ := I64v_of Tryz.underlying3 (v := c0) g0
    obtain ⟨n5, y5, g5⟩ := field_of aq_struct h (j := 5) (o := 5) (ty := 3) (by kernel_rfl) one_int
    obtain ⟨a5, h5, w5⟩ := I64v_of Tryz.underlying3 (v := c5) g5
    obtain ⟨n1, y1, g1⟩ := field_of aq_struct h (j := 1) (o := 1) (ty := 22) (by kernel_rfl) (c := 1) (by kernel_rfl)
    obtain ⟨A1, m1, k1, h1, q1⟩ := open_sl (cs := [c1]) fuE_len (by omega) Tryz.underlying22 (by kernel_rfl) fu_trod g1
    have h1 : c1 = .slice A1 m1 k1 := by simpa using h1
    obtain ⟨n2, y2, g2⟩ := field_of aq_struct h (j := 2) (o := 2) (ty := 23) (by kernel_rfl) (c := 1) (by kernel_rfl)
    obtain ⟨A2, m2, k2, h2, q2⟩ := open_sl (cs := [c2]) odE_len (by omega) Tryz.underlying23 (by kernel_rfl) od_trod g2
    have h2 : c2 = .slice A2 m2 k2 := by simpa using h2
    obtain ⟨n3, y3, g3⟩ := field_of aq_struct h (j := 3) (o := 3) (ty := 24) (by kernel_rfl) (c := 1) (by kernel_rfl)
    obtain ⟨A3, m3, k3, h3, q3⟩ := open_sl (cs := [c3]) blE_len (by omega) Tryz.underlying24 (by kernel_rfl) bl_trod g3
    have h3 : c3 = .slice A3 m3 k3 := by simpa using h3
    obtain ⟨n4, y4, g4⟩ := field_of aq_struct h (j := 4) (o := 4) (ty := 25) (by kernel_rfl) (c := 1) (by kernel_rfl)
    obtain ⟨A4, m4, k4, h4, q4⟩ := open_sl (cs := [c4]) seE_len (by omega) Tryz.underlying25 (by kernel_rfl) se_trod g4
    have h4 : c4 = .slice A4 m4 k4 := by simpa using h4
    obtain ⟨xs1, hxs1⟩ : ∃ xs : List Fu, m1 ≤ 140737488355328 → Fs w w.heap.size A1 m1 k1 xs ∧ ∀ x ∈ xs, FuW x := by
      by_cases hm : m1 ≤ 140737488355328
      · obtain ⟨xs, hx⟩ := q1 hm; exact ⟨xs, fun _ => hx⟩
      · exact ⟨[], fun h => absurd h hm⟩
    obtain ⟨xs2, hxs2⟩ : ∃ xs : List Od, m2 ≤ 140737488355328 → Ods w w.heap.size A2 m2 k2 xs ∧ ∀ x ∈ xs, (x.shn ≤ 8 → OdS w w.heap.size x) := by
      by_cases hm : m2 ≤ 140737488355328
      · obtain ⟨xs, hx⟩ := q2 hm; exact ⟨xs, fun _ => hx⟩
      · exact ⟨[], fun h => absurd h hm⟩
    obtain ⟨xs3, hxs3⟩ : ∃ xs : List Bl, m3 ≤ 140737488355328 → Bls w w.heap.size A3 m3 k3 xs ∧ ∀ x ∈ xs, True := by
      by_cases hm : m3 ≤ 140737488355328
      · obtain ⟨xs, hx⟩ := q3 hm; exact ⟨xs, fun _ => hx⟩
      · exact ⟨[], fun h => absurd h hm⟩
    obtain ⟨xs4, hxs4⟩ : ∃ xs : List Se, m4 ≤ 140737488355328 → Ses w w.heap.size A4 m4 k4 xs ∧ ∀ x ∈ xs, (SeW x ∧ (x.iun ≤ 60 → Ius w w.heap.size x.iuA x.iun x.iuc x.iu) ∧ (x.skn ≤ 20 → Is w w.heap.size x.skA x.skn x.skc x.sk) ∧ (x.dbn ≤ 20 → Is w w.heap.size x.dbA x.dbn x.dbc x.db)) := by
      by_cases hm : m4 ≤ 140737488355328
      · obtain ⟨xs, hx⟩ := q4 hm; exact ⟨xs, fun _ => hx⟩
      · exact ⟨[], fun h => absurd h hm⟩
    subst h0 h1 h2 h3 h4 h5
    exact ⟨⟨a0, A1, m1, k1, xs1, A2, m2, k2, xs2, A3, m3, k3, xs3, A4, m4, k4, xs4, a5⟩, rfl, fun h => hxs1 (Nat.le_trans h (by omega)), fun h => hxs2 (Nat.le_trans h (by omega)), fun h => (hxs3 (Nat.le_trans h (by omega))).1, fun h => hxs4 (Nat.le_trans h (by omega))⟩
end
end Go.Proofs.YtbhndfphegflhaaGreat

/- Opening single funds and bills. -/
namespace Go.Proofs.YtbhndfphegflhaaGreat
open Go.ChangeShapes Go.WideShapes Go.ChangeAt Go.RowKit
section
variable {H : Type} {enc : TypeId × Value → H} {w : World} {base : Nat} {spare : Nat → Bool} {held : Bool}
end
end Go.Proofs.YtbhndfphegflhaaGreat

/- Walks: slices.Insert of one element. Printed by gen_ins.py. -/
namespace Go.Proofs.YtbhndfphegflhaaGreat
open Go.RowKit

theorem fu_sl1 {w : World} {g : Nat} {x : Fu} (h : Box w g 57 (fuC x)) : Fus w (g + 1) (some ⟨g, 0, none⟩) 1 1 [x] :=
  Sl.of_box (t := 57) fuE_len (xs := [x]) (show Box w g 57 (([x] : List Fu).flatMap fuE).toArray from h) rfl (Nat.le_refl _) (by omega)

set_option maxRecDepth 100000 in
/-- At the end: an append. -/
theorem fu_ins_end (base : Nat) (v : Value) (n : Nat) (xs : List Fu) (x : Fu) (vb : Nat) (w : World) (hown : w.ownsRow base 57 5 v n (xs.flatMap fuE)) (hn : n ≤ 1000) (hb : base ≤ w.heap.size) (hV : Box w vb 57 (fuC x)) :
    Calls Tryz.prog 136 #[v, .int .i64 n, .slice (some ⟨vb, 0, none⟩) 1 1] w fun e w' => ∃ v', e = .returned v' ∧ w'.ownsRow base 57 5 v' (n + 1) ((xs ++ [x]).flatMap fuE) ∧ Below base w w' := by
  obtain ⟨i0, hi, hz0, hz1, hz2⟩ := info_parts fu_info
  have HV := hide (fu_sl1 hV)
  have HO := hide hown
  rcases own_box hown with ⟨rfl, rfl⟩ | ⟨g, cap, cur, rfl, hbg, hB, hnc, hcm, hcs, htk⟩
  · clear hown hV
    go_enter Tryz.func136, Tryz.ntmps136
    go_wp2_with (at_builtin; go_must (refine wpList_append_sl _ rfl _ _ 22 rfl base 57 i0 _ 40 Tryz.underlying22 hi hz0 hz1 hz2 rfl (by decide) fuE_len fuE_one _ 0 _ rfl HO.out _ 1 1 rfl HV.out (by unfold maxLen; omega) (by omega) hb ?_))
    intro v' w1 hown hg hat
    go_wp2
    go_ret
    refine ⟨v', rfl, by simpa using hown, (Below.refl base w).grown hg hb (by intro k hk; simp [Value.ownBlock] at hk)⟩
  · have HC := hide (And.intro hcs htk)
    clear hown hV hB hcs htk
    unfold maxLen at hcm
    go_enter Tryz.func136, Tryz.ntmps136
    go_wp2_with (at_builtin; go_must (refine wpList_append_sl _ rfl _ _ 22 rfl base 57 i0 _ 40 Tryz.underlying22 hi hz0 hz1 hz2 rfl (by decide) fuE_len fuE_one _ n _ rfl HO.out _ 1 1 rfl HV.out (by unfold maxLen; omega) (by omega) hb ?_))
    all_goals
      intro v' w1 hown hg hat
      go_wp2
      go_ret
      exact ⟨v', rfl, by rw [List.flatMap_append]; exact hown, (Below.refl base w).grown hg hb (by intro k hk; simp [Value.ownBlock] at hk; omega)⟩

set_option maxRecDepth 100000 in
/-- Inside, where there is room. -/
theorem fu_ins_room (g n cap i : Nat) (cur : Array Value) (x : Fu) (vb : Nat) (w : World) (hB : Box w g 57 cur) (hV : Box w vb 57 (fuC x)) (hne : vb ≠ g) (hi : i < n) (hroom : n + 1 ≤ cap) (_hcm : cap ≤ maxLen)
    (hcs : cur.size = cap * 5) (hn : n ≤ 1000) (h1 : ∀ u ∈ cur.toList.take (n * 5), u.oneCell' = true) :
    Calls Tryz.prog 136 #[.slice (some ⟨g, 0, none⟩) n cap, .int .i64 i, .slice (some ⟨vb, 0, none⟩) 1 1] w fun e w' =>
      e = .returned (.slice (some ⟨g, 0, none⟩) (n + 1) cap) ∧ w' = (w.drew.setCells g ((i + 1) * 5) ((cur.toList.take (n * 5)).drop (i * 5))).setCells g (i * 5) (fuE x) := by
  obtain ⟨i0, hi0, hz0, hz1, hz2⟩ := info_parts fu_info
  obtain ⟨ms, hms⟩ : ∃ ms, ms = (cur.toList.take (n * 5)).drop (i * 5) := ⟨_, rfl⟩
  have hml : ms.length = (n - i) * 5 := by rw [hms]; simp; omega
  have hmc : ∀ j v, ms[j]? = some v → w.drew.cell? ((⟨g, i * 5, none⟩ : Addr).add j) = some v := by
    intro j v hj
    rw [hms, List.getElem?_drop, List.getElem?_take] at hj
    split at hj
    · rw [Addr.add_lit]
      exact (hB.drew.cell _).trans (by simpa using hj)
    · cases hj
  have hm1 : ∀ u ∈ ms, u.oneCell' = true := fun u hu => h1 u (List.mem_of_mem_drop (hms ▸ hu))
  have hsA := World.shape_box hV
  have hsB := World.shape_box hB
  have hov : ∀ lb cb, (callFunc 171 #[.slice (some ⟨vb, 0, none⟩) 1 1, .slice (some ⟨g, (i + 1) * 5, none⟩) lb cb]).run Tryz.prog w = .ok (.value (.bool false)) w := fun lb cb => by
    rw [run_callFunc_extern Tryz.func171 (by kernel_rfl) (by kernel_rfl) (by kernel_rfl) (e := Extern.SlicesOverlaps.overlaps #[22, 22] #[4]) (by kernel_rfl),
      Lib.run_overlaps_apart w 22 4 57 Tryz.underlying22 5 Tryz.sizeOf57 ⟨vb, 0, none⟩ ⟨g, (i + 1) * 5, none⟩ 1 1 lb cb hne 57 57 5 (cap * 5) hsA (hcs ▸ hsB) (by omega) (hV.frz 0) (hV.frz 5)]
    rfl
  have hcp1 : ∀ ty dc sc, (Builtin.copy_ #[22, 22] ty #[.slice (some ⟨g, (i + 1) * 5, none⟩) (n - i) dc, .slice (some ⟨g, i * 5, none⟩) (n + 1 - i) sc]).run Tryz.prog w.drew = .ok (goInt (Nat.min (n + 1 - i) (n - i))) (w.drew.setCells g ((i + 1) * 5) ms) := fun ty dc sc =>
    run_copy_box _ _ ty 57 i0 5 ((i + 1) * 5) (n - i) dc ⟨g, i * 5, none⟩ (n + 1 - i) sc ms Tryz.underlying22 hi0 hz1 hB.drew (by rw [hml]; simp only [Nat.min_def]; split <;> omega) (by rw [hml, hcs]; omega) hmc hm1
  obtain ⟨W1, hW1⟩ : ∃ W1, W1 = w.drew.setCells g ((i + 1) * 5) ms := ⟨_, rfl⟩
  have hB1 : Box W1 g 57 (splice cur.toList ((i + 1) * 5) ms).toArray := by rw [hW1]; exact hB.drew.setCells _ _ _ _ (by rw [hml, hcs]; omega)
  have hV1 : Box W1 vb 57 (fuC x) := by rw [hW1]; exact Box.far_setCells hne _ _ _ hV.drew
  rw [← hW1] at hcp1
  have hcp2 : ∀ ty dc, (Builtin.copy_ #[22, 22] ty #[.slice (some ⟨g, i * 5, none⟩) (n + 1 - i) dc, .slice (some ⟨vb, 0, none⟩) 1 1]).run Tryz.prog W1 = .ok (goInt (Nat.min 1 (n + 1 - i))) (W1.setCells g (i * 5) (fuE x)) := fun ty dc =>
    run_copy_box _ _ ty 57 i0 5 (i * 5) (n + 1 - i) dc ⟨vb, 0, none⟩ 1 1 (fuE x) Tryz.underlying22 hi0 hz1 hB1 (by rw [fuE_len]; simp only [Nat.min_def]; split <;> omega)
      (by rw [fuE_len]; simp only [List.size_toArray]; rw [length_splice _ _ _ (by rw [hml]; simp; omega)]; simp; omega) (fun j v hj => by rw [Addr.add_lit, Nat.zero_add]; exact (hV1.cell j).trans (by simpa [fuE] using hj)) (fuE_one x)
  have hw1 : IntKind.i64.wrap ((i : Int) + 1) = (i : Int) + 1 := by rw [IntKind.wrap_i64]; omega
  have hb1 : (0 : Int) ≤ (i : Int) + 1 := by omega
  have hin : i ≤ n := by omega
  have htn : ((i : Int) + 1).toNat = i + 1 := by omega
  have hb2 : ¬ (cap = i + 1) := by omega
  have hb3 : (i : Int) ≤ (n : Int) + 1 := by omega
  have hb4 : ¬ (cap = i) := by omega
  unfold maxLen at _hcm
  have HW := hide hW1
  have HMS := hide hms
  have hz2' : ¬ ((i : Int) = (n : Int)) := by omega
  clear hW1 hms hml hmc hm1 hsA hsB hB hV hB1 hV1 h1 hcs hne hz0 hz1 hz2 hi0
  go_enter Tryz.func136, Tryz.ntmps136
  go_wp2_with (simp only [hov])
  go_region_law (refine step_copy_run1 rfl _ _ 22 22 rfl _ _ (by simp [Act.eval, Act.put]) (by simp [Act.eval, Act.put]) (hcp1 _ _ _) ?_)
  go_wp2_with (at_builtin; refine wpList_copy_run1 _ rfl _ _ 22 22 rfl _ _ rfl rfl (hcp2 _ _) ?_)
  go_ret
  exact ⟨rfl, by rw [HW.out, HMS.out]⟩

set_option maxRecDepth 100000 in
/-- Inside, where there is no room: a new row. -/
theorem fu_ins_grow (g n i : Nat) (cur : Array Value) (x : Fu) (vb : Nat) (w : World) (hB : Box w g 57 cur) (hV : Box w vb 57 (fuC x)) (hi : i < n)
    (hcs : cur.size = n * 5) (hn : n ≤ 1000) (h1 : ∀ u ∈ cur.toList, u.oneCell' = true) :
    Calls Tryz.prog 136 #[.slice (some ⟨g, 0, none⟩) n n, .int .i64 i, .slice (some ⟨vb, 0, none⟩) 1 1] w fun e w' =>
      ∃ G cur', e = .returned (.slice (some ⟨w.heap.size, 0, none⟩) (n + 1) G) ∧ Box w' w.heap.size 57 cur' ∧ n + 1 ≤ G ∧ G ≤ maxLen ∧ cur'.size = G * 5 ∧
        cur'.toList.take ((n + 1) * 5) = cur.toList.take (i * 5) ++ fuE x ++ cur.toList.drop (i * 5) ∧ Below w.heap.size w w' := by
  obtain ⟨i0, hi0, hz0, hz1, hz2⟩ := info_parts fu_info
  have hgw := hB.lt
  have hvw := hV.lt
  obtain ⟨ms, hms⟩ : ∃ ms, ms = cur.toList.drop (i * 5) := ⟨_, rfl⟩
  have hml : ms.length = (n - i) * 5 := by rw [hms]; simp; omega
  have hm1 : ∀ u ∈ ms, u.oneCell' = true := fun u hu => h1 u (List.mem_of_mem_drop (hms ▸ hu))
  obtain ⟨G, hG⟩ : ∃ G, G = grownCap w (n + 1) n 57 := ⟨_, rfl⟩
  obtain ⟨Z, hZ⟩ : ∃ Z, Z = Builtin.zeroCells (Value.agg #[.int .i64 0, .int .i64 0, .int .i64 0, .int .i64 0, .int .i64 0]).cells (n + 1 - i) ++ Builtin.zeroCells (Value.agg #[.int .i64 0, .int .i64 0, .int .i64 0, .int .i64 0, .int .i64 0]).cells (G - (n + 1)) := ⟨_, rfl⟩
  have hGn : n + 1 ≤ G := by rw [hG]; exact grownCap_ge w _ _ _
  have hGm : G ≤ maxLen := by rw [hG]; exact grownCap_le_maxLen w _ _ _ (by unfold maxLen; omega)
  have hZs : Z.size = (G - i) * 5 := by
    have hz : (Value.agg #[.int .i64 0, .int .i64 0, .int .i64 0, .int .i64 0, .int .i64 0]).cells.size = 5 := rfl
    rw [hZ, Array.size_append, size_zeroCells, size_zeroCells, hz, ← Nat.add_mul]
    congr 1
    omega
  have hold : (Builtin.firstCells i0.size i (.slice (some ⟨g, 0, none⟩) i n)).run Tryz.prog w.drew = .ok (cur.toList.take (i * 5)).toArray w.drew := by
    rw [hz1]
    refine run_firstCells_some w.drew 5 i ⟨g, 0, none⟩ i n _ (by simp; omega) (fun j v hj => ?_)
    rw [Addr.add_lit, Nat.zero_add, hB.drew.cell]
    rw [List.getElem?_take] at hj
    split at hj
    · simpa using hj
    · cases hj
  have hkk : (n : Int) + 1 - (i : Int) = ((n + 1 - i : Nat) : Int) := by omega
  have hik : i + (n + 1 - i) = n + 1 := by omega
  have hrz : ∀ ty, (Builtin.append_ #[22, 3] ty #[.slice (some ⟨g, 0, none⟩) i n, .int .i64 ((n : Int) + 1 - (i : Int))]).run Tryz.prog w =
      .ok (.slice (some ⟨w.heap.size, 0, none⟩) (n + 1) G) (w.drew.alloc (.cells ((cur.toList.take (i * 5)).toArray ++ Z) 57)) := fun ty => by
    have h := Lib.run_append_grow_zeros w 22 3 ty 57 i0 _ .i64 .i64 Tryz.underlying22 Tryz.underlying3 hi0 hz0 (some ⟨g, 0, none⟩) i n _ hold (n + 1 - i) (by omega) (by rw [hz1]; omega) (by omega) (by omega) (by rw [hz2]; omega) (by rw [hz2, hik]; exact growslice_fits (by omega) (by omega))
    rw [hik, ← hG, Array.append_assoc, ← hZ] at h
    rw [hkk]
    exact h
  obtain ⟨W1, hW1⟩ : ∃ W1, W1 = w.drew.alloc (.cells ((cur.toList.take (i * 5)).toArray ++ Z) 57) := ⟨_, rfl⟩
  have b1 : Box W1 w.heap.size 57 ((cur.toList.take (i * 5)).toArray ++ Z) := by rw [hW1]; exact Box.new w.drew _ _
  have s1 : ((cur.toList.take (i * 5)).toArray ++ Z).size = G * 5 := by simp; omega
  have v1 : Box W1 vb 57 (fuC x) := by rw [hW1]; exact hV.drew.alloc _
  have g1 : Box W1 g 57 cur := by rw [hW1]; exact hB.drew.alloc _
  have e1 : Below w.heap.size w W1 := by rw [hW1]; exact (Below.refl _ w).drew.alloc (Nat.le_refl _) _
  rw [← hW1] at hrz
  have hcA : ∀ ty dc, (Builtin.copy_ #[22, 22] ty #[.slice (some ⟨w.heap.size, i * 5, none⟩) (n + 1 - i) dc, .slice (some ⟨vb, 0, none⟩) 1 1]).run Tryz.prog W1 = .ok (goInt (Nat.min 1 (n + 1 - i))) (W1.setCells w.heap.size (i * 5) (fuE x)) := fun ty dc =>
    run_copy_box _ _ ty 57 i0 5 (i * 5) (n + 1 - i) dc ⟨vb, 0, none⟩ 1 1 (fuE x) Tryz.underlying22 hi0 hz1 b1 (by rw [fuE_len]; simp only [Nat.min_def]; split <;> omega) (by rw [fuE_len, s1]; omega)
      (fun j v hj => by rw [Addr.add_lit, Nat.zero_add]; exact (v1.cell j).trans (by simpa [fuE] using hj)) (fuE_one x)
  obtain ⟨W2, hW2⟩ : ∃ W2, W2 = W1.setCells w.heap.size (i * 5) (fuE x) := ⟨_, rfl⟩
  have b2 : Box W2 w.heap.size 57 (splice ((cur.toList.take (i * 5)).toArray ++ Z).toList (i * 5) (fuE x)).toArray := by rw [hW2]; exact b1.setCells _ _ _ _ (by rw [fuE_len, s1]; omega)
  have s2 : (splice ((cur.toList.take (i * 5)).toArray ++ Z).toList (i * 5) (fuE x)).toArray.size = G * 5 := by
    rw [List.size_toArray, splice_len _ _ _ (by rw [fuE_len, Array.length_toList, s1]; omega), Array.length_toList, s1]
  have g2 : Box W2 g 57 cur := by rw [hW2]; exact Box.far_setCells (by omega) _ _ _ g1
  have e2 : Below w.heap.size w W2 := by rw [hW2]; exact below_setCells (Nat.le_refl _) _ _ _ e1
  rw [← hW2] at hcA
  have hcB : ∀ ty dc sc, (Builtin.copy_ #[22, 22] ty #[.slice (some ⟨w.heap.size, (i + 1) * 5, none⟩) (n - i) dc, .slice (some ⟨g, i * 5, none⟩) (n - i) sc]).run Tryz.prog W2.drew = .ok (goInt (Nat.min (n - i) (n - i))) (W2.drew.setCells w.heap.size ((i + 1) * 5) ms) := fun ty dc sc =>
    run_copy_box _ _ ty 57 i0 5 ((i + 1) * 5) (n - i) dc ⟨g, i * 5, none⟩ (n - i) sc ms Tryz.underlying22 hi0 hz1 b2.drew (by rw [hml]; simp only [Nat.min_def]; split <;> omega) (by rw [hml, s2]; omega)
      (fun j v hj => by
        rw [Addr.add_lit]
        rw [hms, List.getElem?_drop] at hj
        exact (g2.drew.cell _).trans (by simpa using hj)) hm1
  have b3 := b2.drew.setCells ms ((i + 1) * 5) _ _ (by rw [hml, s2]; omega)
  have e3 := below_setCells (b := w.heap.size) (Nat.le_refl _) ms ((i + 1) * 5) _ e2.drew
  have hfin : (splice (splice ((cur.toList.take (i * 5)).toArray ++ Z).toList (i * 5) (fuE x)) ((i + 1) * 5) ms).take ((n + 1) * 5) = cur.toList.take (i * 5) ++ fuE x ++ cur.toList.drop (i * 5) := by
    have h := splice_two ((cur.toList.take (i * 5)).toArray ++ Z).toList (fuE x) ms (i * 5) (by rw [fuE_len, hml, Array.length_toList, s1]; omega)
    rw [fuE_len, hml, show i * 5 + 5 = (i + 1) * 5 from by omega, show (i + 1) * 5 + (n - i) * 5 = (n + 1) * 5 from by omega] at h
    have e4 : (((cur.toList.take (i * 5)).toArray ++ Z).toList).take (i * 5) = cur.toList.take (i * 5) := by
      rw [Array.toList_append, List.take_append_of_le_length (by simp; omega)]
      exact List.take_of_length_le (by rw [List.toList_toArray, List.length_take]; exact Nat.min_le_left _ _)
    rw [h, e4, hms]
  have s3 : (splice (splice ((cur.toList.take (i * 5)).toArray ++ Z).toList (i * 5) (fuE x)) ((i + 1) * 5) ms).toArray.size = G * 5 := by
    rw [List.size_toArray, splice_len _ _ _ (by rw [hml]; rw [List.size_toArray] at s2; rw [s2]; omega)]; simpa using s2
  have HF := hide (And.intro b3 (And.intro e3 (And.intro hfin s3)))
  have hw1 : IntKind.i64.wrap ((i : Int) + 1) = (i : Int) + 1 := by rw [IntKind.wrap_i64]; omega
  have hb1 : (0 : Int) ≤ (i : Int) + 1 := by omega
  have hin : i ≤ n := by omega
  have htn : ((i : Int) + 1).toNat = i + 1 := by omega
  have hGi : ¬ (G = i) := by omega
  have hGim : ¬ (G = i + 1) := by omega
  have hci : ¬ (n = i) := by omega
  have hb3 : (i : Int) ≤ (n : Int) := by omega
  have hz2' : ¬ ((i : Int) = (n : Int)) := by omega
  have HGm := hide hGm
  unfold maxLen at hGm
  clear hW1 hW2 hms hml hm1 hB hV h1 hcs hz0 hz1 hz2 hi0 hG hZ hZs hold hkk hik b1 s1 v1 g1 e1 b2 s2 g2 e2 b3 e3 hfin s3
  go_enter Tryz.func136, Tryz.ntmps136
  go_wp2_with (first
    | (at_builtin; refine Lib.wpList_append_run _ rfl _ _ _ _ rfl _ _ rfl rfl _ _ (hrz _) ?_)
    | (at_builtin; refine wpList_copy_run1 _ rfl _ _ 22 22 rfl _ _ rfl rfl (hcA _ _) ?_))
  go_region_law (refine step_copy_run1 rfl _ _ 22 22 rfl _ _ (by simp [Act.eval, Act.put]) (by simp [Act.eval, Act.put]) (hcB _ _ _) ?_)
  go_wp2
  go_ret
  exact ⟨G, _, rfl, HF.out.1, hGn, HGm.out, HF.out.2.2.2, HF.out.2.2.1, HF.out.2.1⟩

set_option maxRecDepth 100000 in
/-- slices.Insert of one element into a row of the call's own. -/
theorem fu_insert (base : Nat) (v : Value) (n i : Nat) (xs : List Fu) (x : Fu) (vb : Nat) (w : World) (hown : w.ownsRow base 57 5 v n (xs.flatMap fuE)) (hl : xs.length = n) (hi : i ≤ n) (hn : n ≤ 1000) (hb : base ≤ w.heap.size)
    (hV : Box w vb 57 (fuC x)) (hne : v.ownBlock ≠ some vb) :
    Calls Tryz.prog 136 #[v, .int .i64 i, .slice (some ⟨vb, 0, none⟩) 1 1] w fun e w' => ∃ v', e = .returned v' ∧ w'.ownsRow base 57 5 v' (n + 1) ((xs.take i ++ x :: xs.drop i).flatMap fuE) ∧ Below base w w' := by
  by_cases hin : i = n
  · subst hin
    rw [List.take_of_length_le (by omega), List.drop_of_length_le (by omega)]
    exact fu_ins_end base v i xs x vb w hown hn hb hV
  · rcases own_box hown with ⟨_, h0⟩ | ⟨g, cap, cur, rfl, hbg, hB, hnc, hcm, hcs, htk⟩
    · omega
    · have hf : (xs.flatMap fuE).take (i * 5) ++ fuE x ++ (xs.flatMap fuE).drop (i * 5) = (xs.take i ++ x :: xs.drop i).flatMap fuE := by
        rw [flat_take fuE_len, flat_drop fuE_len, List.flatMap_append, List.flatMap_cons, List.append_assoc]
      have hone : ∀ u ∈ xs.flatMap fuE, u.oneCell' = true := fun u hu => by obtain ⟨y, _, hy⟩ := List.mem_flatMap.1 hu; exact fuE_one y u hy
      have hxl : (xs.flatMap fuE).length = n * 5 := by rw [flat_len fuE_len, hl]
      by_cases hr : n + 1 ≤ cap
      · refine (fu_ins_room g n cap i cur x vb w hB hV (fun e => hne (by simp [Value.ownBlock, e])) (by omega) hr hcm hcs hn (by rw [htk]; exact hone)).mono ?_
        rintro e w' ⟨rfl, rfl⟩
        rw [htk]
        have b1 := hB.drew.setCells ((xs.flatMap fuE).drop (i * 5)) ((i + 1) * 5) _ _ (by rw [List.length_drop, hxl, hcs]; omega)
        have s1 : (splice cur.toList ((i + 1) * 5) ((xs.flatMap fuE).drop (i * 5))).toArray.size = cap * 5 := by
          rw [List.size_toArray, splice_len _ _ _ (by rw [List.length_drop, hxl, Array.length_toList, hcs]; omega), Array.length_toList, hcs]
        have b2 := b1.setCells (fuE x) (i * 5) _ _ (by rw [fuE_len, s1]; omega)
        refine ⟨_, rfl, b2.own hbg (by omega) hcm ?_ ?_, below_setCells hbg _ _ _ (below_setCells hbg _ _ _ (Below.refl base w).drew)⟩
        · rw [List.size_toArray, splice_len _ _ _ (by rw [fuE_len]; rw [List.size_toArray] at s1; simp only [s1]; omega)]
          simpa using s1
        · have h := splice_two' cur.toList (fuE x) ((xs.flatMap fuE).drop (i * 5)) (i * 5) (by rw [fuE_len, List.length_drop, hxl, Array.length_toList, hcs]; omega)
          rw [fuE_len, List.length_drop, hxl, show i * 5 + 5 = (i + 1) * 5 from by omega, show (i + 1) * 5 + (n * 5 - i * 5) = (n + 1) * 5 from by omega] at h
          have e3 : cur.toList.take (i * 5) = (xs.flatMap fuE).take (i * 5) := by rw [← htk, List.take_take, Nat.min_eq_left (by omega)]
          rw [e3, hf] at h
          exact h
      · obtain rfl : cap = n := by omega
        have hcl : cur.toList = xs.flatMap fuE := by rw [← htk, List.take_of_length_le (by rw [Array.length_toList, hcs]; exact Nat.le_refl _)]
        refine (fu_ins_grow g cap i cur x vb w hB hV (by omega) hcs hn (by rw [hcl]; exact hone)).mono ?_
        rintro e w' ⟨G, cur', rfl, hB', h1, h2, h3, h4, h5⟩
        exact ⟨_, rfl, hB'.own hb h1 h2 h3 (by rw [h4, hcl, hf]), h5.mono hb⟩
end Go.Proofs.YtbhndfphegflhaaGreat

/- Walks: the law FundRight. -/
namespace Go.Proofs.YtbhndfphegflhaaGreat
open Go.RowKit Go.Maps

end Go.Proofs.YtbhndfphegflhaaGreat
