/- Texts laid together by merge.py: FuS, FuKit, AqKit, AqOpen, AqOpen2, FuIns, FuLaw3, FuLaw4. -/
import Derived.Test.YtbhndfphegflhaaGreatMrg3
import Derived.Test.YtbhndfphegflhaaGreatMrg13
import Derived.Test.YtbhndfphegflhaaGreatMrg4
import Derived.Test.YtbhndfphegflhaaGreatMrg8
import Derived.Test.YtbhndfphegflhaaGreatMrg0
import Derived.Test.YtbhndfphegflhaaGreatProg
import Derived.Shelf.Abstract
import Derived.Test.YtbhndfphegflhaaGreatMrg6
import Derived.Test.YtbhndfphegflhaaGreatMrg11
import Derived.Deep.RegionLaw
import Derived.Test.YtbhndfphegflhaaGreatMrg2
set_option linter.unusedSimpArgs false
set_option linter.unusedVariables false
/- Walks: valid; the laws FundTransfers and FundSpends. -/
namespace Go.Proofs.YtbhndfphegflhaaGreat
open Go.RowKit Go.Maps

/-- What valid funds are like. -/
structure Vld (xs : List Fu) : Prop where
  len : xs.length ≤ 32
  ok : ∀ x ∈ xs, badF x = false
  chk : chkA none xs = 0
  par : noneF xs = false
  cyc : cycR xs = false
  ovr : overF xs = false
theorem vld_of {xs : List Fu} (h : rightR xs = 0) : Vld xs := by
  unfold rightR at h
  split at h
  · simp at h
  · rename_i h32
    split at h
    · rename_i hc; exact absurd h hc
    · rename_i hc
      have hc0 : chkA none xs = 0 := by simpa using hc
      split at h
      · simp at h
      · rename_i hp
        split at h
        · simp at h
        · rename_i hcy
          split at h
          · simp at h
          · rename_i ho
            exact ⟨by omega, chkA_ok xs none hc0, hc0, by simpa using hp, by simpa using hcy, by simpa using ho⟩
theorem Vld.M {xs : List Fu} (h : Vld xs) : ∀ x ∈ xs, FuM x := fun x hx => (badF_ok (h.ok x hx)).2.2.1
theorem Vld.W {xs : List Fu} (h : Vld xs) : ∀ x ∈ xs, FuW x := fun x hx => (badF_ok (h.ok x hx)).2.2.2

theorem Fo_sl {w : World} {B : Nat} {v : Value} {xs : List Fu} (h : Fo w B v xs) (hn : xs.length ≤ 140737488355328) : ∃ A c, v = .slice A xs.length c ∧ Fs w w.heap.size A xs.length c xs := by
  have h' := h
  rcases h.2 with ⟨rfl, h0⟩ | ⟨g, cap, _, rfl, _⟩
  · refine ⟨none, 0, by rw [h0], ?_⟩
    unfold Fo at h'
    rw [h0] at h' ⊢
    exact Sl.of_own fuE_len h' h0 (by omega)
  · exact ⟨_, cap, rfl, Sl.of_own fuE_len h' rfl hn⟩

theorem chR_len {F : Fu → Int × Fu} {xs : List Fu} {id : Int} : (chR F xs id).2.length ≤ xs.length := by
  unfold chR
  split
  · simp
  · split <;> simp
theorem trR_len {xs : List Fu} {fr to am : Int} : (trR xs fr to am).2.length ≤ xs.length := by
  unfold trR
  repeat' split
  all_goals simp

abbrev Law (f : Nat) (args : Array Value) (w : World) : Prop := Calls Tryz.prog f args w fun e w' => e = .returned (.bool true) ∧ Below w.heap.size w w'

end Go.Proofs.YtbhndfphegflhaaGreat

/- Funds in the words of the struct kits: what gen_ins.py asks. -/
namespace Go.Proofs.YtbhndfphegflhaaGreat
open Go.RowKit

abbrev fuC (x : Fu) : Array Value := #[.int .i64 x.id, .int .i64 x.parent, .int .i64 x.budget, .int .i64 x.enc, .int .i64 x.spent]
abbrev Fus (w : World) (B : Nat) (A : Option Addr) (n c : Nat) (xs : List Fu) : Prop := Fs w B A n c xs
theorem fu_box {w w' : World} {g : Nat} {x : Fu} (h : Box w g 57 (fuC x)) (hb : Below (g + 1) w w') : Box w' g 57 (fuC x) ∧
    (w'.cell? ⟨g, 0, none⟩ = some (.int .i64 x.id) ∧ w'.cell? ⟨g, 1, none⟩ = some (.int .i64 x.parent) ∧ w'.cell? ⟨g, 2, none⟩ = some (.int .i64 x.budget) ∧ w'.cell? ⟨g, 3, none⟩ = some (.int .i64 x.enc) ∧ w'.cell? ⟨g, 4, none⟩ = some (.int .i64 x.spent)) :=
  have h' := h.below hb (by omega)
  ⟨h', h'.cell 0, h'.cell 1, h'.cell 2, h'.cell 3, h'.cell 4⟩
theorem take_stepF {α : Type} {xs : List α} {k : Nat} {x : α} (h : xs[k]? = some x) : xs.take (k + 1) = xs.take k ++ [x] := by
  obtain ⟨hk, rfl⟩ := List.getElem?_eq_some_iff.1 h
  rw [List.take_succ_eq_append_getElem hk]
end Go.Proofs.YtbhndfphegflhaaGreat

/- library/api.Acquire as plain data; a slice of them; '=='; IndexFunc; Clone. Printed by gen_kit.py. -/
namespace Go.Proofs.YtbhndfphegflhaaGreat
open Go.RowKit

structure Aq where
  yr : Int
  fA : Option Addr
  fn : Nat
  fc : Nat
  f : List Fu
  oA : Option Addr
  on : Nat
  oc : Nat
  o : List Od
  bA : Option Addr
  bn : Nat
  bc : Nat
  b : List Bl
  sA : Option Addr
  sn : Nat
  sc : Nat
  s : List Se
  nx : Int

def aqE (x : Aq) : List Value := [.int .i64 x.yr, .slice x.fA x.fn x.fc, .slice x.oA x.on x.oc, .slice x.bA x.bn x.bc, .slice x.sA x.sn x.sc, .int .i64 x.nx]
def aqV (x : Aq) : Value := .agg #[.int .i64 x.yr, .slice x.fA x.fn x.fc, .slice x.oA x.on x.oc, .slice x.bA x.bn x.bc, .slice x.sA x.sn x.sc, .int .i64 x.nx]
abbrev aqC (x : Aq) : Array Value := #[.int .i64 x.yr, .slice x.fA x.fn x.fc, .slice x.oA x.on x.oc, .slice x.bA x.bn x.bc, .slice x.sA x.sn x.sc, .int .i64 x.nx]
def aq0 : Aq := ⟨0, none, 0, 0, [], none, 0, 0, [], none, 0, 0, [], none, 0, 0, [], 0⟩
theorem aqE_len (x : Aq) : (aqE x).length = 6 := rfl
theorem aqE_one (x : Aq) : ∀ u ∈ aqE x, u.oneCell' = true := by
  intro u hu; simp only [aqE, List.mem_cons, List.not_mem_nil, or_false] at hu
  rcases hu with rfl | rfl | rfl | rfl | rfl | rfl <;> rfl
structure AqW (x : Aq) : Prop where
  yr : I64 x.yr
  nx : I64 x.nx
theorem aq_box {w w' : World} {g : Nat} {x : Aq} (h : Box w g 27 (aqC x)) (hb : Below (g + 1) w w') : Box w' g 27 (aqC x) ∧
    (w'.cell? ⟨g, 0, none⟩ = some (.int .i64 x.yr) ∧ w'.cell? ⟨g, 1, none⟩ = some (.slice x.fA x.fn x.fc) ∧ w'.cell? ⟨g, 2, none⟩ = some (.slice x.oA x.on x.oc) ∧ w'.cell? ⟨g, 3, none⟩ = some (.slice x.bA x.bn x.bc) ∧ w'.cell? ⟨g, 4, none⟩ = some (.slice x.sA x.sn x.sc) ∧ w'.cell? ⟨g, 5, none⟩ = some (.int .i64 x.nx)) :=
  have h' := h.below hb (by omega)
  ⟨h', h'.cell 0, h'.cell 1, h'.cell 2, h'.cell 3, h'.cell 4, h'.cell 5⟩
theorem below_aq {B : Nat} {a w : World} (h : Below B a w) {b : Nat} (hb : B ≤ b) (u0 u1 u2 u3 u4 u5 : Value) :
    Below B a ((((((w.setCell ⟨b, 0, none⟩ u0).setCell ⟨b, 1, none⟩ u1).setCell ⟨b, 2, none⟩ u2).setCell ⟨b, 3, none⟩ u3).setCell ⟨b, 4, none⟩ u4).setCell ⟨b, 5, none⟩ u5) :=
  (((((h.setCell hb u0).setCell hb u1).setCell hb u2).setCell hb u3).setCell hb u4).setCell hb u5

theorem aq_struct : Tryz.prog.underlying 27 = some (.struct (Tryz.prog.fieldsOf 27)) := by kernel_rfl

theorem aq_info : (Tryz.prog.info? 27).map (fun i => (i.zero, i.size, i.bytes)) = some (some (.agg #[.int .i64 0, .slice none 0 0, .slice none 0 0, .slice none 0 0, .slice none 0 0, .int .i64 0]), 6, 112) := by kernel_rfl
/-- The state's lists, as they lie. -/
structure AqS (w : World) (B : Nat) (a : Aq) : Prop where
  f : Fs w B a.fA a.fn a.fc a.f
  o : Ods w B a.oA a.on a.oc a.o
  os : ∀ x ∈ a.o, OdS w B x
  b : Bls w B a.bA a.bn a.bc a.b
  s : Ses w B a.sA a.sn a.sc a.s
  ss : ∀ x ∈ a.s, SeS w B x
theorem AqS.below {w w' : World} {B : Nat} {a : Aq} (h : AqS w B a) (hb : Below B w w') : AqS w' B a :=
  ⟨h.f.below hb, h.o.below hb, fun x hx => (h.os x hx).below hb, h.b.below hb, h.s.below hb, fun x hx => (h.ss x hx).below hb⟩
theorem AqS.more {w : World} {B B' : Nat} {a : Aq} (h : AqS w B a) (hb : B ≤ B') : AqS w B' a :=
  ⟨h.f.more hb, h.o.more hb, fun x hx => (h.os x hx).more hb, h.b.more hb, h.s.more hb, fun x hx => (h.ss x hx).more hb⟩
/-- .. of a state of whatever size, as far as the law looks. -/
structure AqO (w : World) (a : Aq) : Prop where
  f : a.fn ≤ 12 → Fs w w.heap.size a.fA a.fn a.fc a.f ∧ ∀ x ∈ a.f, FuW x
  o : a.on ≤ 10 → Ods w w.heap.size a.oA a.on a.oc a.o ∧ ∀ x ∈ a.o, x.shn ≤ 8 → OdS w w.heap.size x
  b : a.bn ≤ 20 → Bls w w.heap.size a.bA a.bn a.bc a.b
  s : a.sn ≤ 4 → Ses w w.heap.size a.sA a.sn a.sc a.s ∧ ∀ x ∈ a.s, SeW x ∧ (x.iun ≤ 60 → Ius w w.heap.size x.iuA x.iun x.iuc x.iu) ∧ (x.skn ≤ 20 → Is w w.heap.size x.skA x.skn x.skc x.sk) ∧ (x.dbn ≤ 20 → Is w w.heap.size x.dbA x.dbn x.dbc x.db)
end Go.Proofs.YtbhndfphegflhaaGreat

/- Arguments of the types of seat 40, opened: states, subscriptions, bills. Printed by gen_aq_kit.py. -/
namespace Go.Proofs.YtbhndfphegflhaaGreat
open Go.RowKit Go.ChangeShapes Go.WideShapes Go.Deep

section
variable {H : Type} {enc : TypeId × Value → H} {P : Program} {w : World} {base : Nat} {spare : Nat → Bool} {held : Bool}
/-- A field of a struct, whatever its cells. -/
theorem field_of {t ty : TypeId} {fs : Array Field} {n j o c : Nat} {cs : List Value} {y : DataW H × List MemPlace} (hs : P.underlying t = some (.struct fs)) (h : DataW.trod enc P w base spare held n t cs = some y)
    (hf : fs[j]?.map (fun f => (f.offset, f.type)) = some (o, ty)) (hc : P.cellsOf ty = c) : ∃ n' y', DataW.trod enc P w base spare held n' ty ((cs.drop o).take c) = some y' := by
  obtain ⟨ys, n', _, _, hlen, hyl, hg⟩ := DataW.trod_struct hs h
  obtain ⟨f, hf0, he⟩ := Option.map_eq_some_iff.1 hf
  have g := hg j f hf0
  rw [(Prod.mk.inj he).1, (Prod.mk.inj he).2, hc, List.getElem?_eq_getElem (by have := (Array.getElem?_eq_some_iff.1 hf0).1; omega)] at g
  exact ⟨n', _, g⟩
/-- A slice whose elements read as plain data. -/
theorem open_sl {α : Type} {en : α → List Value} {K : Nat} {W : α → Prop} {t e : TypeId} {fuel : Nat} {cs : List Value} {x : DataW H × List MemPlace} (hk : ∀ a, (en a).length = K) (hpos : 0 < K)
    (ht : P.underlying t = some (.slice e)) (hC : P.cellsOf e = K)
    (hR : ∀ (n : Nat) (cs : List Value) (y : DataW H × List MemPlace), cs.length = K → DataW.trod enc P w base spare held n e cs = some y → ∃ a, cs = en a ∧ W a)
    (h : DataW.trod enc P w base spare held fuel t cs = some x) :
    ∃ (A : Option Addr) (n c : Nat), cs = [.slice A n c] ∧ (n ≤ 140737488355328 → ∃ xs : List α, Sl en K w w.heap.size A n c xs ∧ ∀ a ∈ xs, W a) := by
  rcases Go.Deep.open_slice ht h with ⟨hcs, _⟩ | ⟨a, len, cap, m, n, D, Pl, hcs, hb, hl, hm, hmm, hx, hi⟩
  · exact ⟨none, 0, 0, hcs, fun _ => ⟨[], Sl.none_, by simp⟩⟩
  · refine ⟨some a, len, cap, hcs, fun hbig => ?_⟩
    rcases Nat.eq_zero_or_pos len with hz | hz
    · subst hz
      exact ⟨[], ⟨rfl, by omega, by omega, (by intro e; cases e), fun h0 => by omega⟩, by simp⟩
    have hlm : len ≤ m := by rw [hmm]; split <;> omega
    have hrow : ∀ i, i < len → ∃ v : α, W v ∧ ∀ j, j < K → w.cell? (a.add (i * K + j)) = some ((en v).getD j undef) := by
      intro i hil
      obtain ⟨cs', hc, ht'⟩ := hi i (by omega)
      rw [hC] at hc
      obtain ⟨_, hlen, hcell⟩ := World.cells?_some hc
      obtain ⟨v, hv, hW⟩ := hR _ _ _ hlen ht'
      refine ⟨v, hW, fun j hj => ?_⟩
      have h1 := hcell j hj
      rw [add_of_add, List.getElem?_eq_getElem (by omega)] at h1
      rw [h1, List.getD_eq_getElem?_getD, ← hv, List.getElem?_eq_getElem (by omega)]; rfl
    obtain ⟨V, hV⟩ : ∃ V : Nat → α, ∀ i, i < len → W (V i) ∧ ∀ j, j < K → w.cell? (a.add (i * K + j)) = some ((en (V i)).getD j undef) := by
      rcases Nat.eq_zero_or_pos len with h0 | h0
      · exact absurd h0 (by omega)
      · obtain ⟨v0, _⟩ := hrow 0 h0
        refine ⟨fun i => if h : i < len then Classical.choose (hrow i h) else v0, fun i hil => ?_⟩
        simp only [hil, dif_pos]
        exact Classical.choose_spec (hrow i hil)
    refine ⟨(List.range len).map V, ⟨by simp, hl, hbig, (by intro e; cases e), fun hlen => ?_⟩, ?_⟩
    · obtain ⟨b, o, spot⟩ := a
      have h0 := (hV 0 hlen).2 0 hpos
      have hspot : spot = none := by simpa [Addr.add] using World.cell?_spot h0
      subst hspot
      refine ⟨b, o, rfl, ?_, fun i x hx j u hu => ?_⟩
      · have := World.block_lt_of_cell? w _ h0
        simpa [Addr.add_lit] using this
      · have hil : i < len := by have := (List.getElem?_eq_some_iff.1 hx).1; simpa using this
        have hxx : x = V i := by
          rw [List.getElem?_map, List.getElem?_range hil] at hx
          exact (Option.some.inj hx).symm
        subst hxx
        have hj : j < K := by have := (List.getElem?_eq_some_iff.1 hu).1; rw [hk] at this; exact this
        have := (hV i hil).2 j hj
        rw [Addr.add_lit, List.getD_eq_getElem?_getD, hu] at this
        rwa [Nat.add_assoc]
    · intro y hy
      obtain ⟨i, hi, rfl⟩ := List.mem_map.1 hy
      exact (hV i (by simpa using hi)).1
end
section
variable {H : Type} {enc : TypeId × Value → H} {w : World} {base : Nat} {spare : Nat → Bool} {held : Bool}
theorem one_int : Tryz.prog.cellsOf 3 = 1 := by kernel_rfl
theorem fu_trod (n : Nat) (cs : List Value) (y : DataW H × List MemPlace) (hl : cs.length = 5) (h : DataW.trod enc Tryz.prog w base spare held n 57 cs = some y) : ∃ a : Fu, cs = fuE a ∧ FuW a := by
  match cs, hl, h with
  | [c0, c1, c2, c3, c4], _, h =>
    obtain ⟨n0, y0, g0⟩ := field_of fu_struct h (j := 0) (o := 0) (ty := 3) (by kernel_rfl) one_int
    obtain ⟨a0, h0, w0⟩ := I64v_of Tryz.underlying3 (v := c0) g0
    obtain ⟨n1, y1, g1⟩ := field_of fu_struct h (j := 1) (o := 1) (ty := 3) (by kernel_rfl) one_int
    obtain ⟨a1, h1, w1⟩ := I64v_of Tryz.underlying3 (v := c1) g1
    obtain ⟨n2, y2, g2⟩ := field_of fu_struct h (j := 2) (o := 2) (ty := 3) (by kernel_rfl) one_int
    obtain ⟨a2, h2, w2⟩ := I64v_of Tryz.underlying3 (v := c2) g2
    obtain ⟨n3, y3, g3⟩ := field_of fu_struct h (j := 3) (o := 3) (ty := 3) (by kernel_rfl) one_int
    obtain ⟨a3, h3, w3⟩ := I64v_of Tryz.underlying3 (v := c3) g3
    obtain ⟨n4, y4, g4⟩ := field_of fu_struct h (j := 4) (o := 4) (ty := 3) (by kernel_rfl) one_int
    obtain ⟨a4, h4, w4⟩ := I64v_of Tryz.underlying3 (v := c4) g4
    subst h0 h1 h2 h3 h4
    exact ⟨⟨a0, a1, a2, a3, a4⟩, rfl, ⟨w0, w1, w2, w3, w4⟩⟩
theorem iu_trod (n : Nat) (cs : List Value) (y : DataW H × List MemPlace) (hl : cs.length = 6) (h : DataW.trod enc Tryz.prog w base spare held n 122 cs = some y) : ∃ a : Iu, cs = iuE a ∧ True := by
  match cs, hl, h with
  | [c0, c1, c2, c3, c4, c5], _, h =>
    obtain ⟨n0, y0, g0⟩ := field_of iu_struct h (j := 0) (o := 0) (ty := 3) (by kernel_rfl) one_int
    obtain ⟨a0, h0, w0⟩ := I64v_of Tryz.underlying3 (v := c0) g0
    obtain ⟨n1, y1, g1⟩ := field_of iu_struct h (j := 1) (o := 1) (ty := 3) (by kernel_rfl) one_int
    obtain ⟨a1, h1, w1⟩ := I64v_of Tryz.underlying3 (v := c1) g1
    obtain ⟨n2, y2, g2⟩ := field_of iu_struct h (j := 2) (o := 2) (ty := 3) (by kernel_rfl) one_int
    obtain ⟨a2, h2, w2⟩ := I64v_of Tryz.underlying3 (v := c2) g2
    obtain ⟨n3, y3, g3⟩ := field_of iu_struct h (j := 3) (o := 3) (ty := 3) (by kernel_rfl) one_int
    obtain ⟨a3, h3, w3⟩ := I64v_of Tryz.underlying3 (v := c3) g3
    obtain ⟨n4, y4, g4⟩ := field_of iu_struct h (j := 4) (o := 4) (ty := 3) (by kernel_rfl) one_int
    obtain ⟨a4, h4, w4⟩ := I64v_of Tryz.underlying3 (v := c4) g4
    obtain ⟨n5, y5, g5⟩ := field_of iu_struct h (j := 5) (o := 5) (ty := 3) (by kernel_rfl) one_int
    obtain ⟨a5, h5, w5⟩ := I64v_of Tryz.underlying3 (v := c5) g5
    subst h0 h1 h2 h3 h4 h5
    exact ⟨⟨a0, a1, a2, a3, a4, a5⟩, rfl, trivial⟩
theorem sh_trod (n : Nat) (cs : List Value) (y : DataW H × List MemPlace) (hl : cs.length = 2) (h : DataW.trod enc Tryz.prog w base spare held n 86 cs = some y) : ∃ a : Sh, cs = shE a ∧ True := by
  match cs, hl, h with
  | [c0, c1], _, h =>
    obtain ⟨n0, y0, g0⟩ := field_of sh_struct h (j := 0) (o := 0) (ty := 3) (by kernel_rfl) one_int
    obtain ⟨a0, h0, w0⟩ := I64v_of Tryz.underlying3 (v := c0) g0
    obtain ⟨n1, y1, g1⟩ := field_of sh_struct h (j := 1) (o := 1) (ty := 3) (by kernel_rfl) one_int
    obtain ⟨a1, h1, w1⟩ := I64v_of Tryz.underlying3 (v := c1) g1
    subst h0 h1
    exact ⟨⟨a0, a1⟩, rfl, trivial⟩
theorem bl_trod (n : Nat) (cs : List Value) (y : DataW H × List MemPlace) (hl : cs.length = 5) (h : DataW.trod enc Tryz.prog w base spare held n 43 cs = some y) : ∃ a : Bl, cs = blE a ∧ True := by
  match cs, hl, h with
  | [c0, c1, c2, c3, c4], _, h =>
    obtain ⟨n0, y0, g0⟩ := field_of bl_struct h (j := 0) (o := 0) (ty := 3) (by kernel_rfl) one_int
    obtain ⟨a0, h0, w0⟩ := I64v_of Tryz.underlying3 (v := c0) g0
    obtain ⟨n1, y1, g1⟩ := field_of bl_struct h (j := 1) (o := 1) (ty := 3) (by kernel_rfl) one_int
    obtain ⟨a1, h1, w1⟩ := I64v_of Tryz.underlying3 (v := c1) g1
    obtain ⟨n2, y2, g2⟩ := field_of bl_struct h (j := 2) (o := 2) (ty := 3) (by kernel_rfl) one_int
    obtain ⟨a2, h2, w2⟩ := I64v_of Tryz.underlying3 (v := c2) g2
    obtain ⟨n3, y3, g3⟩ := field_of bl_struct h (j := 3) (o := 3) (ty := 3) (by kernel_rfl) one_int
    obtain ⟨a3, h3, w3⟩ := I64v_of Tryz.underlying3 (v := c3) g3
    obtain ⟨n4, y4, g4⟩ := field_of bl_struct h (j := 4) (o := 4) (ty := 3) (by kernel_rfl) one_int
    obtain ⟨a4, h4, w4⟩ := I64v_of Tryz.underlying3 (v := c4) g4
    subst h0 h1 h2 h3 h4
    exact ⟨⟨a0, a1, a2, a3, a4⟩, rfl, trivial⟩
theorem in_trod (n : Nat) (cs : List Value) (y : DataW H × List MemPlace) (hl : cs.length = 1) (h : DataW.trod enc Tryz.prog w base spare held n 3 cs = some y) : ∃ a : Int, cs = inE a ∧ True := by
  match cs, hl, h with
  | [c0], _, h =>
    obtain ⟨a, h0, _⟩ := I64v_of Tryz.underlying3 h
    subst h0
    exact ⟨a, rfl, trivial⟩
theorem od_trod (n : Nat) (cs : List Value) (y : DataW H × List MemPlace) (hl : cs.length = 10) (h : DataW.trod enc Tryz.prog w base spare held n 35 cs = some y) : ∃ a : Od, cs = odE a ∧ (a.shn ≤ 8 → OdS w w.heap.size a) := by
  match cs, hl, h with
  | [c0, c1, c2, c3, c4, c5, c6, c7, c8, c9], _, h =>
    obtain ⟨n0, y0, g0⟩ := field_of od_struct h (j := 0) (o := 0) (ty := 3) (by kernel_rfl) one_int
    obtain ⟨a0, h0, w0⟩ := I64v_of Tryz.underlying3 (v := c0) g0
    obtain ⟨n1, y1, g1⟩ := field_of od_struct h (j := 1) (o := 1) (ty := 3) (by kernel_rfl) one_int
    obtain ⟨a1, h1, w1⟩ := I64v_of Tryz.underlying3 (v := c1) g1
    obtain ⟨n2, y2, g2⟩ := field_of od_struct h (j := 2) (o := 2) (ty := 3) (by kernel_rfl) one_int
    obtain ⟨a2, h2, w2⟩ := I64v_of Tryz.underlying3 (v := c2) g2
    obtain ⟨n3, y3, g3⟩ := field_of od_struct h (j := 3) (o := 3) (ty := 3) (by kernel_rfl) one_int
    obtain ⟨a3, h3, w3⟩ := I64v_of Tryz.underlying3 (v := c3) g3
    obtain ⟨n4, y4, g4⟩ := field_of od_struct h (j := 4) (o := 4) (ty := 3) (by kernel_rfl) one_int
    obtain ⟨a4, h4, w4⟩ := I64v_of Tryz.underlying3 (v := c4) g4
    obtain ⟨n5, y5, g5⟩ := field_of od_struct h (j := 5) (o := 5) (ty := 3) (by kernel_rfl) one_int
    obtain ⟨a5, h5, w5⟩ := I64v_of Tryz.underlying3 (v := c5) g5
    obtain ⟨n6, y6, g6⟩ := field_of od_struct h (j := 6) (o := 6) (ty := 3) (by kernel_rfl) one_int
    obtain ⟨a6, h6, w6⟩ := I64v_of Tryz.underlying3 (v := c6) g6
    obtain ⟨n7, y7, g7⟩ := field_of od_struct h (j := 7) (o := 7) (ty := 3) (by kernel_rfl) one_int
    obtain ⟨a7, h7, w7⟩ := I64v_of Tryz.underlying3 (v := c7) g7
    obtain ⟨n8, y8, g8⟩ := field_of od_struct h (j := 8) (o := 8) (ty := 3) (by kernel_rfl) one_int
    obtain ⟨a8, h8, w8⟩ := I64v_of Tryz.underlying3 (v := c8) g8
    obtain ⟨n9, y9, g9⟩ := field_of od_struct h (j := 9) (o := 9) (ty := 33) (by kernel_rfl) (c := 1) (by kernel_rfl)
    obtain ⟨A9, m9, k9, h9, q9⟩ := open_sl (cs := [c9]) shE_len (by omega) Tryz.underlying33 (by kernel_rfl) sh_trod g9
    have h9 : c9 = .slice A9 m9 k9 := by simpa using h9
    obtain ⟨xs, hxs⟩ : ∃ xs : List Sh, m9 ≤ 140737488355328 → Shs w w.heap.size A9 m9 k9 xs := by
      by_cases hm : m9 ≤ 140737488355328
      · obtain ⟨xs, hx, _⟩ := q9 hm; exact ⟨xs, fun _ => hx⟩
      · exact ⟨[], fun h => absurd h hm⟩
    subst h0 h1 h2 h3 h4 h5 h6 h7 h8 h9
    exact ⟨⟨a0, a1, a2, a3, a4, a5, a6, a7, a8, A9, m9, k9, xs⟩, rfl, fun h => hxs (Nat.le_trans h (by omega))⟩
theorem pt_struct : Tryz.prog.underlying 67 = some (.struct (Tryz.prog.fieldsOf 67)) := by kernel_rfl
theorem pt_trod (n : Nat) (cs : List Value) (y : DataW H × List MemPlace) (hl : cs.length = 6) (h : DataW.trod enc Tryz.prog w base spare held n 67 cs = some y) :
    ∃ p : Pt, cs = (ptC p).toList ∧ (p.skn ≤ 20 → Is w w.heap.size p.skA p.skn p.skc p.sk) ∧ (p.dbn ≤ 20 → Is w w.heap.size p.dbA p.dbn p.dbc p.db) := by
  match cs, hl, h with
  | [c0, c1, c2, c3, c4, c5], _, h =>
    obtain ⟨n0, y0, g0⟩ := field_of pt_struct h (j := 0) (o := 0) (ty := 3) (by kernel_rfl) one_int
    obtain ⟨a0, h0, w0⟩ := I64v_of Tryz.underlying3 (v := c0) g0
    obtain ⟨n1, y1, g1⟩ := field_of pt_struct h (j := 1) (o := 1) (ty := 3) (by kernel_rfl) one_int
    obtain ⟨a1, h1, w1⟩ := I64v_of Tryz.underlying3 (v := c1) g1
    obtain ⟨n2, y2, g2⟩ := field_of pt_struct h (j := 2) (o := 2) (ty := 3) (by kernel_rfl) one_int
    obtain ⟨a2, h2, w2⟩ := I64v_of Tryz.underlying3 (v := c2) g2
    obtain ⟨n3, y3, g3⟩ := field_of pt_struct h (j := 3) (o := 3) (ty := 3) (by kernel_rfl) one_int
    obtain ⟨a3, h3, w3⟩ := I64v_of Tryz.underlying3 (v := c3) g3
    obtain ⟨n4, y4, g4⟩ := field_of pt_struct h (j := 4) (o := 4) (ty := 65) (by kernel_rfl) (c := 1) (by kernel_rfl)
    obtain ⟨A4, m4, k4, h4, q4⟩ := open_sl (cs := [c4]) inE_len (by omega) Tryz.underlying65 (by kernel_rfl) in_trod g4
    have h4 : c4 = .slice A4 m4 k4 := by simpa using h4
    obtain ⟨n5, y5, g5⟩ := field_of pt_struct h (j := 5) (o := 5) (ty := 65) (by kernel_rfl) (c := 1) (by kernel_rfl)
    obtain ⟨A5, m5, k5, h5, q5⟩ := open_sl (cs := [c5]) inE_len (by omega) Tryz.underlying65 (by kernel_rfl) in_trod g5
    have h5 : c5 = .slice A5 m5 k5 := by simpa using h5
    obtain ⟨xs4, hxs4⟩ : ∃ xs : List Int, m4 ≤ 140737488355328 → Is w w.heap.size A4 m4 k4 xs := by
      by_cases hm : m4 ≤ 140737488355328
      · obtain ⟨xs, hx, _⟩ := q4 hm; exact ⟨xs, fun _ => hx⟩
      · exact ⟨[], fun h => absurd h hm⟩
    obtain ⟨xs5, hxs5⟩ : ∃ xs : List Int, m5 ≤ 140737488355328 → Is w w.heap.size A5 m5 k5 xs := by
      by_cases hm : m5 ≤ 140737488355328
      · obtain ⟨xs, hx, _⟩ := q5 hm; exact ⟨xs, fun _ => hx⟩
      · exact ⟨[], fun h => absurd h hm⟩
    subst h0 h1 h2 h3 h4 h5
    exact ⟨⟨a0, a1, a2, a3, A4, m4, k4, xs4, A5, m5, k5, xs5⟩, rfl, fun h => hxs4 (Nat.le_trans h (by omega)), fun h => hxs5 (Nat.le_trans h (by omega))⟩
theorem se_trod (n : Nat) (cs : List Value) (y : DataW H × List MemPlace) (hl : cs.length = 9) (h : DataW.trod enc Tryz.prog w base spare held n 76 cs = some y) :
    ∃ a : Se, cs = seE a ∧ SeW a ∧ (a.iun ≤ 60 → Ius w w.heap.size a.iuA a.iun a.iuc a.iu) ∧ (a.skn ≤ 20 → Is w w.heap.size a.skA a.skn a.skc a.sk) ∧ (a.dbn ≤ 20 → Is w w.heap.size a.dbA a.dbn a.dbc a.db) := by
  match cs, hl, h with
  | [c0, c1, c2, c3, c4, c5, c6, c7, c8], _, h =>
    obtain ⟨n0, y0, g0⟩ := field_of se_struct h (j := 0) (o := 0) (ty := 3) (by kernel_rfl) one_int
    obtain ⟨a0, h0, w0⟩ := I64v_of Tryz.underlying3 (v := c0) g0
    obtain ⟨n7, y7, g7⟩ := field_of se_struct h (j := 2) (o := 7) (ty := 3) (by kernel_rfl) one_int
    obtain ⟨a7, h7, w7⟩ := I64v_of Tryz.underlying3 (v := c7) g7
    obtain ⟨nq, yq, gq⟩ := field_of se_struct h (j := 1) (o := 1) (ty := 67) (by kernel_rfl) (c := 6) (by kernel_rfl)
    have gq : DataW.trod enc Tryz.prog w base spare held nq 67 [c1, c2, c3, c4, c5, c6] = some yq := gq
    obtain ⟨n1, y1, g1⟩ := field_of pt_struct gq (j := 0) (o := 0) (ty := 3) (by kernel_rfl) one_int
    obtain ⟨a1, h1, w1⟩ := I64v_of Tryz.underlying3 (v := c1) g1
    obtain ⟨n2, y2, g2⟩ := field_of pt_struct gq (j := 1) (o := 1) (ty := 3) (by kernel_rfl) one_int
    obtain ⟨a2, h2, w2⟩ := I64v_of Tryz.underlying3 (v := c2) g2
    obtain ⟨n3, y3, g3⟩ := field_of pt_struct gq (j := 2) (o := 2) (ty := 3) (by kernel_rfl) one_int
    obtain ⟨a3, h3, w3⟩ := I64v_of Tryz.underlying3 (v := c3) g3
    obtain ⟨n4, y4, g4⟩ := field_of pt_struct gq (j := 3) (o := 3) (ty := 3) (by kernel_rfl) one_int
    obtain ⟨a4, h4, w4⟩ := I64v_of Tryz.underlying3 (v := c4) g4
    obtain ⟨n4, y4, g4⟩ := field_of pt_struct gq (j := 4) (o := 4) (ty := 65) (by kernel_rfl) (c := 1) (by kernel_rfl)
    obtain ⟨A5, m5, k5, h5, q5⟩ := open_sl (cs := [c5]) inE_len (by omega) Tryz.underlying65 (by kernel_rfl) in_trod g4
    have h5 : c5 = .slice A5 m5 k5 := by simpa using h5
    obtain ⟨n5, y5, g5⟩ := field_of pt_struct gq (j := 5) (o := 5) (ty := 65) (by kernel_rfl) (c := 1) (by kernel_rfl)
    obtain ⟨A6, m6, k6, h6, q6⟩ := open_sl (cs := [c6]) inE_len (by omega) Tryz.underlying65 (by kernel_rfl) in_trod g5
    have h6 : c6 = .slice A6 m6 k6 := by simpa using h6
    obtain ⟨n3, y3, g3⟩ := field_of se_struct h (j := 3) (o := 8) (ty := 74) (by kernel_rfl) (c := 1) (by kernel_rfl)
    obtain ⟨A8, m8, k8, h8, q8⟩ := open_sl (cs := [c8]) iuE_len (by omega) Tryz.underlying74 (by kernel_rfl) iu_trod g3
    have h8 : c8 = .slice A8 m8 k8 := by simpa using h8
    obtain ⟨xs5, hxs5⟩ : ∃ xs : List Int, m5 ≤ 140737488355328 → Is w w.heap.size A5 m5 k5 xs := by
      by_cases hm : m5 ≤ 140737488355328
      · obtain ⟨xs, hx, _⟩ := q5 hm; exact ⟨xs, fun _ => hx⟩
      · exact ⟨[], fun h => absurd h hm⟩
    obtain ⟨xs6, hxs6⟩ : ∃ xs : List Int, m6 ≤ 140737488355328 → Is w w.heap.size A6 m6 k6 xs := by
      by_cases hm : m6 ≤ 140737488355328
      · obtain ⟨xs, hx, _⟩ := q6 hm; exact ⟨xs, fun _ => hx⟩
      · exact ⟨[], fun h => absurd h hm⟩
    obtain ⟨xs8, hxs8⟩ : ∃ xs : List Iu, m8 ≤ 140737488355328 → Ius w w.heap.size A8 m8 k8 xs := by
      by_cases hm : m8 ≤ 140737488355328
      · obtain ⟨xs, hx, _⟩ := q8 hm; exact ⟨xs, fun _ => hx⟩
      · exact ⟨[], fun h => absurd h hm⟩
    subst h0 h1 h2 h3 h4 h5 h6 h7 h8
    exact ⟨⟨a0, a1, a2, a3, a4, A5, m5, k5, xs5, A6, m6, k6, xs6, a7, A8, m8, k8, xs8⟩, rfl, ⟨w0, w1, w2, w3, w4, w7⟩, fun h => hxs8 (Nat.le_trans h (by omega)), fun h => hxs5 (Nat.le_trans h (by omega)), fun h => hxs6 (Nat.le_trans h (by omega))⟩
theorem aq_cells : Tryz.prog.cellsOf 27 = 6 := by kernel_rfl
set_option maxRecDepth 100000 in
theorem open_aq {r : Reach} {b0 : Nat} {v : Value} {d : DataW H} {p : List MemPlace}
    (hv : Value.okWide Tryz.prog w r b0 27 v) (hT : DataW.Trod enc Tryz.prog w base spare held 27 v d p) : ∃ a : Aq, v = aqV a ∧ AqO w a := by
  obtain ⟨cs, rfl, hsz⟩ := okWide_struct aq_struct hv
  obtain ⟨l⟩ := cs
  obtain ⟨fuel, h⟩ := hT
  have hl : l.length = 6 := by have h1 := hsz; rw [aq_cells] at h1; simpa using h1
  match l, hl, h with
  | [c0, c1, c2, c3, c4, c5], _, h =>
    have h : DataW.trod enc Tryz.prog w base spare held fuel 27 [c0, c1, c2, c3, c4, c5] = some (d, p) := h
    obtain ⟨n0, y0, g0⟩ := field_of aq_struct h (j := 0) (o := 0) (ty := 3) (by kernel_rfl) one_int
    obtain ⟨a0, h0, w0⟩ := I64v_of Tryz.underlying3 (v := c0) g0
    obtain ⟨n5, y5, g5⟩ := field_of aq_struct h (j := 5) (o := 5) (ty := 3) (by kernel_rfl) one_int
    obtain ⟨a5, h5, w5⟩ := I64v_of Tryz.underlying3 (v := c5) g5
    obtain ⟨n1, y1, g1⟩ := field_of aq_struct h (j := 1) (o := 1) (ty := 22) (by kernel_rfl) (c := 1) (by kernel_rfl)
    obtain ⟨A1, m1, k1, h1, q1⟩ := open_sl (cs := [c1]) fuE_len (by omega) Tryz.underlying22 (by kernel_rfl) fu_trod g1
    have h1 : c1 = .slice A1 m1 k1 := by simpa using h1
    obtain ⟨n2, y2, g2⟩ := field_of aq_struct h (j := 2) (o := 2) (ty := 23) (by kernel_rfl) (c := 1) (by kernel_rfl)
    obtain ⟨A2, m2, k2, h2, q2⟩ := open_sl (cs := [c2]) odE_len (by omega) Tryz.underlying23 (by kernel_rfl) od_trod g2
    have h2 : c2 = .slice A2 m2 k2 := by simpa using h2
    obtain ⟨n3, y3, g3⟩ := field_of aq_struct h (j := 3) (o := 3) (ty := 24) (by kernel_rfl) (c := 1) (by kernel_rfl)
    obtain ⟨A3, m3, k3, h3, q3⟩ := open_sl (cs := [c3]) blE_len (by omega) Tryz.underlying24 (by kernel_rfl) bl_trod g3
    have h3 : c3 = .slice A3 m3 k3 := by simpa using h3
    obtain ⟨n4, y4, g4⟩ := field_of aq_struct h (j := 4) (o := 4) (ty := 25) (by kernel_rfl) (c := 1) (by kernel_rfl)
    obtain ⟨A4, m4, k4, h4, q4⟩ := open_sl (cs := [c4]) seE_len (by omega) Tryz.underlying25 (by kernel_rfl) se_trod g4
    have h4 : c4 = .slice A4 m4 k4 := by simpa using h4
    obtain ⟨xs1, hxs1⟩ : ∃ xs : List Fu, m1 ≤ 140737488355328 → Fs w w.heap.size A1 m1 k1 xs ∧ ∀ x ∈ xs, FuW x := by
      by_cases hm : m1 ≤ 140737488355328
      · obtain ⟨xs, hx⟩ := q1 hm; exact ⟨xs, fun _ => hx⟩
      · exact ⟨[], fun h => absurd h hm⟩
    obtain ⟨xs2, hxs2⟩ : ∃ xs : List Od, m2 ≤ 140737488355328 → Ods w w.heap.size A2 m2 k2 xs ∧ ∀ x ∈ xs, (x.shn ≤ 8 → OdS w w.heap.size x) := by
      by_cases hm : m2 ≤ 140737488355328
      · obtain ⟨xs, hx⟩ := q2 hm; exact ⟨xs, fun _ => hx⟩
      · exact ⟨[], fun h => absurd h hm⟩
    obtain ⟨xs3, hxs3⟩ : ∃ xs : List Bl, m3 ≤ 140737488355328 → Bls w w.heap.size A3 m3 k3 xs ∧ ∀ x ∈ xs, True := by
      by_cases hm : m3 ≤ 140737488355328
      · obtain ⟨xs, hx⟩ := q3 hm; exact ⟨xs, fun _ => hx⟩
      · exact ⟨[], fun h => absurd h hm⟩
    obtain ⟨xs4, hxs4⟩ : ∃ xs : List Se, m4 ≤ 140737488355328 → Ses w w.heap.size A4 m4 k4 xs ∧ ∀ x ∈ xs, (SeW x ∧ (x.iun ≤ 60 → Ius w w.heap.size x.iuA x.iun x.iuc x.iu) ∧ (x.skn ≤ 20 → Is w w.heap.size x.skA x.skn x.skc x.sk) ∧ (x.dbn ≤ 20 → Is w w.heap.size x.dbA x.dbn x.dbc x.db)) := by
      by_cases hm : m4 ≤ 140737488355328
      · obtain ⟨xs, hx⟩ := q4 hm; exact ⟨xs, fun _ => hx⟩
      · exact ⟨[], fun h => absurd h hm⟩
    subst h0 h1 h2 h3 h4 h5
    exact ⟨⟨a0, A1, m1, k1, xs1, A2, m2, k2, xs2, A3, m3, k3, xs3, A4, m4, k4, xs4, a5⟩, rfl, fun h => hxs1 (Nat.le_trans h (by omega)), fun h => hxs2 (Nat.le_trans h (by omega)), fun h => (hxs3 (Nat.le_trans h (by omega))).1, fun h => hxs4 (Nat.le_trans h (by omega))⟩
end
end Go.Proofs.YtbhndfphegflhaaGreat

/- Opening single funds and bills. -/
namespace Go.Proofs.YtbhndfphegflhaaGreat
open Go.ChangeShapes Go.WideShapes Go.ChangeAt Go.RowKit
theorem i64wf {a : Int} (h : (Lit.int .i64 a).wf = true) : I64 a := by
  have := bounds_i64 h
  exact this
section
variable {H : Type} {enc : TypeId × Value → H} {w : World} {base : Nat} {spare : Nat → Bool} {held : Bool}
theorem fu_cells5 : Tryz.prog.cellsOf 57 = 5 := by kernel_rfl
set_option maxRecDepth 100000 in
theorem open_fund {r : Reach} {b0 : Nat} {v : Value} {d : DataW H} {p : List MemPlace}
    (hv : Value.okWide Tryz.prog w r b0 57 v) (hT : DataW.Trod enc Tryz.prog w base spare held 57 v d p) : ∃ a : Fu, v = fuV a ∧ FuW a := by
  obtain ⟨cs, rfl, hsz⟩ := okWide_struct fu_struct hv
  obtain ⟨l⟩ := cs
  obtain ⟨fuel, h⟩ := hT
  have hl : l.length = 5 := by have h1 := hsz; rw [fu_cells5] at h1; simpa using h1
  have h : DataW.trod enc Tryz.prog w base spare held fuel 57 l = some (d, p) := h
  obtain ⟨a, rfl, hw⟩ := fu_trod fuel l _ hl h
  exact ⟨a, rfl, hw⟩
theorem bl_cells5 : Tryz.prog.cellsOf 43 = 5 := by kernel_rfl
set_option maxRecDepth 100000 in
theorem open_bl {r : Reach} {b0 : Nat} {v : Value} {d : DataW H} {p : List MemPlace}
    (hv : Value.okWide Tryz.prog w r b0 43 v) (hT : DataW.Trod enc Tryz.prog w base spare held 43 v d p) : ∃ a : Bl, v = blV a := by
  obtain ⟨cs, rfl, hsz⟩ := okWide_struct bl_struct hv
  obtain ⟨l⟩ := cs
  obtain ⟨fuel, h⟩ := hT
  have hl : l.length = 5 := by have h1 := hsz; rw [bl_cells5] at h1; simpa using h1
  have h : DataW.trod enc Tryz.prog w base spare held fuel 43 l = some (d, p) := h
  obtain ⟨a, rfl, hw⟩ := bl_trod fuel l _ hl h
  exact ⟨a, rfl⟩
theorem od_cells10 : Tryz.prog.cellsOf 35 = 10 := by kernel_rfl
set_option maxRecDepth 100000 in
theorem open_od {r : Reach} {b0 : Nat} {v : Value} {d : DataW H} {p : List MemPlace}
    (hv : Value.okWide Tryz.prog w r b0 35 v) (hT : DataW.Trod enc Tryz.prog w base spare held 35 v d p) : ∃ a : Od, v = odV a ∧ (a.shn ≤ 8 → OdS w w.heap.size a) := by
  obtain ⟨cs, rfl, hsz⟩ := okWide_struct od_struct hv
  obtain ⟨l⟩ := cs
  obtain ⟨fuel, h⟩ := hT
  have hl : l.length = 10 := by have h1 := hsz; rw [od_cells10] at h1; simpa using h1
  have h : DataW.trod enc Tryz.prog w base spare held fuel 35 l = some (d, p) := h
  obtain ⟨a, rfl, hw⟩ := od_trod fuel l _ hl h
  exact ⟨a, rfl, hw⟩
end
end Go.Proofs.YtbhndfphegflhaaGreat

/- Walks: slices.Insert of one element. Printed by gen_ins.py. -/
namespace Go.Proofs.YtbhndfphegflhaaGreat
open Go.RowKit

theorem fu_sl1 {w : World} {g : Nat} {x : Fu} (h : Box w g 57 (fuC x)) : Fus w (g + 1) (some ⟨g, 0, none⟩) 1 1 [x] :=
  Sl.of_box (t := 57) fuE_len (xs := [x]) (show Box w g 57 (([x] : List Fu).flatMap fuE).toArray from h) rfl (Nat.le_refl _) (by omega)

set_option maxRecDepth 100000 in
/-- At the end: an append. -/
theorem fu_ins_end (base : Nat) (v : Value) (n : Nat) (xs : List Fu) (x : Fu) (vb : Nat) (w : World) (hown : w.ownsRow base 57 5 v n (xs.flatMap fuE)) (hn : n ≤ 1000) (hb : base ≤ w.heap.size) (hV : Box w vb 57 (fuC x)) :
    Calls Tryz.prog 136 #[v, .int .i64 n, .slice (some ⟨vb, 0, none⟩) 1 1] w fun e w' => ∃ v', e = .returned v' ∧ w'.ownsRow base 57 5 v' (n + 1) ((xs ++ [x]).flatMap fuE) ∧ Below base w w' := by
  obtain ⟨i0, hi, hz0, hz1, hz2⟩ := info_parts fu_info
  have HV := hide (fu_sl1 hV)
  have HO := hide hown
  rcases own_box hown with ⟨rfl, rfl⟩ | ⟨g, cap, cur, rfl, hbg, hB, hnc, hcm, hcs, htk⟩
  · clear hown hV
    go_enter Tryz.func136, Tryz.ntmps136
    go_wp2_with (at_builtin; go_must (refine wpList_append_sl _ rfl _ _ 22 rfl base 57 i0 _ 40 Tryz.underlying22 hi hz0 hz1 hz2 rfl (by decide) fuE_len fuE_one _ 0 _ rfl HO.out _ 1 1 rfl HV.out (by unfold maxLen; omega) (by omega) hb ?_))
    intro v' w1 hown hg hat
    go_wp2
    go_ret
    refine ⟨v', rfl, by simpa using hown, (Below.refl base w).grown hg hb (by intro k hk; simp [Value.ownBlock] at hk)⟩
  · have HC := hide (And.intro hcs htk)
    clear hown hV hB hcs htk
    unfold maxLen at hcm
    go_enter Tryz.func136, Tryz.ntmps136
    go_wp2_with (at_builtin; go_must (refine wpList_append_sl _ rfl _ _ 22 rfl base 57 i0 _ 40 Tryz.underlying22 hi hz0 hz1 hz2 rfl (by decide) fuE_len fuE_one _ n _ rfl HO.out _ 1 1 rfl HV.out (by unfold maxLen; omega) (by omega) hb ?_))
    all_goals
      intro v' w1 hown hg hat
      go_wp2
      go_ret
      exact ⟨v', rfl, by rw [List.flatMap_append]; exact hown, (Below.refl base w).grown hg hb (by intro k hk; simp [Value.ownBlock] at hk; omega)⟩

set_option maxRecDepth 100000 in
/-- Inside, where there is room. -/
theorem fu_ins_room (g n cap i : Nat) (cur : Array Value) (x : Fu) (vb : Nat) (w : World) (hB : Box w g 57 cur) (hV : Box w vb 57 (fuC x)) (hne : vb ≠ g) (hi : i < n) (hroom : n + 1 ≤ cap) (_hcm : cap ≤ maxLen)
    (hcs : cur.size = cap * 5) (hn : n ≤ 1000) (h1 : ∀ u ∈ cur.toList.take (n * 5), u.oneCell' = true) :
    Calls Tryz.prog 136 #[.slice (some ⟨g, 0, none⟩) n cap, .int .i64 i, .slice (some ⟨vb, 0, none⟩) 1 1] w fun e w' =>
      e = .returned (.slice (some ⟨g, 0, none⟩) (n + 1) cap) ∧ w' = (w.drew.setCells g ((i + 1) * 5) ((cur.toList.take (n * 5)).drop (i * 5))).setCells g (i * 5) (fuE x) := by
  obtain ⟨i0, hi0, hz0, hz1, hz2⟩ := info_parts fu_info
  obtain ⟨ms, hms⟩ : ∃ ms, ms = (cur.toList.take (n * 5)).drop (i * 5) := ⟨_, rfl⟩
  have hml : ms.length = (n - i) * 5 := by rw [hms]; simp; omega
  have hmc : ∀ j v, ms[j]? = some v → w.drew.cell? ((⟨g, i * 5, none⟩ : Addr).add j) = some v := by
    intro j v hj
    rw [hms, List.getElem?_drop, List.getElem?_take] at hj
    split at hj
    · rw [Addr.add_lit]
      exact (hB.drew.cell _).trans (by simpa using hj)
    · cases hj
  have hm1 : ∀ u ∈ ms, u.oneCell' = true := fun u hu => h1 u (List.mem_of_mem_drop (hms ▸ hu))
  have hsA := World.shape_box hV
  have hsB := World.shape_box hB
  have hov : ∀ lb cb, (callFunc 171 #[.slice (some ⟨vb, 0, none⟩) 1 1, .slice (some ⟨g, (i + 1) * 5, none⟩) lb cb]).run Tryz.prog w = .ok (.value (.bool false)) w := fun lb cb => by
    rw [run_callFunc_extern Tryz.func171 (by kernel_rfl) (by kernel_rfl) (by kernel_rfl) (e := Extern.SlicesOverlaps.overlaps #[22, 22] #[4]) (by kernel_rfl),
      Lib.run_overlaps_apart w 22 4 57 Tryz.underlying22 5 Tryz.sizeOf57 ⟨vb, 0, none⟩ ⟨g, (i + 1) * 5, none⟩ 1 1 lb cb hne 57 57 5 (cap * 5) hsA (hcs ▸ hsB) (by omega) (hV.frz 0) (hV.frz 5)]
    rfl
  have hcp1 : ∀ ty dc sc, (Builtin.copy_ #[22, 22] ty #[.slice (some ⟨g, (i + 1) * 5, none⟩) (n - i) dc, .slice (some ⟨g, i * 5, none⟩) (n + 1 - i) sc]).run Tryz.prog w.drew = .ok (goInt (Nat.min (n + 1 - i) (n - i))) (w.drew.setCells g ((i + 1) * 5) ms) := fun ty dc sc =>
    run_copy_box _ _ ty 57 i0 5 ((i + 1) * 5) (n - i) dc ⟨g, i * 5, none⟩ (n + 1 - i) sc ms Tryz.underlying22 hi0 hz1 hB.drew (by rw [hml]; simp only [Nat.min_def]; split <;> omega) (by rw [hml, hcs]; omega) hmc hm1
  obtain ⟨W1, hW1⟩ : ∃ W1, W1 = w.drew.setCells g ((i + 1) * 5) ms := ⟨_, rfl⟩
  have hB1 : Box W1 g 57 (splice cur.toList ((i + 1) * 5) ms).toArray := by rw [hW1]; exact hB.drew.setCells _ _ _ _ (by rw [hml, hcs]; omega)
  have hV1 : Box W1 vb 57 (fuC x) := by rw [hW1]; exact Box.far_setCells hne _ _ _ hV.drew
  rw [← hW1] at hcp1
  have hcp2 : ∀ ty dc, (Builtin.copy_ #[22, 22] ty #[.slice (some ⟨g, i * 5, none⟩) (n + 1 - i) dc, .slice (some ⟨vb, 0, none⟩) 1 1]).run Tryz.prog W1 = .ok (goInt (Nat.min 1 (n + 1 - i))) (W1.setCells g (i * 5) (fuE x)) := fun ty dc =>
    run_copy_box _ _ ty 57 i0 5 (i * 5) (n + 1 - i) dc ⟨vb, 0, none⟩ 1 1 (fuE x) Tryz.underlying22 hi0 hz1 hB1 (by rw [fuE_len]; simp only [Nat.min_def]; split <;> omega)
      (by rw [fuE_len]; simp only [List.size_toArray]; rw [length_splice _ _ _ (by rw [hml]; simp; omega)]; simp; omega) (fun j v hj => by rw [Addr.add_lit, Nat.zero_add]; exact (hV1.cell j).trans (by simpa [fuE] using hj)) (fuE_one x)
  have hw1 : IntKind.i64.wrap ((i : Int) + 1) = (i : Int) + 1 := by rw [IntKind.wrap_i64]; omega
  have hb1 : (0 : Int) ≤ (i : Int) + 1 := by omega
  have hin : i ≤ n := by omega
  have htn : ((i : Int) + 1).toNat = i + 1 := by omega
  have hb2 : ¬ (cap = i + 1) := by omega
  have hb3 : (i : Int) ≤ (n : Int) + 1 := by omega
  have hb4 : ¬ (cap = i) := by omega
  unfold maxLen at _hcm
  have HW := hide hW1
  have HMS := hide hms
  have hz2' : ¬ ((i : Int) = (n : Int)) := by omega
  clear hW1 hms hml hmc hm1 hsA hsB hB hV hB1 hV1 h1 hcs hne hz0 hz1 hz2 hi0
  go_enter Tryz.func136, Tryz.ntmps136
  go_wp2_with (simp only [hov])
  go_region_law (refine step_copy_run1 rfl _ _ 22 22 rfl _ _ (by simp [Act.eval, Act.put]) (by simp [Act.eval, Act.put]) (hcp1 _ _ _) ?_)
  go_wp2_with (at_builtin; refine wpList_copy_run1 _ rfl _ _ 22 22 rfl _ _ rfl rfl (hcp2 _ _) ?_)
  go_ret
  exact ⟨rfl, by rw [HW.out, HMS.out]⟩

set_option maxRecDepth 100000 in
/-- Inside, where there is no room: a new row. -/
theorem fu_ins_grow (g n i : Nat) (cur : Array Value) (x : Fu) (vb : Nat) (w : World) (hB : Box w g 57 cur) (hV : Box w vb 57 (fuC x)) (hi : i < n)
    (hcs : cur.size = n * 5) (hn : n ≤ 1000) (h1 : ∀ u ∈ cur.toList, u.oneCell' = true) :
    Calls Tryz.prog 136 #[.slice (some ⟨g, 0, none⟩) n n, .int .i64 i, .slice (some ⟨vb, 0, none⟩) 1 1] w fun e w' =>
      ∃ G cur', e = .returned (.slice (some ⟨w.heap.size, 0, none⟩) (n + 1) G) ∧ Box w' w.heap.size 57 cur' ∧ n + 1 ≤ G ∧ G ≤ maxLen ∧ cur'.size = G * 5 ∧
        cur'.toList.take ((n + 1) * 5) = cur.toList.take (i * 5) ++ fuE x ++ cur.toList.drop (i * 5) ∧ Below w.heap.size w w' := by
  obtain ⟨i0, hi0, hz0, hz1, hz2⟩ := info_parts fu_info
  have hgw := hB.lt
  have hvw := hV.lt
  obtain ⟨ms, hms⟩ : ∃ ms, ms = cur.toList.drop (i * 5) := ⟨_, rfl⟩
  have hml : ms.length = (n - i) * 5 := by rw [hms]; simp; omega
  have hm1 : ∀ u ∈ ms, u.oneCell' = true := fun u hu => h1 u (List.mem_of_mem_drop (hms ▸ hu))
  obtain ⟨G, hG⟩ : ∃ G, G = grownCap w (n + 1) n 57 := ⟨_, rfl⟩
  obtain ⟨Z, hZ⟩ : ∃ Z, Z = Builtin.zeroCells (Value.agg #[.int .i64 0, .int .i64 0, .int .i64 0, .int .i64 0, .int .i64 0]).cells (n + 1 - i) ++ Builtin.zeroCells (Value.agg #[.int .i64 0, .int .i64 0, .int .i64 0, .int .i64 0, .int .i64 0]).cells (G - (n + 1)) := ⟨_, rfl⟩
  have hGn : n + 1 ≤ G := by rw [hG]; exact grownCap_ge w _ _ _
  have hGm : G ≤ maxLen := by rw [hG]; exact grownCap_le_maxLen w _ _ _ (by unfold maxLen; omega)
  have hZs : Z.size = (G - i) * 5 := by
    have hz : (Value.agg #[.int .i64 0, .int .i64 0, .int .i64 0, .int .i64 0, .int .i64 0]).cells.size = 5 := rfl
    rw [hZ, Array.size_append, size_zeroCells, size_zeroCells, hz, ← Nat.add_mul]
    congr 1
    omega
  have hold : (Builtin.firstCells i0.size i (.slice (some ⟨g, 0, none⟩) i n)).run Tryz.prog w.drew = .ok (cur.toList.take (i * 5)).toArray w.drew := by
    rw [hz1]
    refine run_firstCells_some w.drew 5 i ⟨g, 0, none⟩ i n _ (by simp; omega) (fun j v hj => ?_)
    rw [Addr.add_lit, Nat.zero_add, hB.drew.cell]
    rw [List.getElem?_take] at hj
    split at hj
    · simpa using hj
    · cases hj
  have hkk : (n : Int) + 1 - (i : Int) = ((n + 1 - i : Nat) : Int) := by omega
  have hik : i + (n + 1 - i) = n + 1 := by omega
  have hrz : ∀ ty, (Builtin.append_ #[22, 3] ty #[.slice (some ⟨g, 0, none⟩) i n, .int .i64 ((n : Int) + 1 - (i : Int))]).run Tryz.prog w =
      .ok (.slice (some ⟨w.heap.size, 0, none⟩) (n + 1) G) (w.drew.alloc (.cells ((cur.toList.take (i * 5)).toArray ++ Z) 57)) := fun ty => by
    have h := Lib.run_append_grow_zeros w 22 3 ty 57 i0 _ .i64 .i64 Tryz.underlying22 Tryz.underlying3 hi0 hz0 (some ⟨g, 0, none⟩) i n _ hold (n + 1 - i) (by omega) (by rw [hz1]; omega) (by omega) (by omega) (by rw [hz2]; omega) (by rw [hz2, hik]; exact growslice_fits (by omega) (by omega))
    rw [hik, ← hG, Array.append_assoc, ← hZ] at h
    rw [hkk]
    exact h
  obtain ⟨W1, hW1⟩ : ∃ W1, W1 = w.drew.alloc (.cells ((cur.toList.take (i * 5)).toArray ++ Z) 57) := ⟨_, rfl⟩
  have b1 : Box W1 w.heap.size 57 ((cur.toList.take (i * 5)).toArray ++ Z) := by rw [hW1]; exact Box.new w.drew _ _
  have s1 : ((cur.toList.take (i * 5)).toArray ++ Z).size = G * 5 := by simp; omega
  have v1 : Box W1 vb 57 (fuC x) := by rw [hW1]; exact hV.drew.alloc _
  have g1 : Box W1 g 57 cur := by rw [hW1]; exact hB.drew.alloc _
  have e1 : Below w.heap.size w W1 := by rw [hW1]; exact (Below.refl _ w).drew.alloc (Nat.le_refl _) _
  rw [← hW1] at hrz
  have hcA : ∀ ty dc, (Builtin.copy_ #[22, 22] ty #[.slice (some ⟨w.heap.size, i * 5, none⟩) (n + 1 - i) dc, .slice (some ⟨vb, 0, none⟩) 1 1]).run Tryz.prog W1 = .ok (goInt (Nat.min 1 (n + 1 - i))) (W1.setCells w.heap.size (i * 5) (fuE x)) := fun ty dc =>
    run_copy_box _ _ ty 57 i0 5 (i * 5) (n + 1 - i) dc ⟨vb, 0, none⟩ 1 1 (fuE x) Tryz.underlying22 hi0 hz1 b1 (by rw [fuE_len]; simp only [Nat.min_def]; split <;> omega) (by rw [fuE_len, s1]; omega)
      (fun j v hj => by rw [Addr.add_lit, Nat.zero_add]; exact (v1.cell j).trans (by simpa [fuE] using hj)) (fuE_one x)
  obtain ⟨W2, hW2⟩ : ∃ W2, W2 = W1.setCells w.heap.size (i * 5) (fuE x) := ⟨_, rfl⟩
  have b2 : Box W2 w.heap.size 57 (splice ((cur.toList.take (i * 5)).toArray ++ Z).toList (i * 5) (fuE x)).toArray := by rw [hW2]; exact b1.setCells _ _ _ _ (by rw [fuE_len, s1]; omega)
  have s2 : (splice ((cur.toList.take (i * 5)).toArray ++ Z).toList (i * 5) (fuE x)).toArray.size = G * 5 := by
    rw [List.size_toArray, splice_len _ _ _ (by rw [fuE_len, Array.length_toList, s1]; omega), Array.length_toList, s1]
  have g2 : Box W2 g 57 cur := by rw [hW2]; exact Box.far_setCells (by omega) _ _ _ g1
  have e2 : Below w.heap.size w W2 := by rw [hW2]; exact below_setCells (Nat.le_refl _) _ _ _ e1
  rw [← hW2] at hcA
  have hcB : ∀ ty dc sc, (Builtin.copy_ #[22, 22] ty #[.slice (some ⟨w.heap.size, (i + 1) * 5, none⟩) (n - i) dc, .slice (some ⟨g, i * 5, none⟩) (n - i) sc]).run Tryz.prog W2.drew = .ok (goInt (Nat.min (n - i) (n - i))) (W2.drew.setCells w.heap.size ((i + 1) * 5) ms) := fun ty dc sc =>
    run_copy_box _ _ ty 57 i0 5 ((i + 1) * 5) (n - i) dc ⟨g, i * 5, none⟩ (n - i) sc ms Tryz.underlying22 hi0 hz1 b2.drew (by rw [hml]; simp only [Nat.min_def]; split <;> omega) (by rw [hml, s2]; omega)
      (fun j v hj => by
        rw [Addr.add_lit]
        rw [hms, List.getElem?_drop] at hj
        exact (g2.drew.cell _).trans (by simpa using hj)) hm1
  have b3 := b2.drew.setCells ms ((i + 1) * 5) _ _ (by rw [hml, s2]; omega)
  have e3 := below_setCells (b := w.heap.size) (Nat.le_refl _) ms ((i + 1) * 5) _ e2.drew
  have hfin : (splice (splice ((cur.toList.take (i * 5)).toArray ++ Z).toList (i * 5) (fuE x)) ((i + 1) * 5) ms).take ((n + 1) * 5) = cur.toList.take (i * 5) ++ fuE x ++ cur.toList.drop (i * 5) := by
    have h := splice_two ((cur.toList.take (i * 5)).toArray ++ Z).toList (fuE x) ms (i * 5) (by rw [fuE_len, hml, Array.length_toList, s1]; omega)
    rw [fuE_len, hml, show i * 5 + 5 = (i + 1) * 5 from by omega, show (i + 1) * 5 + (n - i) * 5 = (n + 1) * 5 from by omega] at h
    have e4 : (((cur.toList.take (i * 5)).toArray ++ Z).toList).take (i * 5) = cur.toList.take (i * 5) := by
      rw [Array.toList_append, List.take_append_of_le_length (by simp; omega)]
      exact List.take_of_length_le (by rw [List.toList_toArray, List.length_take]; exact Nat.min_le_left _ _)
    rw [h, e4, hms]
  have s3 : (splice (splice ((cur.toList.take (i * 5)).toArray ++ Z).toList (i * 5) (fuE x)) ((i + 1) * 5) ms).toArray.size = G * 5 := by
    rw [List.size_toArray, splice_len _ _ _ (by rw [hml]; rw [List.size_toArray] at s2; rw [s2]; omega)]; simpa using s2
  have HF := hide (And.intro b3 (And.intro e3 (And.intro hfin s3)))
  have hw1 : IntKind.i64.wrap ((i : Int) + 1) = (i : Int) + 1 := by rw [IntKind.wrap_i64]; omega
  have hb1 : (0 : Int) ≤ (i : Int) + 1 := by omega
  have hin : i ≤ n := by omega
  have htn : ((i : Int) + 1).toNat = i + 1 := by omega
  have hGi : ¬ (G = i) := by omega
  have hGim : ¬ (G = i + 1) := by omega
  have hci : ¬ (n = i) := by omega
  have hb3 : (i : Int) ≤ (n : Int) := by omega
  have hz2' : ¬ ((i : Int) = (n : Int)) := by omega
  have HGm := hide hGm
  unfold maxLen at hGm
  clear hW1 hW2 hms hml hm1 hB hV h1 hcs hz0 hz1 hz2 hi0 hG hZ hZs hold hkk hik b1 s1 v1 g1 e1 b2 s2 g2 e2 b3 e3 hfin s3
  go_enter Tryz.func136, Tryz.ntmps136
  go_wp2_with (first
    | (at_builtin; refine Lib.wpList_append_run _ rfl _ _ _ _ rfl _ _ rfl rfl _ _ (hrz _) ?_)
    | (at_builtin; refine wpList_copy_run1 _ rfl _ _ 22 22 rfl _ _ rfl rfl (hcA _ _) ?_))
  go_region_law (refine step_copy_run1 rfl _ _ 22 22 rfl _ _ (by simp [Act.eval, Act.put]) (by simp [Act.eval, Act.put]) (hcB _ _ _) ?_)
  go_wp2
  go_ret
  exact ⟨G, _, rfl, HF.out.1, hGn, HGm.out, HF.out.2.2.2, HF.out.2.2.1, HF.out.2.1⟩

set_option maxRecDepth 100000 in
/-- slices.Insert of one element into a row of the call's own. -/
theorem fu_insert (base : Nat) (v : Value) (n i : Nat) (xs : List Fu) (x : Fu) (vb : Nat) (w : World) (hown : w.ownsRow base 57 5 v n (xs.flatMap fuE)) (hl : xs.length = n) (hi : i ≤ n) (hn : n ≤ 1000) (hb : base ≤ w.heap.size)
    (hV : Box w vb 57 (fuC x)) (hne : v.ownBlock ≠ some vb) :
    Calls Tryz.prog 136 #[v, .int .i64 i, .slice (some ⟨vb, 0, none⟩) 1 1] w fun e w' => ∃ v', e = .returned v' ∧ w'.ownsRow base 57 5 v' (n + 1) ((xs.take i ++ x :: xs.drop i).flatMap fuE) ∧ Below base w w' := by
  by_cases hin : i = n
  · subst hin
    rw [List.take_of_length_le (by omega), List.drop_of_length_le (by omega)]
    exact fu_ins_end base v i xs x vb w hown hn hb hV
  · rcases own_box hown with ⟨_, h0⟩ | ⟨g, cap, cur, rfl, hbg, hB, hnc, hcm, hcs, htk⟩
    · omega
    · have hf : (xs.flatMap fuE).take (i * 5) ++ fuE x ++ (xs.flatMap fuE).drop (i * 5) = (xs.take i ++ x :: xs.drop i).flatMap fuE := by
        rw [flat_take fuE_len, flat_drop fuE_len, List.flatMap_append, List.flatMap_cons, List.append_assoc]
      have hone : ∀ u ∈ xs.flatMap fuE, u.oneCell' = true := fun u hu => by obtain ⟨y, _, hy⟩ := List.mem_flatMap.1 hu; exact fuE_one y u hy
      have hxl : (xs.flatMap fuE).length = n * 5 := by rw [flat_len fuE_len, hl]
      by_cases hr : n + 1 ≤ cap
      · refine (fu_ins_room g n cap i cur x vb w hB hV (fun e => hne (by simp [Value.ownBlock, e])) (by omega) hr hcm hcs hn (by rw [htk]; exact hone)).mono ?_
        rintro e w' ⟨rfl, rfl⟩
        rw [htk]
        have b1 := hB.drew.setCells ((xs.flatMap fuE).drop (i * 5)) ((i + 1) * 5) _ _ (by rw [List.length_drop, hxl, hcs]; omega)
        have s1 : (splice cur.toList ((i + 1) * 5) ((xs.flatMap fuE).drop (i * 5))).toArray.size = cap * 5 := by
          rw [List.size_toArray, splice_len _ _ _ (by rw [List.length_drop, hxl, Array.length_toList, hcs]; omega), Array.length_toList, hcs]
        have b2 := b1.setCells (fuE x) (i * 5) _ _ (by rw [fuE_len, s1]; omega)
        refine ⟨_, rfl, b2.own hbg (by omega) hcm ?_ ?_, below_setCells hbg _ _ _ (below_setCells hbg _ _ _ (Below.refl base w).drew)⟩
        · rw [List.size_toArray, splice_len _ _ _ (by rw [fuE_len]; rw [List.size_toArray] at s1; simp only [s1]; omega)]
          simpa using s1
        · have h := splice_two' cur.toList (fuE x) ((xs.flatMap fuE).drop (i * 5)) (i * 5) (by rw [fuE_len, List.length_drop, hxl, Array.length_toList, hcs]; omega)
          rw [fuE_len, List.length_drop, hxl, show i * 5 + 5 = (i + 1) * 5 from by omega, show (i + 1) * 5 + (n * 5 - i * 5) = (n + 1) * 5 from by omega] at h
          have e3 : cur.toList.take (i * 5) = (xs.flatMap fuE).take (i * 5) := by rw [← htk, List.take_take, Nat.min_eq_left (by omega)]
          rw [e3, hf] at h
          exact h
      · obtain rfl : cap = n := by omega
        have hcl : cur.toList = xs.flatMap fuE := by rw [← htk, List.take_of_length_le (by rw [Array.length_toList, hcs]; exact Nat.le_refl _)]
        refine (fu_ins_grow g cap i cur x vb w hB hV (by omega) hcs hn (by rw [hcl]; exact hone)).mono ?_
        rintro e w' ⟨G, cur', rfl, hB', h1, h2, h3, h4, h5⟩
        exact ⟨_, rfl, hB'.own hb h1 h2 h3 (by rw [h4, hcl, hf]), h5.mono hb⟩
end Go.Proofs.YtbhndfphegflhaaGreat

/- Plain laws on funds: lists that differ in amounts only are valid together. No walk. -/
namespace Go.Proofs.YtbhndfphegflhaaGreat

def keys (xs : List Fu) : List (Int × Int) := xs.map (fun x => (x.id, x.parent))
theorem getF_cons (x : Fu) (r : List Fu) (id : Int) : getF (x :: r) id = if x.id = id then (x, true) else getF r id := by
  unfold getF
  rw [List.find?_cons]
  by_cases h : x.id = id
  · rw [if_pos h]
    have : (x.id == id) = true := by simpa using h
    rw [this]
  · rw [if_neg h]
    have : (x.id == id) = false := by simpa using h
    rw [this]
theorem getF_keys : ∀ {xs ys : List Fu}, keys xs = keys ys → ∀ id, (getF xs id).2 = (getF ys id).2 ∧ (getF xs id).1.parent = (getF ys id).1.parent
  | [], [], _, _ => ⟨rfl, rfl⟩
  | [], _ :: _, h, _ => by simp [keys] at h
  | _ :: _, [], h, _ => by simp [keys] at h
  | x :: r, y :: s, h, id => by
    simp only [keys, List.map_cons, List.cons.injEq, Prod.mk.injEq] at h
    obtain ⟨⟨h1, h2⟩, h3⟩ := h
    rw [getF_cons, getF_cons, h1]
    by_cases e : y.id = id
    · rw [if_pos e, if_pos e]; exact ⟨rfl, h2⟩
    · rw [if_neg e, if_neg e]; exact getF_keys h3 id
theorem keys_len {xs ys : List Fu} (h : keys xs = keys ys) : xs.length = ys.length := by
  have := congrArg List.length h
  simpa [keys] using this
theorem wiR_keys {xs ys : List Fu} (h : keys xs = keys ys) (top : Int) : ∀ (f : Nat) (id : Int), wiR xs f id top = wiR ys f id top
  | 0, _ => rfl
  | f + 1, id => by
    obtain ⟨h1, h2⟩ := getF_keys h id
    rw [wiR, wiR, h1, h2, wiR_keys h top f]
theorem atF_neg {xs : List Fu} {id : Int} : (atF xs id < 0) ↔ (getF xs id).2 = false := by
  rcases getF_at (xs := xs) (id := id) with ⟨h1, h2⟩ | ⟨i, x, h1, _, _, h4⟩
  · rw [h1, h2]; simp
  · rw [h1, h4]; simp
theorem noneF_keys {xs ys : List Fu} (h : keys xs = keys ys) : noneF xs = noneF ys := by
  have e : ∀ zs : List Fu, (zs.any fun f => decide (f.parent ≠ 0) && decide (atF zs f.parent < 0)) = (keys zs).any (fun k => decide (k.2 ≠ 0) && decide (atF zs k.2 < 0)) := fun zs => by
    unfold keys; rw [List.any_map]; rfl
  unfold noneF
  rw [e, e, h]
  congr 1
  funext k
  congr 1
  rw [Bool.eq_iff_iff]
  simp only [decide_eq_true_eq]
  rw [atF_neg, atF_neg, (getF_keys h k.2).1]
theorem cycR_keys {xs ys : List Fu} (h : keys xs = keys ys) : cycR xs = cycR ys := by
  have e : ∀ zs : List Fu, (zs.any fun f => decide (f.parent ≠ 0) && wiR zs (zs.length + 1) f.parent f.id) = (keys zs).any (fun k => decide (k.2 ≠ 0) && wiR zs (zs.length + 1) k.2 k.1) := fun zs => by
    unfold keys; rw [List.any_map]; rfl
  unfold cycR
  rw [e, e, h, keys_len h]
  congr 1
  funext k
  rw [wiR_keys h]
theorem badF_of {x : Fu} (h1 : 1 ≤ x.id ∧ x.id ≤ 9999) (h2 : 0 ≤ x.parent ∧ x.parent ≤ 9999) (h3 : FuM x) : badF x = false := by
  have hb := h3.b
  have he := h3.e
  have hs := h3.s
  simp only [badF, mny, Bool.or_eq_false_iff, decide_eq_false_iff_not, Bool.not_eq_false', Bool.and_eq_true, decide_eq_true_eq]
  omega
theorem chkA_keys : ∀ {xs ys : List Fu} (p : Option Int), keys xs = keys ys → (∀ y ∈ ys, badF y = false) → chkA p xs = 0 → chkA p ys = 0
  | [], [], _, _, _, _ => rfl
  | [], _ :: _, _, h, _, _ => by simp [keys] at h
  | _ :: _, [], _, h, _, _ => by simp [keys] at h
  | x :: r, y :: s, p, h, hb, hc => by
    simp only [keys, List.map_cons, List.cons.injEq, Prod.mk.injEq] at h
    obtain ⟨⟨h1, h2⟩, h3⟩ := h
    rw [chkA] at hc ⊢
    split at hc
    · simp at hc
    · rename_i hp
      split at hc
      · simp at hc
      · rw [h1] at hp hc
        rw [if_neg hp, if_neg (by rw [hb y (by simp)]; decide)]
        exact chkA_keys (some y.id) h3 (fun z hz => hb z (by simp [hz])) hc
theorem bad_keys {xs ys : List Fu} (h : keys xs = keys ys) (hx : ∀ x ∈ xs, badF x = false) (hm : ∀ y ∈ ys, FuM y) : ∀ y ∈ ys, badF y = false := by
  intro y hy
  have : (y.id, y.parent) ∈ keys xs := by rw [h]; exact List.mem_map.2 ⟨y, hy, rfl⟩
  obtain ⟨x, hxm, he⟩ := List.mem_map.1 this
  obtain ⟨e1, e2⟩ := Prod.mk.inj he
  obtain ⟨b1, b2, _⟩ := badF_ok (hx x hxm)
  exact badF_of (by rw [← e1]; exact b1) (by rw [← e2]; exact b2) (hm y hy)
/-- Where only amounts differ, and these are amounts of which none exceeds its budget, the funds are valid too. -/
theorem right_keys {xs ys : List Fu} (hv : Vld xs) (h : keys xs = keys ys) (hm : ∀ y ∈ ys, FuM y) (ho : ∀ y ∈ ys, y.enc + y.spent ≤ y.budget) : rightR ys = 0 := by
  have hb := bad_keys h hv.ok hm
  unfold rightR
  rw [if_neg (by rw [← keys_len h]; have := hv.len; omega), if_neg (by rw [chkA_keys none h hb hv.chk]; simp), if_neg (by rw [← noneF_keys h, hv.par]; simp), if_neg (by rw [← cycR_keys h, hv.cyc]; simp), if_neg ?_]
  unfold overF
  intro hov
  obtain ⟨y, hy, he⟩ := List.any_eq_true.1 hov
  have := ho y hy
  have he' : y.budget < y.enc + y.spent := by simpa using he
  omega

theorem Vld.free {xs : List Fu} (h : Vld xs) : ∀ x ∈ xs, x.enc + x.spent ≤ x.budget := by
  intro x hx
  have ho := h.ovr
  unfold overF at ho
  rw [List.any_eq_false] at ho
  have := ho x hx
  simp at this
  omega

/-! ### Close -/
theorem keys_cls (keep : Bool) (xs : List Fu) : keys xs = keys (xs.map (clsF keep)) := by
  unfold keys
  rw [List.map_map]
  refine List.map_congr_left (fun x _ => ?_)
  simp only [Function.comp, clsF]
  split <;> rfl
theorem cls_M {keep : Bool} {x : Fu} (hm : FuM x) (ho : x.enc + x.spent ≤ x.budget) : FuM (clsF keep x) ∧ (clsF keep x).enc + (clsF keep x).spent ≤ (clsF keep x).budget ∧ freeF (clsF keep x) = if keep = true then freeF x else 0 := by
  have hb := hm.b
  have he := hm.e
  have hs := hm.s
  cases keep with
  | true => exact ⟨⟨by simp only [clsF]; simp; omega, by simp only [clsF]; simp; omega, by simp [clsF]⟩, by simp [clsF]; omega, by simp [clsF, freeF]; omega⟩
  | false => exact ⟨⟨by simp only [clsF]; simp; omega, by simp only [clsF]; simp; omega, by simp [clsF]⟩, by simp [clsF], by simp [clsF, freeF]⟩
theorem right_cls {xs : List Fu} (hv : Vld xs) (keep : Bool) : rightP (xs.map (clsF keep)) = 0 := by
  rw [right_eq]
  refine right_keys hv (keys_cls keep xs) ?_ ?_
  · intro y hy
    obtain ⟨x, hx, rfl⟩ := List.mem_map.1 hy
    exact (cls_M (hv.M x hx) (hv.free x hx)).1
  · intro y hy
    obtain ⟨x, hx, rfl⟩ := List.mem_map.1 hy
    exact (cls_M (hv.M x hx) (hv.free x hx)).2.1
theorem cls_id (keep : Bool) (x : Fu) : (clsF keep x).id = x.id := by unfold clsF; split <;> rfl
theorem getF_cls (keep : Bool) : ∀ (xs : List Fu) (id : Int), (getF xs id).2 = true → (getF (xs.map (clsF keep)) id).1 = clsF keep (getF xs id).1
  | [], _, h => by simp [getF] at h
  | x :: r, id, h => by
    rw [List.map_cons, getF_cons, getF_cons, cls_id]
    rw [getF_cons] at h
    by_cases e : x.id = id
    · rw [if_pos e, if_pos e]
    · rw [if_neg e] at h ⊢
      rw [if_neg e]
      exact getF_cls keep r id h
theorem free_cls {xs : List Fu} (hv : Vld xs) (keep : Bool) {x : Fu} (hx : x ∈ xs) : freeF (getF (xs.map (clsF keep)) x.id).1 = if keep = true then freeF (getF xs x.id).1 else 0 := by
  have hg := getF_mem (Tid.of hv.chk).dif hx
  rw [getF_cls keep xs x.id (by rw [hg]), hg]
  exact (cls_M (hv.M x hx) (hv.free x hx)).2.2
end Go.Proofs.YtbhndfphegflhaaGreat

/- Plain laws on funds: what transfers, reserving, giving free and spending leave. No walk. -/
namespace Go.Proofs.YtbhndfphegflhaaGreat

def budS (xs : List Fu) : Int := (xs.map (·.budget)).sum
theorem budS_step {xs : List Fu} {k : Nat} {x : Fu} (h : xs[k]? = some x) : budS (xs.take (k + 1)) = budS (xs.take k) + x.budget := by
  obtain ⟨hk, rfl⟩ := List.getElem?_eq_some_iff.1 h
  unfold budS
  rw [List.take_succ_eq_append_getElem hk, List.map_append, List.sum_append]; simp
theorem budS_bd : ∀ {xs : List Fu}, (∀ x ∈ xs, FuM x) → 0 ≤ budS xs ∧ budS xs ≤ 100000000 * xs.length
  | [], _ => by simp [budS]
  | x :: r, h => by
    have h1 := (h x (by simp)).b
    have h2 := budS_bd (xs := r) (fun y hy => h y (by simp [hy]))
    have e : budS (x :: r) = x.budget + budS r := by simp [budS]
    rw [e, List.length_cons]
    omega
theorem budS_set : ∀ {xs : List Fu} {i : Nat} {x y : Fu}, xs[i]? = some x → budS (xs.set i y) = budS xs - x.budget + y.budget
  | [], _, _, _, h => by simp at h
  | z :: r, 0, x, y, h => by
    simp at h; subst h
    have e1 : budS (y :: r) = y.budget + budS r := by simp [budS]
    have e2 : budS (z :: r) = z.budget + budS r := by simp [budS]
    rw [List.set_cons_zero, e1, e2]; omega
  | z :: r, i + 1, x, y, h => by
    have ih := budS_set (xs := r) (i := i) (y := y) (x := x) (by simpa using h)
    have e1 : budS (z :: r.set i y) = z.budget + budS (r.set i y) := by simp [budS]
    have e2 : budS (z :: r) = z.budget + budS r := by simp [budS]
    rw [List.set_cons_succ, e1, e2, ih]; omega
theorem keys_set : ∀ {xs : List Fu} {i : Nat} {x y : Fu}, xs[i]? = some x → y.id = x.id → y.parent = x.parent → keys xs = keys (xs.set i y)
  | [], _, _, _, h, _, _ => by simp at h
  | z :: r, 0, x, y, h, h1, h2 => by simp at h; subst h; simp [keys, h1, h2]
  | z :: r, i + 1, x, y, h, h1, h2 => by
    have ih := keys_set (xs := r) (i := i) (y := y) (x := x) (by simpa using h) h1 h2
    unfold keys at ih ⊢
    rw [List.set_cons_succ, List.map_cons, List.map_cons, ih]
theorem getF_set : ∀ {xs : List Fu} {i : Nat} {x y : Fu} {id : Int}, xs[i]? = some x → x.id = id → (∀ w ∈ xs.take i, w.id ≠ id) → y.id = id → ∀ id', getF (xs.set i y) id' = if id' = id then (y, true) else getF xs id'
  | [], _, _, _, _, h, _, _, _, _ => by simp at h
  | z :: r, 0, x, y, id, h, h1, _, h2, id' => by
    simp at h; subst h
    rw [List.set_cons_zero, getF_cons, getF_cons, h1, h2]
    by_cases e : id = id'
    · rw [if_pos e, if_pos e.symm]
    · rw [if_neg e, if_neg (fun h => e h.symm), if_neg e]
  | z :: r, i + 1, x, y, id, h, h1, ht, h2, id' => by
    have hz : z.id ≠ id := ht z (by simp)
    have ih := getF_set (xs := r) (i := i) (y := y) (x := x) (id := id) (by simpa using h) h1 (fun w hw => ht w (by simp [hw])) h2 id'
    rw [List.set_cons_succ, getF_cons, getF_cons, ih]
    by_cases e : z.id = id'
    · rw [if_pos e, if_pos e, if_neg (fun h => hz (e.trans h))]
    · rw [if_neg e, if_neg e]

/-- A fund with an ID, its place, and none before it. -/
theorem at_cases (xs : List Fu) (id : Int) : (atF xs id = -1 ∧ getF xs id = (fu0, false)) ∨ ∃ (i : Nat) (x : Fu), atF xs id = i ∧ xs[i]? = some x ∧ x.id = id ∧ getF xs id = (x, true) ∧ ∀ w ∈ xs.take i, w.id ≠ id := by
  rcases getF_at (xs := xs) (id := id) with h | ⟨i, x, h1, h2, h3, h4⟩
  · exact .inl h
  · right
    rcases ix_cases (fun x : Fu => x.id == id) xs with ⟨g1, _⟩ | ⟨j, y, g1, g2, g3, g4⟩
    · unfold atF at h1; rw [g1] at h1; omega
    · have hji : j = i := by unfold atF at h1; rw [g1] at h1; omega
      subst hji
      exact ⟨j, x, h1, h2, h3, h4, fun w hw => by have := g4 w hw; simpa using this⟩

/-- One fund changed in its amounts alone, by amounts that fit. -/
theorem right_set {xs : List Fu} (hv : Vld xs) {i : Nat} {x y : Fu} (h : xs[i]? = some x) (h1 : y.id = x.id) (h2 : y.parent = x.parent) (hm : FuM y) (ho : y.enc + y.spent ≤ y.budget) : Vld (xs.set i y) := by
  refine vld_of (right_keys hv (keys_set h h1 h2) (fun z hz => ?_) (fun z hz => ?_))
  · rcases List.mem_or_eq_of_mem_set hz with hz | rfl
    · exact hv.M z hz
    · exact hm
  · rcases List.mem_or_eq_of_mem_set hz with hz | rfl
    · exact hv.free z hz
    · exact ho

theorem Vld.right {xs : List Fu} (h : Vld xs) : rightP xs = 0 := by
  rw [right_eq]
  exact right_keys h rfl h.M h.free

theorem set_back {xs : List Fu} {i : Nat} {x y : Fu} (h : xs[i]? = some x) : (xs.set i y).set i x = xs := by
  rw [List.set_set]; exact set_same h

/-- Transfers. -/
theorem tr_cases {xs : List Fu} (hv : Vld xs) (fr to am : Int) : (trR xs fr to am).1 ≠ 0 ∨
    ((trR xs fr to am).1 = 0 ∧ Vld (trR xs fr to am).2 ∧ budS (trR xs fr to am).2 = budS xs ∧ (0 ≤ am ∧ am ≤ 100000000) ∧
      freeF (getF (trR xs fr to am).2 fr).1 = freeF (getF xs fr).1 - am ∧ freeF (getF (trR xs fr to am).2 to).1 = freeF (getF xs to).1 + am) := by
  rcases at_cases xs fr with ⟨h1, h2⟩ | ⟨i, x, h1, h2, h3, h4, h5⟩
  · left; unfold trR; rw [if_pos (by omega)]; simp
  · rcases at_cases xs to with ⟨g1, g2⟩ | ⟨k, z, g1, g2, g3, g4, g5⟩
    · left; unfold trR; rw [if_pos (by omega)]; simp
    · by_cases hft : fr = to
      · left; unfold trR; rw [if_neg (by omega), if_pos hft]; simp
      · by_cases hmn : mny am = false
        · left; unfold trR; rw [if_neg (by omega), if_neg hft, if_pos hmn]; simp
        · by_cases hfa : freeF x < am
          · left; unfold trR; rw [if_neg (by omega), if_neg hft, if_neg hmn, h4, if_pos hfa]; simp
          · by_cases hmb : mny (z.budget + am) = false
            · left; unfold trR; rw [if_neg (by omega), if_neg hft, if_neg hmn, h4, if_neg hfa, g4, if_pos hmb]; simp
            · right
              have e1 : trR xs fr to am = (0, (xs.set i (chg (-am) 0 0 x)).set k (chg am 0 0 z)) := by
                unfold trR; rw [if_neg (by omega), if_neg hft, if_neg hmn, h4, if_neg hfa, g4, if_neg hmb, h1, g1]; rfl
              rw [e1]
              have hik : i ≠ k := fun e => hft ((id_idx h1 h2 h3 g1 g2 g3).1 e)
              have ham := mny_iff.1 (by simpa using hmn : mny am = true)
              have hbm := mny_iff.1 (by simpa using hmb : mny (z.budget + am) = true)
              have hx := hv.M x (List.mem_of_getElem? h2)
              have hz := hv.M z (List.mem_of_getElem? g2)
              have hxo := hv.free x (List.mem_of_getElem? h2)
              have hzo := hv.free z (List.mem_of_getElem? g2)
              have hxb := hx.b
              have hxe := hx.e
              have hxs := hx.s
              have hzb := hz.b
              have hze := hz.e
              have hzs := hz.s
              have hfa' : am ≤ x.budget - x.enc - x.spent := by unfold freeF at hfa; omega
              have v1 : Vld (xs.set i (chg (-am) 0 0 x)) := right_set hv h2 rfl rfl ⟨by simp only [chg]; omega, by simp only [chg]; omega, by simp only [chg]; omega⟩ (by simp only [chg]; omega)
              have k2 : (xs.set i (chg (-am) 0 0 x))[k]? = some z := by rw [List.getElem?_set, if_neg hik]; exact g2
              have v2 : Vld ((xs.set i (chg (-am) 0 0 x)).set k (chg am 0 0 z)) := right_set v1 k2 rfl rfl ⟨by simp only [chg]; omega, by simp only [chg]; omega, by simp only [chg]; omega⟩ (by simp only [chg]; omega)
              have t1 : ∀ w ∈ (xs.set i (chg (-am) 0 0 x)).take k, w.id ≠ to := by
                intro w hw
                rw [List.take_set] at hw
                rcases List.mem_or_eq_of_mem_set hw with hw | rfl
                · exact g5 w hw
                · show x.id ≠ to
                  rw [h3]; exact hft
              refine ⟨rfl, v2, ?_, ham, ?_, ?_⟩
              · rw [budS_set k2, budS_set h2]; simp only [chg]; omega
              · dsimp only; rw [getF_set (y := chg am 0 0 z) k2 g3 t1 g3, if_neg hft, getF_set (y := chg (-am) 0 0 x) h2 h3 h5 h3, if_pos rfl, h4]; simp only [freeF, chg]; omega
              · dsimp only; rw [getF_set (y := chg am 0 0 z) k2 g3 t1 g3, if_pos rfl, g4]; simp only [freeF, chg]; omega

/-- Reserving, and giving free again. -/
theorem enc_cases {xs : List Fu} (hv : Vld xs) (id am : Int) : (chR (encF am) xs id).1 ≠ 0 ∨
    ((chR (encF am) xs id).1 = 0 ∧ Vld (chR (encF am) xs id).2 ∧ chR (relF am) (chR (encF am) xs id).2 id = (0, xs)) := by
  rcases at_cases xs id with ⟨h1, h2⟩ | ⟨i, x, h1, h2, h3, h4, h5⟩
  · left; rw [chR_none h1]; simp
  · by_cases h0 : (encF am x).1 = 0
    · right
      rw [chR_ok h1 h4 h0]
      have hmn : mny am = true := by unfold encF at h0; cases h : mny am with | true => rfl | false => rw [if_pos h] at h0; simp at h0
      have hfr : ¬ freeF x < am := fun h => by unfold encF at h0; rw [if_neg (by rw [hmn]; decide), if_pos h] at h0; simp at h0
      have e2 : (encF am x).2 = { x with enc := x.enc + am } := by unfold encF; rw [if_neg (by rw [hmn]; decide), if_neg hfr]
      rw [e2]
      have ham := mny_iff.1 hmn
      have hx := hv.M x (List.mem_of_getElem? h2)
      have hxb := hx.b
      have hxe := hx.e
      have hxs := hx.s
      have hf' : am ≤ x.budget - x.enc - x.spent := by unfold freeF at hfr; omega
      have v1 : Vld (xs.set i { x with enc := x.enc + am }) := right_set hv h2 rfl rfl ⟨by show 0 ≤ x.budget ∧ _; omega, by show 0 ≤ x.enc + am ∧ x.enc + am ≤ _; omega, by show 0 ≤ x.spent ∧ _; omega⟩ (by show x.enc + am + x.spent ≤ x.budget; omega)
      have a1 : atF (xs.set i { x with enc := x.enc + am }) id = i := by rw [atF_set (y := { x with enc := x.enc + am }) h2 rfl, h1]
      have g1 : getF (xs.set i { x with enc := x.enc + am }) id = ({ x with enc := x.enc + am }, true) := by rw [getF_set (y := { x with enc := x.enc + am }) h2 h3 h5 h3, if_pos rfl]
      have r1 : relF am { x with enc := x.enc + am } = (0, x) := by
        unfold relF
        rw [if_neg (by rw [hmn]; decide), if_neg (by show ¬ x.enc + am < am; omega)]
        congr 1
        show ({ x with enc := x.enc + am - am } : Fu) = x
        rw [show x.enc + am - am = x.enc from by omega]
      refine ⟨rfl, v1, ?_⟩
      rw [chR_ok a1 g1 (by rw [r1]), r1, set_back h2]
    · left; rw [chR_err h1 h4 h0]; exact h0

/-- Spending. -/
theorem spd_cases {xs : List Fu} (hv : Vld xs) (id re am : Int) : ((chR (spdF re am) xs id).1 ≠ 0 ∧ (chR (spdF re am) xs id).2 = []) ∨
    ((chR (spdF re am) xs id).1 = 0 ∧ Vld (chR (spdF re am) xs id).2 ∧ (0 ≤ re ∧ re ≤ 100000000) ∧ (0 ≤ am ∧ am ≤ 100000000) ∧
      freeF (getF (chR (spdF re am) xs id).2 id).1 = freeF (getF xs id).1 + re - am) := by
  rcases at_cases xs id with ⟨h1, h2⟩ | ⟨i, x, h1, h2, h3, h4, h5⟩
  · left; rw [chR_none h1]; simp
  · by_cases h0 : (spdF re am x).1 = 0
    · right
      rw [chR_ok h1 h4 h0]
      have hmn : ¬ (mny re = false ∨ mny am = false) := fun h => by
        unfold spdF at h0
        rw [if_pos (by rcases h with h | h <;> simp [h])] at h0
        simp at h0
      have hmr : mny re = true := by cases h : mny re with | true => rfl | false => exact absurd (.inl h) hmn
      have hma : mny am = true := by cases h : mny am with | true => rfl | false => exact absurd (.inr h) hmn
      have hg : ¬ (mny re = false || mny am = false) = true := by simp [hmr, hma]
      have hfr : ¬ (x.enc < re ∨ freeF x + re < am) := fun h => by unfold spdF at h0; rw [if_neg hg, if_pos h] at h0; simp at h0
      have e2 : (spdF re am x).2 = { x with enc := x.enc - re, spent := x.spent + am } := by unfold spdF; rw [if_neg hg, if_neg hfr]
      rw [e2]
      have har := mny_iff.1 hmr
      have ham := mny_iff.1 hma
      have hx := hv.M x (List.mem_of_getElem? h2)
      have hxb := hx.b
      have hxe := hx.e
      have hxs := hx.s
      have hf' : re ≤ x.enc ∧ am ≤ x.budget - x.enc - x.spent + re := by unfold freeF at hfr; omega
      refine ⟨rfl, right_set hv h2 rfl rfl ⟨by show 0 ≤ x.budget ∧ _; omega, by show 0 ≤ x.enc - re ∧ x.enc - re ≤ _; omega, by show 0 ≤ x.spent + am ∧ x.spent + am ≤ _; omega⟩ (by show x.enc - re + (x.spent + am) ≤ x.budget; omega), har, ham, ?_⟩
      dsimp only
      rw [getF_set (y := { x with enc := x.enc - re, spent := x.spent + am }) h2 h3 h5 h3, if_pos rfl, h4]
      simp only [freeF]; omega
    · left; rw [chR_err h1 h4 h0]; exact ⟨h0, rfl⟩
theorem free_bd {xs : List Fu} (hv : Vld xs) (id : Int) : 0 ≤ freeF (getF xs id).1 ∧ freeF (getF xs id).1 ≤ 100000000 := by
  rcases at_cases xs id with ⟨h1, h2⟩ | ⟨i, x, h1, h2, h3, h4, h5⟩
  · rw [h2]; simp [freeF, fu0]
  · rw [h4]
    have hx := hv.M x (List.mem_of_getElem? h2)
    have hxb := hx.b
    have hxe := hx.e
    have hxs := hx.s
    have := hv.free x (List.mem_of_getElem? h2)
    simp only [freeF]; omega
end Go.Proofs.YtbhndfphegflhaaGreat
