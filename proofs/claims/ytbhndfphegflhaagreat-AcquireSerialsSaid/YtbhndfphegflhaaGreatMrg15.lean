/- Texts laid together by merge.py: AqPlain, AqT0, FuAr. -/
import Derived.Test.YtbhndfphegflhaaGreatMrg13
import Derived.Test.YtbhndfphegflhaaGreatMrg6
import Derived.Test.YtbhndfphegflhaaGreatMrg7
import Derived.Test.YtbhndfphegflhaaGreatMrg2
import Derived.Test.YtbhndfphegflhaaGreatMrg14
set_option linter.unusedSimpArgs false
set_option linter.unusedVariables false
/- What the acquisitions package and its reference compute, as plain functions. No walk. -/
namespace Go.Proofs.YtbhndfphegflhaaGreat

/-! ### parts -/
def prtL : List (Sh × Int) → Int → Int
  | [], _ => 0
  | (x, v) :: r, id => (if x.fund = id then v else 0) + prtL r id
theorem prtL_snoc : ∀ (P : List (Sh × Int)) (x : Sh) (v id : Int), prtL (P ++ [(x, v)]) id = prtL P id + (if x.fund = id then v else 0)
  | [], x, v, id => by simp [prtL]
  | (y, u) :: r, x, v, id => by rw [List.cons_append, prtL, prtL, prtL_snoc r x v id]; omega
theorem prtL_out : ∀ (P : List (Sh × Int)) (id : Int), (∀ p ∈ P, ¬ p.1.fund = id) → prtL P id = 0
  | [], _, _ => rfl
  | (y, u) :: r, id, h => by rw [prtL, if_neg (h (y, u) (by simp)), prtL_out r id (fun p hp => h p (by simp [hp]))]; rfl
theorem prtL_bd : ∀ (P : List (Sh × Int)) (id : Int), (∀ p ∈ P, 0 ≤ p.2 ∧ p.2 ≤ 100000000016) → 0 ≤ prtL P id ∧ prtL P id ≤ 100000000016 * P.length
  | [], _, _ => by simp [prtL]
  | (y, u) :: r, id, h => by
    have h1 := h (y, u) (by simp)
    have h2 := prtL_bd r id (fun p hp => h p (by simp [hp]))
    rw [prtL, List.length_cons]
    simp only at h1
    split <;> omega
/-- The part of a fund in an amount of an order. -/
def partO (o : Od) (am id : Int) : Int := if (splitO o am).1 = 0 then prtL (o.sh.zip (splitO o am).2) id else 0
/-- What all orders reserve of a fund. -/
def rsvA (os : List Od) (id : Int) : Int := (os.map (fun o => partO o (resvO o) id)).sum
theorem rsv_snoc (P : List Od) (o : Od) (id : Int) : rsvA (P ++ [o]) id = rsvA P id + partO o (resvO o) id := by simp [rsvA]
theorem shareF_bd' {t : Int} {ws : List Int} (h : WsV t ws) : ∀ y ∈ shareF t ws, 0 ≤ y ∧ y ≤ 100000000016 := by
  intro y hy
  have h1 := baseF_bd (t := t) (S := ws.sum) ⟨h.t0, h.t1⟩ h.S.1 h.w
  have h2 := bump_bd 100000000000 _ _ h1.1 y (show y ∈ bump (baseF t ws.sum ws) ((ordF t ws.sum ws).take (leftF t ws.sum ws).toNat) from hy)
  have h3 : ((ordF t ws.sum ws).take (leftF t ws.sum ws).toNat).length ≤ 16 := by rw [List.length_take, ordF_len]; have := h.n1; omega
  omega
theorem partO_bd {o : Od} (hv : sharesV o.sh = true) (am id : Int) : 0 ≤ partO o am id ∧ partO o am id ≤ 400000000064 := by
  unfold partO
  split
  · rename_i h
    unfold splitO at h ⊢
    split at h
    · rename_i ht
      rw [if_pos ht]
      have hw := wsO_V hv ht
      have hb := shareF_bd' hw
      obtain ⟨⟨v1, v2⟩, _⟩ := sharesV_W hv
      obtain ⟨g1, g2⟩ := prtL_bd (o.sh.zip (shareF am (wsO o))) id (fun p hp => hb p.2 (List.of_mem_zip hp).2)
      rw [List.length_zip, shareF_len, wsO, List.length_map, Nat.min_self] at g2
      refine ⟨g1, ?_⟩
      show prtL (o.sh.zip (shareF am (wsO o))) id ≤ _
      unfold wsO
      omega
    · cases h
  · omega
theorem rsvA_bd : ∀ {os : List Od} (_ : ∀ o ∈ os, sharesV o.sh = true) (id : Int), 0 ≤ rsvA os id ∧ rsvA os id ≤ 400000000064 * os.length
  | [], _, _ => by simp [rsvA]
  | o :: r, h, id => by
    have h1 := partO_bd (h o (by simp)) (resvO o) id
    have h2 := rsvA_bd (os := r) (fun o ho => h o (by simp [ho])) id
    unfold rsvA at h2 ⊢
    rw [List.map_cons, List.sum_cons, List.length_cons]
    omega

/-! ### a state's check -/
def shHas (fs : List Fu) (s : Sh) : Bool := (getF fs s.fund).2
def okO (nx : Int) (fs : List Fu) (o : Od) : Bool := decide (o.id < nx) && o.sh.all (shHas fs)
def okF (os : List Od) (f : Fu) : Bool := f.enc == rsvA os f.id
def samB (b c : Bl) : Bool := (c.ven == b.ven) && (c.num == b.num)
/-- A bill fits the orders, and none of the bills before is the same. -/
def okBl (os : List Od) (P : List Bl) (b : Bl) : Bool :=
  (getO os b.ord).2 && ((getO os b.ord).1.ven == b.ven) && winB b.cop 1 100000000 && winB b.amt 1 100000000 && winB b.num 1 99999 && !(P.any (samB b))
def okBls (os : List Od) : List Bl → List Bl → Bool
  | _, [] => true
  | P, b :: r => okBl os P b && okBls os (P ++ [b]) r
theorem okBls_step {os : List Od} {bs : List Bl} {k : Nat} {b : Bl} (h : bs[k]? = some b) : okBls os (bs.take k) (bs.drop k) = (okBl os (bs.take k) b && okBls os (bs.take (k + 1)) (bs.drop (k + 1))) := by
  rw [take_step h]
  obtain ⟨hk, rfl⟩ := List.getElem?_eq_some_iff.1 h
  rw [List.drop_eq_getElem_cons hk, okBls]
def sumB (g : Bl → Int) : List Bl → Int → Int
  | [], _ => 0
  | b :: r, id => (if b.ord = id then g b else 0) + sumB g r id
theorem sumB_snoc (g : Bl → Int) : ∀ (P : List Bl) (b : Bl) (id : Int), sumB g (P ++ [b]) id = sumB g P id + (if b.ord = id then g b else 0)
  | [], b, id => by simp [sumB]
  | c :: r, b, id => by rw [List.cons_append, sumB, sumB, sumB_snoc g r b id]; omega
def okOB (bs : List Bl) (o : Od) : Bool := (sumB (·.cop) bs o.id == o.bil) && (sumB (·.amt) bs o.id == o.paid)
def okBills (os : List Od) (bs : List Bl) : Bool := decide (bs.length ≤ 128) && okBls os [] bs && os.all (okOB bs)

/-! ### subscriptions -/
def hasI (x : Iu) : Bool := (x.st == 2) || (x.st == 4)
def lstI (x y : Iu) : Bool := (x.vol == y.vol) && (x.num == y.num) && (x.last == y.last) && (x.day == y.day)
/-- Two issues hold one item although they are not bound together. -/
def twoI (x z : Iu) : Bool := decide (0 < x.itm) && (z.itm == x.itm) && !((x.st == 4) && (z.st == 4) && (x.vol == z.vol))
def okI (P : List Iu) (x y : Iu) : Bool := lstI x y && winB x.st 1 5 && (hasI x == decide (0 < x.itm)) && winB x.itm 0 9999 && !(P.any (twoI x))
def okIs : List Iu → List (Iu × Iu) → Bool
  | _, [] => true
  | P, (x, y) :: r => okI P x y && okIs (P ++ [x]) r
def issN (x : Se) : List Iu := isL (sePt x) 109572 x.nx.toNat (ps0 (sePt x))
def okSe (x : Se) : Bool := ((x.iu.length : Int) == x.nx) && (((issN x).length : Int) == x.nx) && okIs [] (x.iu.zip (issN x))
/-- A subscription's error. -/
def seErr (x : Se) : Int := if winB x.rcd 1 9999 = false then 2 else if (ptErr (sePt x) != 0) = true then ptErr (sePt x) else if 128 < x.iu.length then 13 else if winB x.nx 0 5000 = false then 2 else if okSe x = true then 0 else 1
def okSes : Option Int → List Se → Bool
  | _, [] => true
  | p, x :: r => (seErr x == 0) && !(p.any (fun q => decide (x.rcd ≤ q))) && okSes (some x.rcd) r
def prevS (xs : List Se) : Nat → Option Int
  | 0 => none
  | k + 1 => (xs[k]?).map (·.rcd)
theorem okSes_step {xs : List Se} {k : Nat} {x : Se} (h : xs[k]? = some x) :
    okSes (prevS xs k) (xs.drop k) = ((seErr x == 0) && !((prevS xs k).any (fun q => decide (x.rcd ≤ q))) && okSes (prevS xs (k + 1)) (xs.drop (k + 1))) := by
  obtain ⟨hk, rfl⟩ := List.getElem?_eq_some_iff.1 h
  rw [List.drop_eq_getElem_cons hk, okSes, prevS, h]; rfl

/-! ### states -/
structure Pa where
  yr : Int
  f : List Fu
  o : List Od
  b : List Bl
  s : List Se
  nx : Int
def aqP (a : Aq) : Pa := ⟨a.yr, a.f, a.o, a.b, a.s, a.nx⟩
def pa0 : Pa := ⟨0, [], [], [], [], 0⟩
def ok1 (a : Pa) : Bool := winB a.yr 1900 2199 && winB a.nx 1 10000 && (rightR a.f == 0) && (rightO a.o == 0)
def ok2 (a : Pa) : Bool := a.o.all (okO a.nx a.f) && a.f.all (okF a.o)
def okOv (a : Pa) : Bool := (rightR a.f == 0) && (rightO a.o == 0) && winB a.nx 1 10000 && ok2 a
/-- Is a state valid? -/
def okA (a : Pa) : Bool := ok1 a && ok2 a && decide (a.s.length ≤ 16) && okSes none a.s && okBills a.o a.b
def withF (a : Pa) (r : Int × List Fu) : Int × Pa := if r.1 = 0 then (0, { a with f := r.2 }) else (r.1, pa0)
def withOr (a : Pa) (r : Int × List Od) : Int × Pa := if r.1 = 0 then (0, { a with o := r.2 }) else (r.1, pa0)
def addFA (a : Pa) (x : Fu) : Int × Pa := if x.enc = 0 ∧ x.spent = 0 then withF a (adnF a.f x) else (1, pa0)
def budA (a : Pa) (id am : Int) : Int × Pa := withF a (chR (budF am) a.f id)
def rcvA (a : Pa) (id m : Int) : Int × Pa := withOr a (receiveO a.o id m)
def clsA (a : Pa) : Int × Pa := if 2199 ≤ a.yr then (2, pa0) else (0, { a with f := a.f.map (clsF false), yr := a.yr + 1 })
/-- The order as it is placed. -/
def newO (a : Pa) (x : Od) : Od := { x with id := a.nx, st := 1, rcv := 0, bil := 0, paid := 0 }
def encL (am : Int → Int) : List Sh → List Fu → Int × List Fu
  | [], fs => (0, fs)
  | s :: r, fs => if (chR (encF (am s.fund)) fs s.fund).1 = 0 then encL am r (chR (encF (am s.fund)) fs s.fund).2 else ((chR (encF (am s.fund)) fs s.fund).1, [])
def ordA (a : Pa) (x : Od) : Int × Pa :=
  if 9999 < a.nx then (13, pa0) else if (placeO a.o (newO a x)).1 = 0 then
    (if x.sh.all (shHas a.f) = true then
      (if (encL (fun id => partO (newO a x) (resvO (newO a x)) id) x.sh a.f).1 = 0 then (0, { a with f := (encL (fun id => partO (newO a x) (resvO (newO a x)) id) x.sh a.f).2, o := (placeO a.o (newO a x)).2, nx := a.nx + 1 })
       else ((encL (fun id => partO (newO a x) (resvO (newO a x)) id) x.sh a.f).1, pa0))
     else (9, pa0))
  else ((placeO a.o (newO a x)).1, pa0)
/-- A fund that follows an order. -/
def stlF (de ds : Int) (x : Fu) : Int × Fu := if 100000000 < x.spent + ds then (2, x) else if x.budget < x.enc + de + (x.spent + ds) then (17, x) else (0, { x with enc := x.enc + de, spent := x.spent + ds })
def stlL (de ds : Int → Int) : List Sh → List Fu → Int × List Fu
  | [], fs => (0, fs)
  | s :: r, fs => if (chR (stlF (de s.fund) (ds s.fund)) fs s.fund).1 = 0 then stlL de ds r (chR (stlF (de s.fund) (ds s.fund)) fs s.fund).2 else ((chR (stlF (de s.fund) (ds s.fund)) fs s.fund).1, [])
def stlA (fs : List Fu) (x y : Od) (am : Int) : Int × List Fu := stlL (fun id => partO y (resvO y) id - partO x (resvO x) id) (fun id => partO y am id) y.sh fs
/-- The funds follow the order with an ID. -/
def folA (a : Pa) (r : Int × List Od) (id am : Int) : Int × Pa :=
  if r.1 = 0 then
    (if (stlA a.f (getO a.o id).1 (getO r.2 id).1 am).1 = 0 then (0, { a with o := r.2, f := (stlA a.f (getO a.o id).1 (getO r.2 id).1 am).2 }) else ((stlA a.f (getO a.o id).1 (getO r.2 id).1 am).1, pa0))
  else (r.1, pa0)
def stpA (a : Pa) (id : Int) : Int × Pa := folA a (stopO a.o id) id 0
def bilA (a : Pa) (b : Bl) : Int × Pa :=
  if a.b.any (samB b) = true then (7, pa0) else if 128 ≤ a.b.length then (13, pa0) else
    (if (folA a (billO a.o b) b.ord b.amt).1 = 0 then (0, { (folA a (billO a.o b) b.ord b.amt).2 with b := a.b ++ [b] }) else folA a (billO a.o b) b.ord b.amt)
end Go.Proofs.YtbhndfphegflhaaGreat

/- The chapter's examples, as plain states. No walk. -/
namespace Go.Proofs.YtbhndfphegflhaaGreat

def f1 : Fu := ⟨1, 0, 1000, 0, 0⟩
def f2 : Fu := ⟨2, 0, 500, 0, 0⟩
/-- The order of the examples, as it comes in, as it stands, and so on. -/
def exI (g : Nat) : Od := ⟨0, 5, 3, 3, 200, 0, 0, 0, 0, some ⟨g, 0, none⟩, 2, 2, [⟨1, 2⟩, ⟨2, 1⟩]⟩
def exA (g : Nat) : Od := ⟨1, 5, 3, 3, 200, 0, 0, 0, 1, some ⟨g, 0, none⟩, 2, 2, [⟨1, 2⟩, ⟨2, 1⟩]⟩
def exB (g : Nat) : Od := { exA g with rcv := 2 }
def exC (g : Nat) : Od := { exA g with rcv := 2, bil := 2, paid := 450 }
def exD (g : Nat) : Od := { exA g with rcv := 2, bil := 2, paid := 450, st := 3 }
def s0 : Pa := ⟨2026, [], [], [], [], 1⟩
def s1 : Pa := ⟨2026, [f1], [], [], [], 1⟩
def s2 : Pa := ⟨2026, [f1, f2], [], [], [], 1⟩
def s3 (g : Nat) : Pa := ⟨2026, [{ f1 with enc := 400 }, { f2 with enc := 200 }], [exA g], [], [], 2⟩
def s4 (g : Nat) : Pa := ⟨2026, [{ f1 with enc := 400 }, { f2 with enc := 200 }], [exB g], [], [], 2⟩
def bl1 : Bl := ⟨3, 77, 1, 2, 450⟩
def bl2 : Bl := ⟨3, 78, 1, 1, 450⟩
def s5 (g : Nat) : Pa := ⟨2026, [{ f1 with enc := 133, spent := 300 }, { f2 with enc := 67, spent := 150 }], [exC g], [bl1], [], 2⟩
def s6 (g : Nat) : Pa := ⟨2026, [{ f1 with spent := 300 }, { f2 with spent := 150 }], [exD g], [bl1], [], 2⟩
def s7 (g : Nat) : Pa := ⟨2027, [{ f1 with budget := 0 }, { f2 with budget := 0 }], [exD g], [bl1], [], 2⟩

theorem al1 : addFA s0 f1 = (0, s1) := by kernel_rfl
theorem al2 : addFA s1 f2 = (0, s2) := by kernel_rfl
theorem al3 (g : Nat) : ordA s2 (exI g) = (0, s3 g) := by kernel_rfl
theorem al4 (g : Nat) : rcvA (s3 g) 1 2 = (0, s4 g) := by kernel_rfl
theorem al5 (g : Nat) : bilA (s4 g) bl1 = (0, s5 g) := by kernel_rfl
theorem al6 (g : Nat) : bilA (s5 g) bl1 = (7, pa0) := by kernel_rfl
theorem al7 (g : Nat) : bilA (s5 g) bl2 = (12, pa0) := by kernel_rfl
theorem al8 (g : Nat) : stpA (s5 g) 1 = (0, s6 g) := by kernel_rfl
theorem al9 (g : Nat) : clsA (s6 g) = (0, s7 g) := by kernel_rfl
theorem al10 (g : Nat) : rsvA (s6 g).o 1 = 0 := by kernel_rfl
theorem al11 (g : Nat) : okA (s7 g) = true := by kernel_rfl
end Go.Proofs.YtbhndfphegflhaaGreat

/- Walks: Out of the reference. Printed by gen_lo_n.py. -/
namespace Go.Proofs.YtbhndfphegflhaaGreat
open Go.RowKit

end Go.Proofs.YtbhndfphegflhaaGreat
