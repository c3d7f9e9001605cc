/- Texts laid together by merge.py: AqPlain, AqT0, FuAr. -/
import Derived.Test.YtbhndfphegflhaaGreatMrg14
import Derived.Test.YtbhndfphegflhaaGreatMrg7
import Derived.Test.YtbhndfphegflhaaGreatMrg8
import Derived.Test.YtbhndfphegflhaaGreatMrg3
import Derived.Test.YtbhndfphegflhaaGreatMrg16
set_option linter.unusedSimpArgs false
set_option linter.unusedVariables false
/- What the acquisitions package and its reference compute, as plain functions. No walk. -/
namespace Go.Proofs.YtbhndfphegflhaaGreat

/-! ### parts -/
def prtL : List (Sh × Int) → Int → Int
  | [], _ => 0
  | (x, v) :: r, id => (if x.fund = id then v else 0) + prtL r id
theorem prtL_snoc : ∀ (P : List (Sh × Int)) (x : Sh) (v id : Int), prtL (P ++ [(x, v)]) id = prtL P id + (if x.fund = id then v else 0)
  | [], x, v, id => by simp [prtL]
  | (y, u) :: r, x, v, id => by rw [List.cons_append, prtL, prtL, prtL_snoc r x v id]; omega
theorem prtL_out : ∀ (P : List (Sh × Int)) (id : Int), (∀ p ∈ P, ¬ p.1.fund = id) → prtL P id = 0
  | [], _, _ => rfl
  | (y, u) :: r, id, h => by rw [prtL, if_neg (h (y, u) (by simp)), prtL_out r id (fun p hp => h p (by simp [hp]))]; rfl
theorem prtL_bd : ∀ (P : List (Sh × Int)) (id : Int), (∀ p ∈ P, 0 ≤ p.2 ∧ p.2 ≤ 100000000016) → 0 ≤ prtL P id ∧ prtL P id ≤ 100000000016 * P.length
  | [], _, _ => by simp [prtL]
  | (y, u) :: r, id, h => by
    have h1 := h (y, u) (by simp)
    have h2 := prtL_bd r id (fun p hp => h p (by simp [hp]))
    rw [prtL, List.length_cons]
    simp only at h1
    split <;> omega
/-- The part of a fund in an amount of an order. -/
def partO (o : Od) (am id : Int) : Int := if (splitO o am).1 = 0 then prtL (o.sh.zip (splitO o am).2) id else 0
/-- What all orders reserve of a fund. -/
def rsvA (os : List Od) (id : Int) : Int := (os.map (fun o => partO o (resvO o) id)).sum
theorem rsv_snoc (P : List Od) (o : Od) (id : Int) : rsvA (P ++ [o]) id = rsvA P id + partO o (resvO o) id := by simp [rsvA]
theorem shareF_bd' {t : Int} {ws : List Int} (h : WsV t ws) : ∀ y ∈ shareF t ws, 0 ≤ y ∧ y ≤ 100000000016 := by
  intro y hy
  have h1 := baseF_bd (t := t) (S := ws.sum) ⟨h.t0, h.t1⟩ h.S.1 h.w
  have h2 := bump_bd 100000000000 _ _ h1.1 y (show y ∈ bump (baseF t ws.sum ws) ((ordF t ws.sum ws).take (leftF t ws.sum ws).toNat) from hy)
  have h3 : ((ordF t ws.sum ws).take (leftF t ws.sum ws).toNat).length ≤ 16 := by rw [List.length_take, ordF_len]; have := h.n1; omega
  omega
theorem partO_bd {o : Od} (hv : sharesV o.sh = true) (am id : Int) : 0 ≤ partO o am id ∧ partO o am id ≤ 400000000064 := by
  unfold partO
  split
  · rename_i h
    unfold splitO at h ⊢
    split at h
    · rename_i ht
      rw [if_pos ht]
      have hw := wsO_V hv ht
      have hb := shareF_bd' hw
      obtain ⟨⟨v1, v2⟩, _⟩ := sharesV_W hv
      obtain ⟨g1, g2⟩ := prtL_bd (o.sh.zip (shareF am (wsO o))) id (fun p hp => hb p.2 (List.of_mem_zip hp).2)
      rw [List.length_zip, shareF_len, wsO, List.length_map, Nat.min_self] at g2
      refine ⟨g1, ?_⟩
      show prtL (o.sh.zip (shareF am (wsO o))) id ≤ _
      unfold wsO
      omega
    · cases h
  · omega
theorem rsvA_bd : ∀ {os : List Od} (_ : ∀ o ∈ os, sharesV o.sh = true) (id : Int), 0 ≤ rsvA os id ∧ rsvA os id ≤ 400000000064 * os.length
  | [], _, _ => by simp [rsvA]
  | o :: r, h, id => by
    have h1 := partO_bd (h o (by simp)) (resvO o) id
    have h2 := rsvA_bd (os := r) (fun o ho => h o (by simp [ho])) id
    unfold rsvA at h2 ⊢
    rw [List.map_cons, List.sum_cons, List.length_cons]
    omega

/-! ### a state's check -/
def shHas (fs : List Fu) (s : Sh) : Bool := (getF fs s.fund).2
def okO (nx : Int) (fs : List Fu) (o : Od) : Bool := decide (o.id < nx) && o.sh.all (shHas fs)
def okF (os : List Od) (f : Fu) : Bool := f.enc == rsvA os f.id
def samB (b c : Bl) : Bool := (c.ven == b.ven) && (c.num == b.num)
/-- A bill fits the orders, and none of the bills before is the same. -/
def okBl (os : List Od) (P : List Bl) (b : Bl) : Bool :=
  (getO os b.ord).2 && ((getO os b.ord).1.ven == b.ven) && winB b.cop 1 100000000 && winB b.amt 1 100000000 && winB b.num 1 99999 && !(P.any (samB b))
def okBls (os : List Od) : List Bl → List Bl → Bool
  | _, [] => true
  | P, b :: r => okBl os P b && okBls os (P ++ [b]) r
theorem okBls_step {os : List Od} {bs : List Bl} {k : Nat} {b : Bl} (h : bs[k]? = some b) : okBls os (bs.take k) (bs.drop k) = (okBl os (bs.take k) b && okBls os (bs.take (k + 1)) (bs.drop (k + 1))) := by
  rw [take_step h]
  obtain ⟨hk, rfl⟩ := List.getElem?_eq_some_iff.1 h
  rw [List.drop_eq_getElem_cons hk, okBls]
def sumB (g : Bl → Int) : List Bl → Int → Int
  | [], _ => 0
  | b :: r, id => (if b.ord = id then g b else 0) + sumB g r id
theorem sumB_snoc (g : Bl → Int) : ∀ (P : List Bl) (b : Bl) (id : Int), sumB g (P ++ [b]) id = sumB g P id + (if b.ord = id then g b else 0)
  | [], b, id => by simp [sumB]
  | c :: r, b, id => by rw [List.cons_append, sumB, sumB, sumB_snoc g r b id]; omega
def okOB (bs : List Bl) (o : Od) : Bool := (sumB (·.cop) bs o.id == o.bil) && (sumB (·.amt) bs o.id == o.paid)
def okBills (os : List Od) (bs : List Bl) : Bool := decide (bs.length ≤ 128) && okBls os [] bs && os.all (okOB bs)

/-! ### subscriptions -/
def hasI (x : Iu) : Bool := (x.st == 2) || (x.st == 4)
def lstI (x y : Iu) : Bool := (x.vol == y.vol) && (x.num == y.num) && (x.last == y.last) && (x.day == y.day)
/-- Two issues hold one item although they are not bound together. -/
def twoI (x z : Iu) : Bool := decide (0 < x.itm) && (z.itm == x.itm) && !((x.st == 4) && (z.st == 4) && (x.vol == z.vol))
def okI (P : List Iu) (x y : Iu) : Bool := lstI x y && winB x.st 1 5 && (hasI x == decide (0 < x.itm)) && winB x.itm 0 9999 && !(P.any (twoI x))
def okIs : List Iu → List (Iu × Iu) → Bool
  | _, [] => true
  | P, (x, y) :: r => okI P x y && okIs (P ++ [x]) r
def issN (x : Se) : List Iu := isL (sePt x) 109572 x.nx.toNat (ps0 (sePt x))
def okSe (x : Se) : Bool := ((x.iu.length : Int) == x.nx) && (((issN x).length : Int) == x.nx) && okIs [] (x.iu.zip (issN x))
/-- A subscription's error. -/
def seErr (x : Se) : Int := if winB x.rcd 1 9999 = false then 2 else if (ptErr (sePt x) != 0) = true then ptErr (sePt x) else if 128 < x.iu.length then 13 else if winB x.nx 0 5000 = false then 2 else if okSe x = true then 0 else 1
def okSes : Option Int → List Se → Bool
  | _, [] => true
  | p, x :: r => (seErr x == 0) && !(p.any (fun q => decide (x.rcd ≤ q))) && okSes (some x.rcd) r
def prevS (xs : List Se) : Nat → Option Int
  | 0 => none
  | k + 1 => (xs[k]?).map (·.rcd)
theorem okSes_step {xs : List Se} {k : Nat} {x : Se} (h : xs[k]? = some x) :
    okSes (prevS xs k) (xs.drop k) = ((seErr x == 0) && !((prevS xs k).any (fun q => decide (x.rcd ≤ q))) && okSes (prevS xs (k + 1)) (xs.drop (k + 1))) := by
  obtain ⟨hk, rfl⟩ := List.getElem?_eq_some_iff.1 h
  rw [List.drop_eq_getElem_cons hk, okSes, prevS, h]; rfl

/-! ### states -/
structure Pa where
  yr : Int
  f : List Fu
  o : List Od
  b : List Bl
  s : List Se
  nx : Int
def aqP (a : Aq) : Pa := ⟨a.yr, a.f, a.o, a.b, a.s, a.nx⟩
def pa0 : Pa := ⟨0, [], [], [], [], 0⟩
def ok1 (a : Pa) : Bool := winB a.yr 1900 2199 && winB a.nx 1 10000 && (rightR a.f == 0) && (rightO a.o == 0)
def ok2 (a : Pa) : Bool := a.o.all (okO a.nx a.f) && a.f.all (okF a.o)
def okOv (a : Pa) : Bool := (rightR a.f == 0) && (rightO a.o == 0) && winB a.nx 1 10000 && ok2 a
/-- Is a state valid? -/
def okA (a : Pa) : Bool := ok1 a && ok2 a && decide (a.s.length ≤ 16) && okSes none a.s && okBills a.o a.b
def withF (a : Pa) (r : Int × List Fu) : Int × Pa := if r.1 = 0 then (0, { a with f := r.2 }) else (r.1, pa0)
def withOr (a : Pa) (r : Int × List Od) : Int × Pa := if r.1 = 0 then (0, { a with o := r.2 }) else (r.1, pa0)
def addFA (a : Pa) (x : Fu) : Int × Pa := if x.enc = 0 ∧ x.spent = 0 then withF a (adnF a.f x) else (1, pa0)
def budA (a : Pa) (id am : Int) : Int × Pa := withF a (chR (budF am) a.f id)
def rcvA (a : Pa) (id m : Int) : Int × Pa := withOr a (receiveO a.o id m)
def clsA (a : Pa) : Int × Pa := if 2199 ≤ a.yr then (2, pa0) else (0, { a with f := a.f.map (clsF false), yr := a.yr + 1 })
/-- The order as it is placed. -/
def newO (a : Pa) (x : Od) : Od := { x with id := a.nx, st := 1, rcv := 0, bil := 0, paid := 0 }
def encL (am : Int → Int) : List Sh → List Fu → Int × List Fu
  | [], fs => (0, fs)
  | s :: r, fs => if (chR (encF (am s.fund)) fs s.fund).1 = 0 then encL am r (chR (encF (am s.fund)) fs s.fund).2 else ((chR (encF (am s.fund)) fs s.fund).1, [])
def ordA (a : Pa) (x : Od) : Int × Pa :=
  if 9999 < a.nx then (13, pa0) else if (placeO a.o (newO a x)).1 = 0 then
    (if x.sh.all (shHas a.f) = true then
      (if (encL (fun id => partO (newO a x) (resvO (newO a x)) id) x.sh a.f).1 = 0 then (0, { a with f := (encL (fun id => partO (newO a x) (resvO (newO a x)) id) x.sh a.f).2, o := (placeO a.o (newO a x)).2, nx := a.nx + 1 })
       else ((encL (fun id => partO (newO a x) (resvO (newO a x)) id) x.sh a.f).1, pa0))
     else (9, pa0))
  else ((placeO a.o (newO a x)).1, pa0)
/-- A fund that follows an order. -/
def stlF (de ds : Int) (x : Fu) : Int × Fu := if 100000000 < x.spent + ds then (2, x) else if x.budget < x.enc + de + (x.spent + ds) then (17, x) else (0, { x with enc := x.enc + de, spent := x.spent + ds })
def stlL (de ds : Int → Int) : List Sh → List Fu → Int × List Fu
  | [], fs => (0, fs)
  | s :: r, fs => if (chR (stlF (de s.fund) (ds s.fund)) fs s.fund).1 = 0 then stlL de ds r (chR (stlF (de s.fund) (ds s.fund)) fs s.fund).2 else ((chR (stlF (de s.fund) (ds s.fund)) fs s.fund).1, [])
def stlA (fs : List Fu) (x y : Od) (am : Int) : Int × List Fu := stlL (fun id => partO y (resvO y) id - partO x (resvO x) id) (fun id => partO y am id) y.sh fs
/-- The funds follow the order with an ID. -/
def folA (a : Pa) (r : Int × List Od) (id am : Int) : Int × Pa :=
  if r.1 = 0 then
    (if (stlA a.f (getO a.o id).1 (getO r.2 id).1 am).1 = 0 then (0, { a with o := r.2, f := (stlA a.f (getO a.o id).1 (getO r.2 id).1 am).2 }) else ((stlA a.f (getO a.o id).1 (getO r.2 id).1 am).1, pa0))
  else (r.1, pa0)
def stpA (a : Pa) (id : Int) : Int × Pa := folA a (stopO a.o id) id 0
def bilA (a : Pa) (b : Bl) : Int × Pa :=
  if a.b.any (samB b) = true then (7, pa0) else if 128 ≤ a.b.length then (13, pa0) else
    (if (folA a (billO a.o b) b.ord b.amt).1 = 0 then (0, { (folA a (billO a.o b) b.ord b.amt).2 with b := a.b ++ [b] }) else folA a (billO a.o b) b.ord b.amt)
end Go.Proofs.YtbhndfphegflhaaGreat

/- The chapter's examples, as plain states. No walk. -/
namespace Go.Proofs.YtbhndfphegflhaaGreat

def f1 : Fu := ⟨1, 0, 1000, 0, 0⟩
def f2 : Fu := ⟨2, 0, 500, 0, 0⟩
/-- The order of the examples, as it comes in, as it stands, and so on. -/
def exI (g : Nat) : Od := ⟨0, 5, 3, 3, 200, 0, 0, 0, 0, some ⟨g, 0, none⟩, 2, 2, [⟨1, 2⟩, ⟨2, 1⟩]⟩
def exA (g : Nat) : Od := ⟨1, 5, 3, 3, 200, 0, 0, 0, 1, some ⟨g, 0, none⟩, 2, 2, [⟨1, 2⟩, ⟨2, 1⟩]⟩
def exB (g : Nat) : Od := { exA g with rcv := 2 }
def exC (g : Nat) : Od := { exA g with rcv := 2, bil := 2, paid := 450 }
def exD (g : Nat) : Od := { exA g with rcv := 2, bil := 2, paid := 450, st := 3 }
def s0 : Pa := ⟨2026, [], [], [], [], 1⟩
def s1 : Pa := ⟨2026, [f1], [], [], [], 1⟩
def s2 : Pa := ⟨2026, [f1, f2], [], [], [], 1⟩
def s3 (g : Nat) : Pa := ⟨2026, [{ f1 with enc := 400 }, { f2 with enc := 200 }], [exA g], [], [], 2⟩
def s4 (g : Nat) : Pa := ⟨2026, [{ f1 with enc := 400 }, { f2 with enc := 200 }], [exB g], [], [], 2⟩
def bl1 : Bl := ⟨3, 77, 1, 2, 450⟩
def bl2 : Bl := ⟨3, 78, 1, 1, 450⟩
def s5 (g : Nat) : Pa := ⟨2026, [{ f1 with enc := 133, spent := 300 }, { f2 with enc := 67, spent := 150 }], [exC g], [bl1], [], 2⟩
def s6 (g : Nat) : Pa := ⟨2026, [{ f1 with spent := 300 }, { f2 with spent := 150 }], [exD g], [bl1], [], 2⟩
def s7 (g : Nat) : Pa := ⟨2027, [{ f1 with budget := 0 }, { f2 with budget := 0 }], [exD g], [bl1], [], 2⟩

theorem al1 : addFA s0 f1 = (0, s1) := by kernel_rfl
theorem al2 : addFA s1 f2 = (0, s2) := by kernel_rfl
theorem al3 (g : Nat) : ordA s2 (exI g) = (0, s3 g) := by kernel_rfl
theorem al4 (g : Nat) : rcvA (s3 g) 1 2 = (0, s4 g) := by kernel_rfl
theorem al5 (g : Nat) : bilA (s4 g) bl1 = (0, s5 g) := by kernel_rfl
theorem al6 (g : Nat) : bilA (s5 g) bl1 = (7, pa0) := by kernel_rfl
theorem al7 (g : Nat) : bilA (s5 g) bl2 = (12, pa0) := by kernel_rfl
theorem al8 (g : Nat) : stpA (s5 g) 1 = (0, s6 g) := by kernel_rfl
theorem al9 (g : Nat) : clsA (s6 g) = (0, s7 g) := by kernel_rfl
theorem al10 (g : Nat) : rsvA (s6 g).o 1 = 0 := by kernel_rfl
theorem al11 (g : Nat) : okA (s7 g) = true := by kernel_rfl
end Go.Proofs.YtbhndfphegflhaaGreat

/- Walks: Out of the reference. Printed by gen_lo_n.py. -/
namespace Go.Proofs.YtbhndfphegflhaaGreat
open Go.RowKit

set_option maxRecDepth 100000 in
set_option maxHeartbeats 2000000 in
theorem radd_any (A : Option Addr) (n c : Nat) (xs : List Fu) (y : Fu) (w : World) (hs : Fs w w.heap.size A n c xs) (hn : n ≤ 1000) :
    Calls Tryz.prog 90 #[.slice A n c, fuV y] w (FResF w (adnF xs y)) := by
  obtain ⟨i0, hi0, hz0, hz1, hz2⟩ := info_parts fu_info
  obtain rfl := hs.len
  have hle := hs.le
  have hbig := hs.big
  have hnl := hs.nl
  have hsl : ∀ W, Below w.heap.size w W → Fs W w.heap.size A xs.length c xs := fun W hW => hs.below hW
  have HSL := hide hsl
  have HI := hide (And.intro hi0 (And.intro hz0 (And.intro hz1 hz2)))
  have HX := hide (Box.new w 57 (fuC y))
  have B0 := hide ((Below.refl w.heap.size w).alloc (Nat.le_refl _) (.cells (fuC y) 57))
  have C0 := hide (Below.refl (w.heap.size + 1) (w.alloc (.cells (fuC y) 57)))
  obtain ⟨y', hy'⟩ : ∃ y', y' = y := ⟨_, rfl⟩
  have HY' := hide hy'
  · have e1 : adnF xs y = cho (rightR (xs.take (plcF xs y') ++ y' :: xs.drop (plcF xs y'))) (xs.take (plcF xs y') ++ y' :: xs.drop (plcF xs y')) := by rw [hy']; rfl
    rw [e1]
    have hplc : ∀ k, (∀ z ∈ xs.take k, decide (y.id < z.id) = false) → (k = xs.length ∨ ∃ x, xs[k]? = some x ∧ ¬ x.id ≤ y.id) → plcF xs y' = k := by
      intro k h5 h6
      rw [hy']
      rcases h6 with rfl | ⟨x, hx, hlt⟩
      · exact plcF_none (by rwa [List.take_length] at h5)
      · exact plcF_some hx (by simp; omega) h5
    have HPLC := hide hplc
    clear e1 hs hsl hi0 hz0 hz1 hz2 hplc hy'
    obtain ⟨y0, y1, y2, y3, y4⟩ := y
    unfold fuV
    go_enter Tryz.func90, Tryz.ntmps90
    go_wp2
    go_loopw [6] (fun s6 wr => ∃ k : Nat, k ≤ xs.length ∧ s6 = .int .i64 k ∧ Below w.heap.size w wr ∧ Below (w.heap.size + 1) (w.alloc (.cells (fuC ⟨y0, y1, y2, y3, y4⟩) 57)) wr ∧ ∀ z ∈ xs.take k, decide (y0 < z.id) = false) (fun s6 _ => xs.length - (intOf s6).toNat)
    case atStart => exact ⟨0, Nat.zero_le _, rfl, B0.out, C0.out, by simp⟩
    case round =>
      obtain ⟨k, hk, rfl, hb, hc, ha⟩ := hrel
      have BW := hide hb
      have CW := hide hc
      have HA := hide ha
      obtain ⟨_, q0, _⟩ := fu_box HX.out hc
      simp only at q0
      clear hb hc ha B0 C0
      by_cases hlt : k < xs.length
      · obtain ⟨b, off, x, rfl, hbB, hx, c0, c1, c2, c3, c4⟩ := Fs_at (HSL.out _ BW.out) hlt
        have HXX := hide hx
        have hkk : (k : Int) < (xs.length : Int) := by omega
        clear c1 c2 c3 c4 hx
        by_cases hxy : x.id ≤ y0
        · have hd : decide (x.id ≤ y0) = true := by simpa using hxy
          go_wp2
          go_quiet (fail)
          go_wp2
          go_roundw
          case rel =>
            refine ⟨k + 1, by omega, by go_num, below_drewN BW.out _, below_drewN CW.out _, ?_⟩
            intro z hz
            rw [take_stepF HXX.out] at hz
            rcases List.mem_append.1 hz with hz | hz
            · exact HA.out z hz
            · simp at hz; subst hz; simp; omega
          case measure => simp [intOf]; omega
        · have hd : decide (x.id ≤ y0) = false := by simpa using hxy
          have hpl := HPLC.out k HA.out (.inr ⟨x, HXX.out, by omega⟩)
          have hkc : ¬ (c = k) := by omega
          have hb5 : k ≤ c := by omega
          have hb7 : (k : Int) ≤ (c : Int) := by omega
          have hb8 : (k : Int) ≤ (xs.length : Int) := by omega
          go_wp2
          go_quiet (fail)
          obtain ⟨wr', hwr⟩ : ∃ wr', wr' = wr.drewN nq := ⟨_, rfl⟩
          have BL := hide (below_drewN BW.out nq)
          have CL := hide (below_drewN CW.out nq)
          rw [← hwr] at BL CL ⊢
          clear hwr BW CW q0 c0
          have hz := BL.out.size
          have hz1 := CL.out.size
          simp only [World.size_alloc] at hz1
          have HPL := hide hpl
          have HTK := hide ((HSL.out _ BL.out).take (m := k) (by omega))
          have BLe := hide (BL.out.alloc hz (.cells #[] 57))
          have CLe := hide (CL.out.alloc hz1 (.cells #[] 57))
          have HTKe := hide (HTK.out.alloc hz (.cells #[] 57))
          have HMD := hide (World.ownsRow_made (base := w.heap.size) (e := 57) (size := 5) wr' #[] 0 hz (Nat.zero_le _) rfl)
          clear hpl
          go_wp2_with (at_builtin; go_must (refine wpList_append_sl _ rfl _ _ 22 rfl w.heap.size 57 i0 _ 40 Tryz.underlying22 HI.out.1 HI.out.2.1 HI.out.2.2.1 HI.out.2.2.2 rfl (by decide) fuE_len fuE_one _ 0 [] rfl HMD.out _ _ _ rfl HTKe.out (by unfold maxLen; omega) (by omega) (by first | omega | (simp; omega)) ?_))
          intro v1 w1 hown hg hat
          have B1 := hide (BLe.out.grown hg (by simp; omega) (by intro q hq; simp [Value.ownBlock] at hq; omega))
          have C1 := hide (CLe.out.grown hg (by simp; omega) (by intro q hq; simp [Value.ownBlock] at hq; omega))
          have hz2 := B1.out.size
          have hz3 := C1.out.size
          simp only [World.size_alloc] at hz3
          have HO1 := hide hown
          obtain ⟨_, r0, r1, r2, r3, r4⟩ := fu_box HX.out C1.out
          simp only at r0 r1 r2 r3 r4
          have HOa := hide (HO1.out.alloc (.cells (fuC ⟨y0, y1, y2, y3, y4⟩) 57))
          have HSa := hide (fu_sl1 (Box.new w1 57 (fuC ⟨y0, y1, y2, y3, y4⟩)))
          have B1a := hide (B1.out.alloc hz2 (.cells (fuC ⟨y0, y1, y2, y3, y4⟩) 57))
          clear hown hg hat HMD HTK HTKe BLe CLe
          go_wp2_with (at_builtin; go_must (refine wpList_append_sl _ rfl _ _ 22 rfl w.heap.size 57 i0 _ 40 Tryz.underlying22 HI.out.1 HI.out.2.1 HI.out.2.2.1 HI.out.2.2.2 rfl (by decide) fuE_len fuE_one _ _ _ rfl HOa.out _ 1 1 rfl HSa.out (by unfold maxLen; omega) (by omega) (by first | omega | (simp; omega)) ?_))
          intro v2 w2 hown hg hat
          have B2 := hide (B1a.out.grown hg (by simp; omega) (by intro q hq; exact (HO1.out.lt q hq).1))
          have hz4 := B2.out.size
          have HO2 := hide hown
          clear hown hg hat r0 r1 r2 r3 r4 HOa HSa B1a
          have HD := hide (((HSL.out _ B2.out).drop (i := k) (by omega) (by omega)).2 hkc)
          go_wp2_with (at_builtin; go_must (refine wpList_append_sl _ rfl _ _ 22 rfl w.heap.size 57 i0 _ 40 Tryz.underlying22 HI.out.1 HI.out.2.1 HI.out.2.2.1 HI.out.2.2.2 rfl (by decide) fuE_len fuE_one _ _ _ rfl HO2.out _ _ _ rfl HD.out (by unfold maxLen; omega) (by omega) (by first | omega | (simp; omega)) ?_))
          intro v3 w3 hown hg hat
          have B3 := hide (B2.out.grown hg hz4 (by intro q hq; exact (HO2.out.lt q hq).1))
          have hl : (xs.take k ++ y' :: xs.drop k).length = k + 1 + (xs.length - k) := by simp <;> omega
          have ho : Fo w3 w.heap.size v3 (xs.take k ++ y' :: xs.drop k) := by
            unfold Fo; rw [hl]
            have := hown
            simpa [List.flatMap_append, List.flatMap_cons, List.append_assoc, HY'.out] using this
          obtain ⟨A1, q1, hv, hsl⟩ := Fo_sl ho (by rw [hl]; omega)
          subst hv
          have hc := rright_any _ _ _ _ _ hsl
          generalize hys : xs.take k ++ y' :: xs.drop k = ys at hc hl hsl
          generalize her : rightR ys = er at hc
          have HC := hide hc
          have HYS := hide hys
          have HER := hide her
          have HS3 := hide hsl
          generalize ys.length = m at HC HS3
          clear hown hg hat ho hsl hl hys her hc
          by_cases he : er = 0
          · subst he
            go_wp2_with fail
            refine HC.out.mono ?_
            rintro e w4 ⟨rfl, hb⟩
            go_wp2
            go_ret2
            rw [HPL.out, HYS.out, HER.out, cho_ok]
            exact ⟨_, _, _, rfl, (HS3.out.below hb).more hb.size, B3.out.trans (hb.mono B3.out.size)⟩
          · have heb : (er != 0) = true := by simpa using he
            have HE := hide he
            clear he
            go_wp2_with fail
            refine HC.out.mono ?_
            rintro e w4 ⟨rfl, hb⟩
            go_wp2
            go_ret2
            rw [HPL.out, HYS.out, HER.out, cho_err HE.out]
            exact ⟨none, 0, 0, rfl, Sl.none_, B3.out.trans (hb.mono B3.out.size)⟩
      · skip
        obtain rfl : k = xs.length := by omega
        have hpl := HPLC.out xs.length HA.out (.inl rfl)
        go_wp2
        go_quiet (fail)
        obtain ⟨wr', hwr⟩ : ∃ wr', wr' = wr.drewN nq := ⟨_, rfl⟩
        have BL := hide (below_drewN BW.out nq)
        have CL := hide (below_drewN CW.out nq)
        rw [← hwr] at BL CL ⊢
        clear hwr BW CW q0
        have hz := BL.out.size
        have hz1 := CL.out.size
        simp only [World.size_alloc] at hz1
        by_cases hx0 : 0 < xs.length
        · obtain ⟨b, off, _, rfl, _, _, _⟩ := (HSL.out _ BL.out).at_ hx0
          have hb7 : (xs.length : Int) ≤ (c : Int) := by omega
          by_cases hkc : c = xs.length
          · subst hkc
            have HPL := hide hpl
            have HTK := hide ((HSL.out _ BL.out).take (m := xs.length) (by omega))
            have BLe := hide (BL.out.alloc hz (.cells #[] 57))
            have CLe := hide (CL.out.alloc hz1 (.cells #[] 57))
            have HTKe := hide (HTK.out.alloc hz (.cells #[] 57))
            have HMD := hide (World.ownsRow_made (base := w.heap.size) (e := 57) (size := 5) wr' #[] 0 hz (Nat.zero_le _) rfl)
            clear hpl
            go_wp2_with (at_builtin; go_must (refine wpList_append_sl _ rfl _ _ 22 rfl w.heap.size 57 i0 _ 40 Tryz.underlying22 HI.out.1 HI.out.2.1 HI.out.2.2.1 HI.out.2.2.2 rfl (by decide) fuE_len fuE_one _ 0 [] rfl HMD.out _ _ _ rfl HTKe.out (by unfold maxLen; omega) (by omega) (by first | omega | (simp; omega)) ?_))
            intro v1 w1 hown hg hat
            have B1 := hide (BLe.out.grown hg (by simp; omega) (by intro q hq; simp [Value.ownBlock] at hq; omega))
            have C1 := hide (CLe.out.grown hg (by simp; omega) (by intro q hq; simp [Value.ownBlock] at hq; omega))
            have hz2 := B1.out.size
            have hz3 := C1.out.size
            simp only [World.size_alloc] at hz3
            have HO1 := hide hown
            obtain ⟨_, r0, r1, r2, r3, r4⟩ := fu_box HX.out C1.out
            simp only at r0 r1 r2 r3 r4
            have HOa := hide (HO1.out.alloc (.cells (fuC ⟨y0, y1, y2, y3, y4⟩) 57))
            have HSa := hide (fu_sl1 (Box.new w1 57 (fuC ⟨y0, y1, y2, y3, y4⟩)))
            have B1a := hide (B1.out.alloc hz2 (.cells (fuC ⟨y0, y1, y2, y3, y4⟩) 57))
            clear hown hg hat HMD HTK HTKe BLe CLe
            go_wp2_with (at_builtin; go_must (refine wpList_append_sl _ rfl _ _ 22 rfl w.heap.size 57 i0 _ 40 Tryz.underlying22 HI.out.1 HI.out.2.1 HI.out.2.2.1 HI.out.2.2.2 rfl (by decide) fuE_len fuE_one _ _ _ rfl HOa.out _ 1 1 rfl HSa.out (by unfold maxLen; omega) (by omega) (by first | omega | (simp; omega)) ?_))
            intro v2 w2 hown hg hat
            have B2 := hide (B1a.out.grown hg (by simp; omega) (by intro q hq; exact (HO1.out.lt q hq).1))
            have hz4 := B2.out.size
            have HO2 := hide hown
            clear hown hg hat r0 r1 r2 r3 r4 HOa HSa B1a
            go_wp2_with (at_builtin; go_must (refine wpList_append_sl _ rfl _ _ 22 rfl w.heap.size 57 i0 _ 40 Tryz.underlying22 HI.out.1 HI.out.2.1 HI.out.2.2.1 HI.out.2.2.2 rfl (by decide) fuE_len fuE_one _ _ _ rfl HO2.out _ _ _ rfl (Sl.empty _ w.heap.size _ _ (by first | (intro e; cases e; done) | (intro _; rfl))) (by unfold maxLen; omega) (by omega) (by first | omega | (simp; omega)) ?_))
            intro v3 w3 hown hg hat
            have B3 := hide (B2.out.grown hg hz4 (by intro q hq; exact (HO2.out.lt q hq).1))
            have hl : (xs.take xs.length ++ y' :: xs.drop xs.length).length = xs.length + 1 + (xs.length - xs.length) := by simp <;> omega
            have ho : Fo w3 w.heap.size v3 (xs.take xs.length ++ y' :: xs.drop xs.length) := by
              unfold Fo; rw [hl]
              have := hown
              simpa [List.flatMap_append, List.flatMap_cons, List.append_assoc, HY'.out] using this
            obtain ⟨A1, q1, hv, hsl⟩ := Fo_sl ho (by rw [hl]; omega)
            subst hv
            have hc := rright_any _ _ _ _ _ hsl
            generalize hys : xs.take xs.length ++ y' :: xs.drop xs.length = ys at hc hl hsl
            generalize her : rightR ys = er at hc
            have HC := hide hc
            have HYS := hide hys
            have HER := hide her
            have HS3 := hide hsl
            generalize ys.length = m at HC HS3
            clear hown hg hat ho hsl hl hys her hc
            by_cases he : er = 0
            · subst he
              go_wp2_with fail
              refine HC.out.mono ?_
              rintro e w4 ⟨rfl, hb⟩
              go_wp2
              go_ret2
              rw [HPL.out, HYS.out, HER.out, cho_ok]
              exact ⟨_, _, _, rfl, (HS3.out.below hb).more hb.size, B3.out.trans (hb.mono B3.out.size)⟩
            · have heb : (er != 0) = true := by simpa using he
              have HE := hide he
              clear he
              go_wp2_with fail
              refine HC.out.mono ?_
              rintro e w4 ⟨rfl, hb⟩
              go_wp2
              go_ret2
              rw [HPL.out, HYS.out, HER.out, cho_err HE.out]
              exact ⟨none, 0, 0, rfl, Sl.none_, B3.out.trans (hb.mono B3.out.size)⟩
          · skip
            have HPL := hide hpl
            have HTK := hide ((HSL.out _ BL.out).take (m := xs.length) (by omega))
            have BLe := hide (BL.out.alloc hz (.cells #[] 57))
            have CLe := hide (CL.out.alloc hz1 (.cells #[] 57))
            have HTKe := hide (HTK.out.alloc hz (.cells #[] 57))
            have HMD := hide (World.ownsRow_made (base := w.heap.size) (e := 57) (size := 5) wr' #[] 0 hz (Nat.zero_le _) rfl)
            clear hpl
            go_wp2_with (at_builtin; go_must (refine wpList_append_sl _ rfl _ _ 22 rfl w.heap.size 57 i0 _ 40 Tryz.underlying22 HI.out.1 HI.out.2.1 HI.out.2.2.1 HI.out.2.2.2 rfl (by decide) fuE_len fuE_one _ 0 [] rfl HMD.out _ _ _ rfl HTKe.out (by unfold maxLen; omega) (by omega) (by first | omega | (simp; omega)) ?_))
            intro v1 w1 hown hg hat
            have B1 := hide (BLe.out.grown hg (by simp; omega) (by intro q hq; simp [Value.ownBlock] at hq; omega))
            have C1 := hide (CLe.out.grown hg (by simp; omega) (by intro q hq; simp [Value.ownBlock] at hq; omega))
            have hz2 := B1.out.size
            have hz3 := C1.out.size
            simp only [World.size_alloc] at hz3
            have HO1 := hide hown
            obtain ⟨_, r0, r1, r2, r3, r4⟩ := fu_box HX.out C1.out
            simp only at r0 r1 r2 r3 r4
            have HOa := hide (HO1.out.alloc (.cells (fuC ⟨y0, y1, y2, y3, y4⟩) 57))
            have HSa := hide (fu_sl1 (Box.new w1 57 (fuC ⟨y0, y1, y2, y3, y4⟩)))
            have B1a := hide (B1.out.alloc hz2 (.cells (fuC ⟨y0, y1, y2, y3, y4⟩) 57))
            clear hown hg hat HMD HTK HTKe BLe CLe
            go_wp2_with (at_builtin; go_must (refine wpList_append_sl _ rfl _ _ 22 rfl w.heap.size 57 i0 _ 40 Tryz.underlying22 HI.out.1 HI.out.2.1 HI.out.2.2.1 HI.out.2.2.2 rfl (by decide) fuE_len fuE_one _ _ _ rfl HOa.out _ 1 1 rfl HSa.out (by unfold maxLen; omega) (by omega) (by first | omega | (simp; omega)) ?_))
            intro v2 w2 hown hg hat
            have B2 := hide (B1a.out.grown hg (by simp; omega) (by intro q hq; exact (HO1.out.lt q hq).1))
            have hz4 := B2.out.size
            have HO2 := hide hown
            clear hown hg hat r0 r1 r2 r3 r4 HOa HSa B1a
            go_wp2_with (at_builtin; go_must (refine wpList_append_sl _ rfl _ _ 22 rfl w.heap.size 57 i0 _ 40 Tryz.underlying22 HI.out.1 HI.out.2.1 HI.out.2.2.1 HI.out.2.2.2 rfl (by decide) fuE_len fuE_one _ _ _ rfl HO2.out _ _ _ rfl (Sl.empty _ w.heap.size _ _ (by first | (intro e; cases e; done) | (intro _; rfl))) (by unfold maxLen; omega) (by omega) (by first | omega | (simp; omega)) ?_))
            intro v3 w3 hown hg hat
            have B3 := hide (B2.out.grown hg hz4 (by intro q hq; exact (HO2.out.lt q hq).1))
            have hl : (xs.take xs.length ++ y' :: xs.drop xs.length).length = xs.length + 1 + (xs.length - xs.length) := by simp <;> omega
            have ho : Fo w3 w.heap.size v3 (xs.take xs.length ++ y' :: xs.drop xs.length) := by
              unfold Fo; rw [hl]
              have := hown
              simpa [List.flatMap_append, List.flatMap_cons, List.append_assoc, HY'.out] using this
            obtain ⟨A1, q1, hv, hsl⟩ := Fo_sl ho (by rw [hl]; omega)
            subst hv
            have hc := rright_any _ _ _ _ _ hsl
            generalize hys : xs.take xs.length ++ y' :: xs.drop xs.length = ys at hc hl hsl
            generalize her : rightR ys = er at hc
            have HC := hide hc
            have HYS := hide hys
            have HER := hide her
            have HS3 := hide hsl
            generalize ys.length = m at HC HS3
            clear hown hg hat ho hsl hl hys her hc
            by_cases he : er = 0
            · subst he
              go_wp2_with fail
              refine HC.out.mono ?_
              rintro e w4 ⟨rfl, hb⟩
              go_wp2
              go_ret2
              rw [HPL.out, HYS.out, HER.out, cho_ok]
              exact ⟨_, _, _, rfl, (HS3.out.below hb).more hb.size, B3.out.trans (hb.mono B3.out.size)⟩
            · have heb : (er != 0) = true := by simpa using he
              have HE := hide he
              clear he
              go_wp2_with fail
              refine HC.out.mono ?_
              rintro e w4 ⟨rfl, hb⟩
              go_wp2
              go_ret2
              rw [HPL.out, HYS.out, HER.out, cho_err HE.out]
              exact ⟨none, 0, 0, rfl, Sl.none_, B3.out.trans (hb.mono B3.out.size)⟩
        · obtain rfl : xs = [] := List.eq_nil_of_length_eq_zero (by omega)
          have hpl : plcF ([] : List Fu) y' = 0 := hpl
          cases A with
          | none =>
            obtain rfl := hnl rfl
            have HPL := hide hpl
            have HTK := hide ((HSL.out _ BL.out).take (m := 0) (by omega))
            have BLe := hide (BL.out.alloc hz (.cells #[] 57))
            have CLe := hide (CL.out.alloc hz1 (.cells #[] 57))
            have HTKe := hide (HTK.out.alloc hz (.cells #[] 57))
            have HMD := hide (World.ownsRow_made (base := w.heap.size) (e := 57) (size := 5) wr' #[] 0 hz (Nat.zero_le _) rfl)
            clear hpl
            go_wp2_with (at_builtin; go_must (refine wpList_append_sl _ rfl _ _ 22 rfl w.heap.size 57 i0 _ 40 Tryz.underlying22 HI.out.1 HI.out.2.1 HI.out.2.2.1 HI.out.2.2.2 rfl (by decide) fuE_len fuE_one _ 0 [] rfl HMD.out _ _ _ rfl HTKe.out (by unfold maxLen; omega) (by omega) (by first | omega | (simp; omega)) ?_))
            intro v1 w1 hown hg hat
            have B1 := hide (BLe.out.grown hg (by simp; omega) (by intro q hq; simp [Value.ownBlock] at hq; omega))
            have C1 := hide (CLe.out.grown hg (by simp; omega) (by intro q hq; simp [Value.ownBlock] at hq; omega))
            have hz2 := B1.out.size
            have hz3 := C1.out.size
            simp only [World.size_alloc] at hz3
            have HO1 := hide hown
            obtain ⟨_, r0, r1, r2, r3, r4⟩ := fu_box HX.out C1.out
            simp only at r0 r1 r2 r3 r4
            have HOa := hide (HO1.out.alloc (.cells (fuC ⟨y0, y1, y2, y3, y4⟩) 57))
            have HSa := hide (fu_sl1 (Box.new w1 57 (fuC ⟨y0, y1, y2, y3, y4⟩)))
            have B1a := hide (B1.out.alloc hz2 (.cells (fuC ⟨y0, y1, y2, y3, y4⟩) 57))
            clear hown hg hat HMD HTK HTKe BLe CLe
            go_wp2_with (at_builtin; go_must (refine wpList_append_sl _ rfl _ _ 22 rfl w.heap.size 57 i0 _ 40 Tryz.underlying22 HI.out.1 HI.out.2.1 HI.out.2.2.1 HI.out.2.2.2 rfl (by decide) fuE_len fuE_one _ _ _ rfl HOa.out _ 1 1 rfl HSa.out (by unfold maxLen; omega) (by omega) (by first | omega | (simp; omega)) ?_))
            intro v2 w2 hown hg hat
            have B2 := hide (B1a.out.grown hg (by simp; omega) (by intro q hq; exact (HO1.out.lt q hq).1))
            have hz4 := B2.out.size
            have HO2 := hide hown
            clear hown hg hat r0 r1 r2 r3 r4 HOa HSa B1a
            go_wp2_with (at_builtin; go_must (refine wpList_append_sl _ rfl _ _ 22 rfl w.heap.size 57 i0 _ 40 Tryz.underlying22 HI.out.1 HI.out.2.1 HI.out.2.2.1 HI.out.2.2.2 rfl (by decide) fuE_len fuE_one _ _ _ rfl HO2.out _ _ _ rfl (Sl.empty _ w.heap.size _ _ (by first | (intro e; cases e; done) | (intro _; rfl))) (by unfold maxLen; omega) (by omega) (by first | omega | (simp; omega)) ?_))
            intro v3 w3 hown hg hat
            have B3 := hide (B2.out.grown hg hz4 (by intro q hq; exact (HO2.out.lt q hq).1))
            have hl : (([] : List Fu).take 0 ++ y' :: ([] : List Fu).drop 0).length = 0 + 1 + (0 - 0) := by simp <;> omega
            have ho : Fo w3 w.heap.size v3 (([] : List Fu).take 0 ++ y' :: ([] : List Fu).drop 0) := by
              unfold Fo; rw [hl]
              have := hown
              simpa [List.flatMap_append, List.flatMap_cons, List.append_assoc, HY'.out] using this
            obtain ⟨A1, q1, hv, hsl⟩ := Fo_sl ho (by rw [hl]; omega)
            subst hv
            have hc := rright_any _ _ _ _ _ hsl
            generalize hys : ([] : List Fu).take 0 ++ y' :: ([] : List Fu).drop 0 = ys at hc hl hsl
            generalize her : rightR ys = er at hc
            have HC := hide hc
            have HYS := hide hys
            have HER := hide her
            have HS3 := hide hsl
            generalize ys.length = m at HC HS3
            clear hown hg hat ho hsl hl hys her hc
            by_cases he : er = 0
            · subst he
              go_wp2_with fail
              refine HC.out.mono ?_
              rintro e w4 ⟨rfl, hb⟩
              go_wp2
              go_ret2
              rw [HPL.out, HYS.out, HER.out, cho_ok]
              exact ⟨_, _, _, rfl, (HS3.out.below hb).more hb.size, B3.out.trans (hb.mono B3.out.size)⟩
            · have heb : (er != 0) = true := by simpa using he
              have HE := hide he
              clear he
              go_wp2_with fail
              refine HC.out.mono ?_
              rintro e w4 ⟨rfl, hb⟩
              go_wp2
              go_ret2
              rw [HPL.out, HYS.out, HER.out, cho_err HE.out]
              exact ⟨none, 0, 0, rfl, Sl.none_, B3.out.trans (hb.mono B3.out.size)⟩
          | some ad =>
            have HPL := hide hpl
            have HTK := hide ((HSL.out _ BL.out).take (m := 0) (by omega))
            have BLe := hide (BL.out.alloc hz (.cells #[] 57))
            have CLe := hide (CL.out.alloc hz1 (.cells #[] 57))
            have HTKe := hide (HTK.out.alloc hz (.cells #[] 57))
            have HMD := hide (World.ownsRow_made (base := w.heap.size) (e := 57) (size := 5) wr' #[] 0 hz (Nat.zero_le _) rfl)
            clear hpl
            go_wp2_with (at_builtin; go_must (refine wpList_append_sl _ rfl _ _ 22 rfl w.heap.size 57 i0 _ 40 Tryz.underlying22 HI.out.1 HI.out.2.1 HI.out.2.2.1 HI.out.2.2.2 rfl (by decide) fuE_len fuE_one _ 0 [] rfl HMD.out _ _ _ rfl HTKe.out (by unfold maxLen; omega) (by omega) (by first | omega | (simp; omega)) ?_))
            intro v1 w1 hown hg hat
            have B1 := hide (BLe.out.grown hg (by simp; omega) (by intro q hq; simp [Value.ownBlock] at hq; omega))
            have C1 := hide (CLe.out.grown hg (by simp; omega) (by intro q hq; simp [Value.ownBlock] at hq; omega))
            have hz2 := B1.out.size
            have hz3 := C1.out.size
            simp only [World.size_alloc] at hz3
            have HO1 := hide hown
            obtain ⟨_, r0, r1, r2, r3, r4⟩ := fu_box HX.out C1.out
            simp only at r0 r1 r2 r3 r4
            have HOa := hide (HO1.out.alloc (.cells (fuC ⟨y0, y1, y2, y3, y4⟩) 57))
            have HSa := hide (fu_sl1 (Box.new w1 57 (fuC ⟨y0, y1, y2, y3, y4⟩)))
            have B1a := hide (B1.out.alloc hz2 (.cells (fuC ⟨y0, y1, y2, y3, y4⟩) 57))
            clear hown hg hat HMD HTK HTKe BLe CLe
            go_wp2_with (at_builtin; go_must (refine wpList_append_sl _ rfl _ _ 22 rfl w.heap.size 57 i0 _ 40 Tryz.underlying22 HI.out.1 HI.out.2.1 HI.out.2.2.1 HI.out.2.2.2 rfl (by decide) fuE_len fuE_one _ _ _ rfl HOa.out _ 1 1 rfl HSa.out (by unfold maxLen; omega) (by omega) (by first | omega | (simp; omega)) ?_))
            intro v2 w2 hown hg hat
            have B2 := hide (B1a.out.grown hg (by simp; omega) (by intro q hq; exact (HO1.out.lt q hq).1))
            have hz4 := B2.out.size
            have HO2 := hide hown
            clear hown hg hat r0 r1 r2 r3 r4 HOa HSa B1a
            go_wp2_with (at_builtin; go_must (refine wpList_append_sl _ rfl _ _ 22 rfl w.heap.size 57 i0 _ 40 Tryz.underlying22 HI.out.1 HI.out.2.1 HI.out.2.2.1 HI.out.2.2.2 rfl (by decide) fuE_len fuE_one _ _ _ rfl HO2.out _ _ _ rfl (Sl.empty _ w.heap.size _ _ (by first | (intro e; cases e; done) | (intro _; rfl))) (by unfold maxLen; omega) (by omega) (by first | omega | (simp; omega)) ?_))
            intro v3 w3 hown hg hat
            have B3 := hide (B2.out.grown hg hz4 (by intro q hq; exact (HO2.out.lt q hq).1))
            have hl : (([] : List Fu).take 0 ++ y' :: ([] : List Fu).drop 0).length = 0 + 1 + (0 - 0) := by simp <;> omega
            have ho : Fo w3 w.heap.size v3 (([] : List Fu).take 0 ++ y' :: ([] : List Fu).drop 0) := by
              unfold Fo; rw [hl]
              have := hown
              simpa [List.flatMap_append, List.flatMap_cons, List.append_assoc, HY'.out] using this
            obtain ⟨A1, q1, hv, hsl⟩ := Fo_sl ho (by rw [hl]; omega)
            subst hv
            have hc := rright_any _ _ _ _ _ hsl
            generalize hys : ([] : List Fu).take 0 ++ y' :: ([] : List Fu).drop 0 = ys at hc hl hsl
            generalize her : rightR ys = er at hc
            have HC := hide hc
            have HYS := hide hys
            have HER := hide her
            have HS3 := hide hsl
            generalize ys.length = m at HC HS3
            clear hown hg hat ho hsl hl hys her hc
            by_cases he : er = 0
            · subst he
              go_wp2_with fail
              refine HC.out.mono ?_
              rintro e w4 ⟨rfl, hb⟩
              go_wp2
              go_ret2
              rw [HPL.out, HYS.out, HER.out, cho_ok]
              exact ⟨_, _, _, rfl, (HS3.out.below hb).more hb.size, B3.out.trans (hb.mono B3.out.size)⟩
            · have heb : (er != 0) = true := by simpa using he
              have HE := hide he
              clear he
              go_wp2_with fail
              refine HC.out.mono ?_
              rintro e w4 ⟨rfl, hb⟩
              go_wp2
              go_ret2
              rw [HPL.out, HYS.out, HER.out, cho_err HE.out]
              exact ⟨none, 0, 0, rfl, Sl.none_, B3.out.trans (hb.mono B3.out.size)⟩
end Go.Proofs.YtbhndfphegflhaaGreat
