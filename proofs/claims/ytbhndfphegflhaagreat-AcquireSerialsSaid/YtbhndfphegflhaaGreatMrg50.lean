/- Texts laid together: SeR, PtU, SeX. -/
import Derived.Test.YtbhndfphegflhaaGreatMrg34
import Derived.Test.YtbhndfphegflhaaGreatMrg27
import Derived.Test.YtbhndfphegflhaaGreatMrg29
import Derived.Test.YtbhndfphegflhaaGreatMrg7
import Derived.Test.YtbhndfphegflhaaGreatMrg49
set_option linter.unusedSimpArgs false
set_option linter.unusedVariables false
/- Plain part of AcquireSerials: what New, Expect and Receive make of a subscription, and of a list of them. No program. -/
namespace Go.Proofs.YtbhndfphegflhaaGreat
open Go.RowKit

theorem SeQ.of2 {c x y : Se} (h1 : SeQ c x) (h2 : SeQ c y) : SeQ x y := by
  obtain ⟨A1, c1, A2, c2, A3, c3, rfl⟩ := h1
  obtain ⟨B1, d1, B2, d2, B3, d3, rfl⟩ := h2
  exact ⟨B1, d1, B2, d2, B3, d3, rfl⟩

/-! ### New -/
def newE (r : Int) (p : Pt) : Int := if winB r 1 9999 = false then 2 else ptErr p
def newS (r : Int) (p : Pt) : Se := if newE r p = 0 then ⟨r, p.start, p.every, p.pv, p.fv, p.skA, p.skn, p.skc, p.sk, p.dbA, p.dbn, p.dbc, p.db, 0, none, 0, 0, []⟩ else se0
theorem se0_S (w : World) (B : Nat) : SeS w B se0 := ⟨⟨Sl.none_, Sl.none_⟩, Sl.none_⟩
theorem newS_S {w : World} {B : Nat} {r : Int} {p : Pt} (h : PtS w B p) : SeS w B (newS r p) := by
  unfold newS
  split
  · exact ⟨⟨h.1, h.2⟩, Sl.none_⟩
  · exact se0_S w B
theorem newS_rcd {r : Int} {p : Pt} (h : newE r p = 0) : (newS r p).rcd = r := by unfold newS; rw [if_pos h]

/-! ### Expect -/
theorem isX_day (p : Pt) (s : Ps) : (isuX p s).day = s.d := rfl
theorem isL_min (p : Pt) (u : Int) : ∀ (n : Nat) (s : Ps), isL p (min u 109572) n s = (isL p 109572 n s).takeWhile (fun x => decide (x.day ≤ u))
  | 0, s => by simp [isL]
  | n + 1, s => by
    by_cases h : 0 ≤ s.d ∧ s.d ≤ 109572 ∧ s.vol ≤ 9999
    · rw [isL_step h]
      by_cases hu : s.d ≤ u
      · rw [isL_step ⟨h.1, by omega, h.2.2⟩, List.takeWhile_cons, isX_day, if_pos (decide_eq_true hu), isL_min p u n (psS p s)]
      · rw [isL_stop (by omega), List.takeWhile_cons, isX_day, if_neg (by simpa using hu)]
    · rw [isL_stop h, isL_stop (by omega)]
      rfl
/-- The issues up to a day. -/
def issU (p : Pt) (u : Int) : List Iu := isL p (min u 109572) 5000 (ps0 p)
theorem issU_pre (p : Pt) (u : Int) : issU p u <+: isL p 109572 5000 (ps0 p) := by
  unfold issU
  rw [isL_min]
  exact List.takeWhile_prefix _
theorem issU_col (p : Pt) (u : Int) (k : Nat) : colL k ((issU p u).length - k) (isL p 109572 5000 (ps0 p)) = (issU p u).drop k := by
  obtain ⟨t, ht⟩ := issU_pre p u
  rw [← ht]
  unfold colL
  by_cases hk : k ≤ (issU p u).length
  · rw [List.drop_append_of_le_length hk, List.take_append_of_le_length (by rw [List.length_drop]; omega), List.take_of_length_le (by rw [List.length_drop]; omega)]
  · rw [show (issU p u).length - k = 0 by omega, List.take_zero, List.drop_of_length_le (by omega)]
theorem issU_take (p : Pt) (u : Int) {m : Nat} (hm : m ≤ 5000) : isL p (min u 109572) m (ps0 p) = (issU p u).take m := isL_take p _ 5000 m _ hm
/-- A subscription with other issues. -/
def setS (s : Se) (ys : List Iu) : Se := { s with nx := (ys.length : Int), iuA := none, iun := ys.length, iuc := 0, iu := ys }
theorem setS_Q {s : Se} {ys : List Iu} (A : Option Addr) (c : Nat) {n : Nat} {m : Int} (hn : n = ys.length) (hm : m = (ys.length : Int)) : SeQ (setS s ys) { s with nx := m, iuA := A, iun := n, iuc := c, iu := ys } := by
  subst hn hm
  exact ⟨s.skA, s.skc, s.dbA, s.dbc, A, c, rfl⟩
def expI (s : Se) (u : Int) : List Iu := s.iu ++ (issU (sePt s) u).drop s.iu.length

/-! ### Receive -/
def numI (n : Int) (x : Iu) : Bool := (x.num == n) || (decide (x.num ≤ n) && decide (n ≤ x.last))
def fndI (v n : Int) (x : Iu) : Bool := (x.vol == v) && numI n x
def arrI (x : Iu) (t : Int) : Iu := ⟨x.vol, x.num, x.last, x.day, 2, t⟩
def rcvI (xs : List Iu) (v n t : Int) : Int × List Iu :=
  if ix (fndI v n) xs < 0 then (9, []) else
  if hasI (xs.getD (ix (fndI v n) xs).toNat iu0) = true then (12, []) else
  if winB t 1 9999 = false then (2, []) else
  if xs.any (fun y => y.itm == t) = true then (7, []) else
  (0, xs.set (ix (fndI v n) xs).toNat (arrI (xs.getD (ix (fndI v n) xs).toNat iu0) t))
theorem rcvI_none {xs : List Iu} {v n t : Int} (h : ix (fndI v n) xs = -1) : rcvI xs v n t = (9, []) := by
  unfold rcvI
  rw [h, if_pos (by decide)]
theorem rcvI_some {xs : List Iu} {v n t : Int} {i : Nat} {x : Iu} (h : ix (fndI v n) xs = (i : Int)) (hx : xs[i]? = some x) :
    rcvI xs v n t = if hasI x = true then (12, []) else if winB t 1 9999 = false then (2, []) else if xs.any (fun y => y.itm == t) = true then (7, []) else (0, xs.set i (arrI x t)) := by
  unfold rcvI
  rw [h, if_neg (by omega), Int.toNat_natCast, List.getD_eq_getElem?_getD, hx]
  rfl
/-- Receive: the error, and the subscription behind it. -/
def rcvS (s : Se) (v n t : Int) : Int × Se := if (rcvI s.iu v n t).1 = 0 then (0, setS s (rcvI s.iu v n t).2) else ((rcvI s.iu v n t).1, se0)

/-! ### lists of subscriptions -/
structure SesQ (xs ys : List Se) : Prop where
  l : xs.length = ys.length
  s : ∀ (i : Nat) (x y : Se), xs[i]? = some x → ys[i]? = some y → SeQ x y
theorem SesQ.nil : SesQ [] [] := ⟨rfl, by simp⟩
theorem SesQ.refl (xs : List Se) : SesQ xs xs := ⟨rfl, fun i x y h1 h2 => by rw [h1] at h2; cases h2; exact SeQ.refl _⟩
theorem SesQ.snoc {xs ys : List Se} (h : SesQ xs ys) {x y : Se} (hq : SeQ x y) : SesQ (xs ++ [x]) (ys ++ [y]) := by
  refine ⟨by rw [List.length_append, List.length_append, h.l]; rfl, fun i u v h1 h2 => ?_⟩
  by_cases hi : i < xs.length
  · rw [List.getElem?_append_left hi] at h1
    rw [List.getElem?_append_left (by have := h.l; omega)] at h2
    exact h.s i u v h1 h2
  · rw [List.getElem?_append_right (by omega)] at h1
    rw [List.getElem?_append_right (by have := h.l; omega), ← h.l] at h2
    have hz : i - xs.length = 0 := by
      have := (List.getElem?_eq_some_iff.1 h1).1
      simpa using this
    rw [hz] at h1 h2
    simp at h1 h2
    subst h1 h2
    exact hq
theorem SesQ.set {xs ys : List Se} (h : SesQ xs ys) {i : Nat} {x y : Se} (hq : SeQ x y) : SesQ (xs.set i x) (ys.set i y) := by
  refine ⟨by rw [List.length_set, List.length_set, h.l], fun j u v h1 h2 => ?_⟩
  rw [List.getElem?_set] at h1 h2
  have hl := h.l
  by_cases hij : i = j
  · subst hij
    rw [if_pos rfl] at h1 h2
    split at h1
    · rename_i hi
      rw [if_pos (by omega)] at h2
      cases h1; cases h2
      exact hq
    · cases h1
  · rw [if_neg hij] at h1 h2
    exact h.s j u v h1 h2
theorem SesQ.of2 {cs xs ys : List Se} (h1 : SesQ cs xs) (h2 : SesQ cs ys) : SesQ xs ys := by
  refine ⟨h1.l.symm.trans h2.l, fun i x y hx hy => ?_⟩
  have hi := (List.getElem?_eq_some_iff.1 hx).1
  have hc : cs[i]? = some (cs[i]'(by rw [h1.l]; exact hi)) := List.getElem?_eq_getElem _
  exact (h1.s i _ _ hc hx).of2 (h2.s i _ _ hc hy)
theorem AqQ.of3 {c x y : Aq} (h1 : AqQ c x) (h2 : AqQ c y) : AqQ x y :=
  ⟨h1.yr.symm.trans h2.yr, h1.f.symm.trans h2.f, h1.o.symm.trans h2.o, h1.b.symm.trans h2.b, h1.sl.symm.trans h2.sl,
   (SesQ.of2 (cs := c.s) ⟨h1.sl, h1.s⟩ ⟨h2.sl, h2.s⟩).s, h1.nx.symm.trans h2.nx⟩
def subE (xs : List Se) (r : Int) (p : Pt) : Int := if newE r p != 0 then newE r p else if xs.any (fun x => x.rcd == r) = true then 7 else if 16 ≤ xs.length then 13 else 0
/-- Expect of a list. -/
def expL (xs : List Se) (u : Int) : List Se := xs.map (fun s => setS s (expI s u))
/-- Arrive: the error, and the list behind it. -/
def arrL (xs : List Se) (r v n t : Int) : Int × List Se :=
  if ix (fun s => s.rcd == r) xs < 0 then (9, []) else
  if (rcvS (xs.getD (ix (fun s => s.rcd == r) xs).toNat se0) v n t).1 = 0 then (0, xs.set (ix (fun s => s.rcd == r) xs).toNat (rcvS (xs.getD (ix (fun s => s.rcd == r) xs).toNat se0) v n t).2)
  else ((rcvS (xs.getD (ix (fun s => s.rcd == r) xs).toNat se0) v n t).1, [])

/-! ### what a valid state's subscriptions are like -/
structure SeV (s : Se) : Prop where
  pt : PtM (sePt s)
  nx : s.nx = (s.iu.length : Int)
  len : s.iu.length ≤ 128
  st : ∀ x ∈ s.iu, 1 ≤ x.st ∧ x.st ≤ 5
theorem okIs_st : ∀ {xs ys P : List Iu}, okIs P (xs.zip ys) = true → xs.length = ys.length → ∀ x ∈ xs, 1 ≤ x.st ∧ x.st ≤ 5
  | [], _, _, _, _ => by simp
  | x :: xs, [], P, _, h => by simp at h
  | x :: xs, y :: ys, P, h, hl => by
    rw [List.zip_cons_cons, okIs, Bool.and_eq_true] at h
    intro z hz
    rcases List.mem_cons.1 hz with rfl | hz
    · have h1 := h.1
      rw [okI_split] at h1
      simp only [Bool.and_eq_true, decide_eq_true_eq] at h1
      exact h1.1.1.1.2
    · exact okIs_st h.2 (by simpa using hl) z hz
theorem SeV.of {s : Se} (h : seErr s = 0) : SeV s := by
  unfold seErr at h
  split at h
  · cases h
  split at h
  · rename_i h1; rw [h] at h1; simp at h1
  rename_i hp
  split at h
  · cases h
  rename_i hl
  split at h
  · cases h
  split at h
  · rename_i hk
    unfold okSe at hk
    simp only [Bool.and_eq_true, beq_iff_eq] at hk
    exact ⟨ptErr_M (by simpa using hp), hk.1.1.symm, by omega, okIs_st hk.2 (by have := hk.1.1; have := hk.1.2; omega)⟩
  · cases h
theorem okSes_V : ∀ {xs : List Se} {p : Option Int}, okSes p xs = true → (∀ x ∈ xs, SeV x) ∧ xs.Pairwise (fun x y => x.rcd < y.rcd) ∧ ∀ q, p = some q → ∀ x ∈ xs, q < x.rcd
  | [], _, _ => by simp
  | x :: xs, p, h => by
    rw [okSes, Bool.and_eq_true, Bool.and_eq_true, beq_iff_eq] at h
    obtain ⟨⟨h1, h2⟩, h3⟩ := h
    obtain ⟨g1, g2, g3⟩ := okSes_V h3
    refine ⟨fun y hy => ?_, List.pairwise_cons.2 ⟨g3 _ rfl, g2⟩, fun q hq y hy => ?_⟩
    · rcases List.mem_cons.1 hy with rfl | hy
      · exact SeV.of h1
      · exact g1 y hy
    · subst hq
      simp at h2
      rcases List.mem_cons.1 hy with rfl | hy
      · exact h2
      · have := g3 _ rfl y hy; omega
end Go.Proofs.YtbhndfphegflhaaGreat

/- Until of the program (a range over the iterator) and of the reference. -/
namespace Go.Proofs.YtbhndfphegflhaaGreat
open Go.RowKit

attribute [local go_sem] Oper.semAt_some

/-- What the caller's cells hold between two rounds. -/
structure UnI (p : Pt) (u : Int) (w : World) (pre : List Iu) (W : World) : Prop where
  d : Box W (w.heap.size + 1) 3 #[.int .i64 u]
  n : Box W (w.heap.size + 2) 3 #[.int .i64 (pre.length : Nat)]
  pat : Box W (w.heap.size + 3) 67 (ptC p)
  bel : Below w.heap.size w W
  siz : w.heap.size + 6 ≤ W.heap.size
  all : ∀ x ∈ pre, x.day ≤ u
structure UnX (u : Int) (w : World) (pre : List Iu) (W : World) : Prop where
  ex : ∃ (q : List Iu) (x : Iu), pre = q ++ [x] ∧ (∀ y ∈ q, y.day ≤ u) ∧ ¬ x.day ≤ u ∧ Box W (w.heap.size + 2) 3 #[.int .i64 (q.length : Nat)]
  bel : Below w.heap.size w W
theorem UnI.kx {p : Pt} {u : Int} {w X Y : World} {pre : List Iu} (h : UnI p u w pre X) (hk : KeepX (w.heap.size + 6) X Y) : UnI p u w pre Y :=
  ⟨hk.box h.d (by omega), hk.box h.n (by omega), hk.box h.pat (by omega), h.bel.trans (hk.bel (by omega) (by have := h.siz; omega)), Nat.le_trans h.siz hk.size, h.all⟩
theorem UnI.put {p : Pt} {u : Int} {w X : World} {pre : List Iu} (h : UnI p u w pre X) (o : Obj) : UnI p u w pre (X.putObj (w.heap.size + 5) o) :=
  ⟨box_put h.d (by omega), box_put h.n (by omega), box_put h.pat (by omega), below_put h.bel (by omega), by rw [World.putObj_size]; exact h.siz, h.all⟩
theorem UnX.put {u : Int} {w X : World} {pre : List Iu} (h : UnX u w pre X) (o : Obj) : UnX u w pre (X.putObj (w.heap.size + 5) o) :=
  ⟨by obtain ⟨q, x, h1, h2, h3, h4⟩ := h.ex; exact ⟨q, x, h1, h2, h3, box_put h4 (by omega)⟩, below_put h.bel (by omega)⟩
theorem UnI.new {p : Pt} {u : Int} {w X : World} {pre : List Iu} (h : UnI p u w pre X) (o : Obj) : UnI p u w pre (X.alloc o) :=
  h.kx ((KeepX.refl _ X).below ((Below.refl _ X).alloc (Nat.le_refl _) o))
theorem tw_all {u : Int} : ∀ {xs : List Iu}, (∀ x ∈ xs, x.day ≤ u) → xs.takeWhile (fun x => decide (x.day ≤ u)) = xs
  | [], _ => rfl
  | x :: xs, h => by rw [List.takeWhile_cons, if_pos (decide_eq_true (h x (by simp))), tw_all (fun y hy => h y (by simp [hy]))]
theorem tw_stop {u : Int} : ∀ {q : List Iu} {x : Iu} {t : List Iu}, (∀ x ∈ q, x.day ≤ u) → ¬ x.day ≤ u → (q ++ x :: t).takeWhile (fun x => decide (x.day ≤ u)) = q
  | [], x, t, _, h2 => by rw [List.nil_append, List.takeWhile_cons, if_neg (by simpa using h2)]
  | y :: q, x, t, h, h2 => by rw [List.cons_append, List.takeWhile_cons, if_pos (decide_eq_true (h y (by simp))), tw_stop (fun z hz => h z (by simp [hz])) h2]
theorem issU_tw (p : Pt) (u : Int) : issU p u = (isL p 109572 5000 (ps0 p)).takeWhile (fun x => decide (x.day ≤ u)) := isL_min p u 5000 (ps0 p)

set_option maxRecDepth 100000 in
set_option maxHeartbeats 8000000 in
theorem puntil_any (p : Pt) (u : Int) (w : World) (hp : PtM p) (hs : PtS w w.heap.size p) :
    Calls Tryz.prog 151 #[ptV p, .int .i64 u] w fun e w' => e = .returned (.int .i64 ((issU p u).length : Nat)) ∧ Below w.heap.size w w' := by
  have HIS := hide (fun W => issues_any p W)
  have HTW := hide (issU_tw p u)
  unfold ptV at HIS ⊢
  refine (callsIn_wide (n := 3)).1 ?_
  refine callsIn_of_wp_marks Tryz.func151 rfl trivial ?_ rfl
  simp only [Tryz.ntmps151, List.size_toArray, List.length_cons, List.length_nil, Nat.reduceAdd, Nat.reduceSub, Array.replicate_succ, Array.replicate_zero, List.push_toArray, List.append_toArray, List.nil_append, List.cons_append]
  gi_wp2
  refine ⟨trivial, (callsIn_wide.2 (HIS.out _)).mono ?_⟩
  rintro e w' ⟨rfl, rfl⟩
  have hp5 := hp
  have B5 := hide ((((((Below.refl w.heap.size w).alloc (Nat.le_refl _) (.cells (ptC p) 67)).alloc (by simp) (.cells #[.int .i64 u] 3)).alloc (by simp; omega) (.cells #[.int .i64 0] 3)).alloc (by simp; omega) (.cells (ptC p) 67)))
  have D5 := hide (((Box.new (w.alloc (.cells (ptC p) 67)) 3 #[.int .i64 u]).alloc (.cells #[.int .i64 0] 3)).alloc (.cells (ptC p) 67))
  have N5 := hide ((Box.new ((w.alloc (.cells (ptC p) 67)).alloc (.cells #[.int .i64 u] 3)) 3 #[.int .i64 0]).alloc (.cells (ptC p) 67))
  have P5 := hide (Box.new (((w.alloc (.cells (ptC p) 67)).alloc (.cells #[.int .i64 u] 3)).alloc (.cells #[.int .i64 0] 3)) 67 (ptC p))
  simp only [World.size_alloc] at D5 N5 P5
  obtain ⟨W5, hW5⟩ : ∃ W5, W5 = (((w.alloc (.cells (ptC p) 67)).alloc (.cells #[.int .i64 u] 3)).alloc (.cells #[.int .i64 0] 3)).alloc (.cells (ptC p) 67) := ⟨_, rfl⟩
  have hsz : W5.heap.size = w.heap.size + 4 := by rw [hW5]; simp
  rw [← hW5] at B5 D5 N5 P5 ⊢
  clear hW5
  simp only [World.size_alloc]
  gi_wp2
  refine range_law (gf := 186) (lb := #[.pointer (some ⟨w.heap.size + 1 + 1 + 1, 0, none⟩)]) (enc := iuV) (S := isL p 109572 5000 (ps0 p)) (pB := w.heap.size + 3) (n₀ := w.heap.size) (id := 0) rfl (enters_of Tryz.func186 (by kernel_rfl) rfl) rfl (by omega) (by omega) ?it
    (fun pre W => UnI p u w pre W) (fun pre W => UnX u w pre W) ?hI ?hIp ?hXp ?h0 ?hround ?hdone ?hstop
  case it =>
    intro J Jx W hW hbW hJ hY h0
    rw [← hW] at hJ hY
    have h := issues1_any p (W5.heap.size + 1) (w.heap.size + 3) w.heap.size J Jx W hp5 (hs.below (B5.out.trans (hbW.mono B5.out.size))) (P5.out.below hbW P5.out.lt) (by omega) hJ (fun pre x X h1 h2 h3 => hY pre x X h1 h2 h3) h0
    exact h
  case hI => intro s X Y hk hs; rw [hsz] at hk; exact hs.kx hk
  case hIp => intro s X o hs; rw [hsz]; exact hs.put o
  case hXp => intro s X o hs; rw [hsz]; exact hs.put o
  case h0 =>
    intro o o'
    exact ⟨(D5.out.alloc o).alloc o', (N5.out.alloc o).alloc o', (P5.out.alloc o).alloc o', (B5.out.alloc B5.out.size o).alloc (by have := B5.out.size; simp; omega) o', by simp; omega, by simp⟩
  case hround =>
    intro pre x X hX hi hlen
    have HX1 := hide (hi.new (.cells (iuC x) 122))
    have BX := hide (Box.new X 122 (iuC x))
    have HQ := hide (show Kq (W5.heap.size + 2) (w.heap.size + 3) w.heap.size X (X.alloc (.cells (iuC x) 122)) from ⟨Below.heap_alloc X _ _ hX, Below.heap_alloc X _ _ hi.pat.lt, (Below.refl _ X).alloc (by have := hi.siz; omega) _⟩)
    clear hi
    unfold iuV
    gi_wp2
    refine ⟨KeepsOthers.alloc _ _, HQ.out, fun o => ?_⟩
    obtain ⟨n, hn⟩ : ∃ n, pre.length = n := ⟨_, rfl⟩
    obtain ⟨Y, hY⟩ : ∃ Y, Y = (X.alloc (.cells (iuC x) 122)).putObj (W5.heap.size + 1) o := ⟨_, rfl⟩
    have HY1 := hide (show UnI p u w pre Y by rw [hY, hsz]; exact HX1.out.put o)
    have BY := hide (show Box Y X.heap.size 122 (iuC x) by rw [hY]; exact box_put BX.out (by omega))
    have hYs : Y.heap.size = X.heap.size + 1 := by rw [hY]; simp
    rw [← hY]
    clear hY HX1 BX HQ hYs
    have HN := hide hn
    have hd := HY1.out.d.cell 0
    have hk := HY1.out.n.cell 0
    have hkf := HY1.out.n.frz 0
    rw [hn] at hk hlen
    simp at hd hk
    have hd' : Y.cell? ⟨w.heap.size + 1, 0, none⟩ = some (.int .i64 u) := hd
    have hk' : Y.cell? ⟨w.heap.size + 1 + 1, 0, none⟩ = some (.int .i64 (n : Int)) := hk
    have hkf' : Y.frozen? ⟨w.heap.size + 1 + 1, 0, none⟩ = false := hkf
    have y0 := BY.out.cell 0
    have y1 := BY.out.cell 1
    have y2 := BY.out.cell 2
    have y3 := BY.out.cell 3
    have y4 := BY.out.cell 4
    have y5 := BY.out.cell 5
    simp at y0 y1 y2 y3 y4 y5
    have e2 : IntKind.i64.wrap ((n : Int) + 1) = (n : Int) + 1 := by rw [IntKind.wrap_i64]; omega
    clear hn hk hd hkf
    by_cases hday : x.day ≤ u
    · have hz1 : ¬ u < x.day := by omega
      have HII := hide (show UnI p u w (pre ++ [x]) (Y.setCell ⟨w.heap.size + 2, 0, none⟩ (.int .i64 ((n : Int) + 1))) from
        ⟨HY1.out.d.far (by show _ ≠ w.heap.size + 2; omega) _, by rw [List.length_append, HN.out]; exact HY1.out.n.set_ 0 _, HY1.out.pat.far (by show _ ≠ w.heap.size + 2; omega) _,
         HY1.out.bel.setCell (p := ⟨w.heap.size + 2, 0, none⟩) (by show w.heap.size ≤ w.heap.size + 2; omega) _, by rw [World.size_setCell]; exact HY1.out.siz, by
          intro z hz
          rcases List.mem_append.1 hz with hz | hz
          · exact HY1.out.all z hz
          · rw [List.mem_singleton.1 hz]; exact hday⟩)
      gi_wp2
      exact ⟨KeepsOthers.setCell _ _ _, ⟨Below.heap_setCell _ _ _ _ (by show _ ≠ w.heap.size + 2; omega), Below.heap_setCell _ _ _ _ (by show w.heap.size + 3 ≠ w.heap.size + 2; omega), (Below.refl _ _).setCell (p := ⟨w.heap.size + 2, 0, none⟩) (by show w.heap.size ≤ w.heap.size + 2; omega) _⟩, HII.out⟩
    · have hz1 : u < x.day := by omega
      have HXX := hide (show UnX u w (pre ++ [x]) Y from ⟨⟨pre, x, rfl, HY1.out.all, hday, HY1.out.n⟩, HY1.out.bel⟩)
      gi_wp2
      exact ⟨rfl, KeepsOthers.refl _, HXX.out⟩
  case hdone =>
    intro W hi hd
    have hd' := hd
    rw [hsz] at hd'
    have hc : W.cell? ⟨w.heap.size + 1 + 1, 0, none⟩ = some (.int .i64 ((isL p 109572 5000 (ps0 p)).length : Nat)) := hi.n.cell 0
    gi_wp2
    refine ⟨by simp, .inl ⟨_, _, rfl, run_takeDeferred (by first | exact hd | exact hd'), ?_⟩⟩
    exact ⟨_, results_tmp rfl _ _ _, by rw [HTW.out, tw_all hi.all]; rfl, below_put hi.bel (by omega)⟩
  case hstop =>
    intro pre W hpre hx hd
    obtain ⟨q, x, he, h1, h2, h3⟩ := hx.ex
    have hc : W.cell? ⟨w.heap.size + 1 + 1, 0, none⟩ = some (.int .i64 (q.length : Nat)) := h3.cell 0
    have hd' := hd
    rw [hsz] at hd'
    have HQ := hide (show issU p u = q by
      obtain ⟨t, ht⟩ := hpre
      rw [HTW.out, ← ht, he, List.append_assoc]
      exact tw_stop h1 h2)
    gi_wp2
    refine ⟨by simp, .inl ⟨_, _, rfl, run_takeDeferred (by first | exact hd | exact hd'), ?_⟩⟩
    exact ⟨_, results_tmp rfl _ _ _, by rw [HQ.out]; rfl, below_put hx.bel (by omega)⟩

set_option maxRecDepth 100000 in
set_option maxHeartbeats 4000000 in
theorem runtil_any (p : Pt) (u : Int) (w : World) (hp : PtM p) (hs : PtS w w.heap.size p) :
    Calls Tryz.prog 47 #[ptV p, .int .i64 u] w fun e w' => e = .returned (.int .i64 ((issU p u).length : Nat)) ∧ Below w.heap.size w w' := by
  have B0 := hide ((Below.refl w.heap.size w).alloc (Nat.le_refl _) (.cells (ptC p) 67))
  have HI := hide (rissues_any p (min u 109572) 5000 _ hp ((hs.below B0.out).more B0.out.size) (Nat.le_refl _))
  have HU := hide (show isL p (min u 109572) 5000 (ps0 p) = issU p u from rfl)
  have HL := hide (isL_len p (min u 109572) 5000 (ps0 p))
  rw [HU.out] at HI HL
  obtain ⟨m, hm⟩ : ∃ m, min u 109572 = m := ⟨_, rfl⟩
  rw [hm] at HI
  unfold ptV at HI ⊢
  by_cases hu : u ≤ 109572
  · have hum : u = m := by omega
    subst hum
    have hu' : ¬ 109572 < u := by omega
    go_enter Tryz.func47, Tryz.ntmps47
    go_wp2_with fail
    refine HI.out.mono ?_
    rintro e w1 ⟨v, rfl, ho, hb⟩
    obtain ⟨A, c, rfl, hsl⟩ := Iuo_sl ho (by have := HL.out; omega)
    go_wp2
    go_ret
    exact ⟨rfl, B0.out.trans (hb.mono B0.out.size)⟩
  · have hum : m = 109572 := by omega
    subst hum
    have hu' : 109572 < u := by omega
    go_enter Tryz.func47, Tryz.ntmps47
    go_wp2_with fail
    refine HI.out.mono ?_
    rintro e w1 ⟨v, rfl, ho, hb⟩
    obtain ⟨A, c, rfl, hsl⟩ := Iuo_sl ho (by have := HL.out; omega)
    go_wp2
    go_ret
    exact ⟨rfl, B0.out.trans (hb.mono B0.out.size)⟩
end Go.Proofs.YtbhndfphegflhaaGreat

/- The small functions of the reference's subscriptions; New of both. Printed by gen_se_x.py. -/
namespace Go.Proofs.YtbhndfphegflhaaGreat
open Go.RowKit

set_option maxRecDepth 100000 in
set_option maxHeartbeats 4000000 in
theorem rnew37_any (r : Int) (p : Pt) (w : World) (hs : PtS w w.heap.size p) :
    Calls Tryz.prog 100 #[.int .i64 r, ptV p] w fun e w' => e = .returned (.tuple #[seV (newS r p), .int .i64 (newE r p)]) ∧ Below w.heap.size w w' := by
  have B0 := hide (((Below.refl w.heap.size w).alloc (Nat.le_refl _) (.cells (ptC p) 67)).alloc (by simp) (.cells (seC se0) 76))
  have X0 := hide ((Box.new w 67 (ptC p)).alloc (.cells (seC se0) 76))
  have R0 := hide (Box.new (w.alloc (.cells (ptC p) 67)) 76 (seC se0))
  rw [World.size_alloc] at R0
  have HP := hide (rright36_any p _ ((hs.below B0.out).more B0.out.size))
  have HE := hide (show newE r p = if winB r 1 9999 = false then 2 else ptErr p from rfl)
  have HS := hide (show newS r p = if newE r p = 0 then ⟨r, p.start, p.every, p.pv, p.fv, p.skA, p.skn, p.skc, p.sk, p.dbA, p.dbn, p.dbc, p.db, 0, none, 0, 0, []⟩ else se0 from rfl)
  obtain ⟨er, her⟩ : ∃ er, ptErr p = er := ⟨_, rfl⟩
  rw [her] at HP HE
  clear her
  unfold ptV at HP ⊢
  unfold seC se0 at HP
  by_cases h1 : r < 1
  · have HEE := hide (show newE r p = 2 by rw [HE.out]; rw [if_pos]; unfold winB; simp; omega)
    have HSE := hide (show newS r p = se0 by rw [HS.out, HEE.out]; rfl)
    go_enter Tryz.func100, Tryz.ntmps100
    go_wp2
    refine bodyPost_ret (v := .tuple #[seV se0, .int .i64 2]) (by simp [results, Tryz.results100, go_sem, seV, se0]) rfl ?_
    exact ⟨by rw [HSE.out, HEE.out], B0.out⟩
  by_cases h2 : 9999 < r
  · have HEE := hide (show newE r p = 2 by rw [HE.out]; rw [if_pos]; unfold winB; simp; omega)
    have HSE := hide (show newS r p = se0 by rw [HS.out, HEE.out]; rfl)
    go_enter Tryz.func100, Tryz.ntmps100
    go_wp2
    refine bodyPost_ret (v := .tuple #[seV se0, .int .i64 2]) (by simp [results, Tryz.results100, go_sem, seV, se0]) rfl ?_
    exact ⟨by rw [HSE.out, HEE.out], B0.out⟩
  have HEE := hide (show newE r p = er by rw [HE.out]; rw [if_neg]; unfold winB; simp; omega)
  go_enter Tryz.func100, Tryz.ntmps100
  go_wp2_with fail
  refine HP.out.mono ?_
  rintro e w1 ⟨rfl, hb⟩
  have B1 := hide (B0.out.trans (hb.mono B0.out.size))
  have R1 := hide (R0.out.below hb (by simp))
  have X1 := hide (X0.out.below hb (by simp; omega))
  clear hb HP
  have r0 := R1.out.cell 0
  have r1 := R1.out.cell 1
  have r2 := R1.out.cell 2
  have r3 := R1.out.cell 3
  have r4 := R1.out.cell 4
  have r5 := R1.out.cell 5
  have r6 := R1.out.cell 6
  have r7 := R1.out.cell 7
  have r8 := R1.out.cell 8
  simp [se0] at r0 r1 r2 r3 r4 r5 r6 r7 r8
  have fr := fun j => R1.out.frz j
  have x0 := X1.out.cell 0
  have x1 := X1.out.cell 1
  have x2 := X1.out.cell 2
  have x3 := X1.out.cell 3
  have x4 := X1.out.cell 4
  have x5 := X1.out.cell 5
  simp at x0 x1 x2 x3 x4 x5
  by_cases hz : (er != 0) = true
  · have HSE := hide (show newS r p = se0 by rw [HS.out, HEE.out, if_neg (by simpa using hz)])
    go_wp2
    refine bodyPost_ret (v := .tuple #[seV se0, .int .i64 er]) (by simp [results, Tryz.results100, go_sem, r0, r1, r2, r3, r4, r5, r6, r7, r8, seV, se0]) rfl ?_
    exact ⟨by rw [HSE.out, HEE.out], below_se B1.out (by omega) _ _ _ _ _ _ _ _ _⟩
  · have hz' : (er != 0) = false := by simpa using hz
    have h0 : er = 0 := by simpa using hz
    have HSE := hide (show newS r p = ⟨r, p.start, p.every, p.pv, p.fv, p.skA, p.skn, p.skc, p.sk, p.dbA, p.dbn, p.dbc, p.db, 0, none, 0, 0, []⟩ by rw [HS.out, HEE.out, if_pos h0])
    have H0 := hide h0
    clear hz h0
    go_wp2
    refine bodyPost_ret (v := .tuple #[seV ⟨r, p.start, p.every, p.pv, p.fv, p.skA, p.skn, p.skc, p.sk, p.dbA, p.dbn, p.dbc, p.db, 0, none, 0, 0, []⟩, .int .i64 0]) (by simp [results, Tryz.results100, go_sem, r0, r1, r2, r3, r4, r5, r6, r7, r8, seV]) rfl ?_
    exact ⟨by rw [HSE.out, HEE.out, H0.out], below_se B1.out (by omega) _ _ _ _ _ _ _ _ _⟩
set_option maxRecDepth 100000 in
set_option maxHeartbeats 4000000 in
theorem pnew37_any (r : Int) (p : Pt) (w : World) (hs : PtS w w.heap.size p) :
    Calls Tryz.prog 93 #[.int .i64 r, ptV p] w fun e w' => e = .returned (.tuple #[seV (newS r p), .int .i64 (newE r p)]) ∧ Below w.heap.size w w' := by
  have B0 := hide (((Below.refl w.heap.size w).alloc (Nat.le_refl _) (.cells (ptC p) 67)).alloc (by simp) (.cells (seC se0) 76))
  have X0 := hide ((Box.new w 67 (ptC p)).alloc (.cells (seC se0) 76))
  have R0 := hide (Box.new (w.alloc (.cells (ptC p) 67)) 76 (seC se0))
  rw [World.size_alloc] at R0
  have HP := hide (pright36_any p _ ((hs.below B0.out).more B0.out.size))
  have HE := hide (show newE r p = if winB r 1 9999 = false then 2 else ptErr p from rfl)
  have HS := hide (show newS r p = if newE r p = 0 then ⟨r, p.start, p.every, p.pv, p.fv, p.skA, p.skn, p.skc, p.sk, p.dbA, p.dbn, p.dbc, p.db, 0, none, 0, 0, []⟩ else se0 from rfl)
  obtain ⟨er, her⟩ : ∃ er, ptErr p = er := ⟨_, rfl⟩
  rw [her] at HP HE
  clear her
  unfold ptV at HP ⊢
  unfold seC se0 at HP
  have HW := hide (fun W => swin_any r 1 9999 W)
  obtain ⟨q, hq⟩ : ∃ q, winB r 1 9999 = q := ⟨_, rfl⟩
  rw [hq] at HW HE
  clear hq
  cases q with
  | false =>
    have HEE := hide (show newE r p = 2 by rw [HE.out]; rfl)
    have HSE := hide (show newS r p = se0 by rw [HS.out, HEE.out]; rfl)
    go_enter Tryz.func93, Tryz.ntmps93
    go_wp2_with (go_at_call 110; refine (HW.out _).mono ?_; rintro e w' ⟨rfl, rfl⟩)
    refine bodyPost_ret (v := .tuple #[seV se0, .int .i64 2]) (by simp [results, Tryz.results93, go_sem, seV, se0]) rfl ?_
    exact ⟨by rw [HSE.out, HEE.out], B0.out⟩
  | true =>
  have HEE := hide (show newE r p = er by rw [HE.out]; rfl)
  go_enter Tryz.func93, Tryz.ntmps93
  go_wp2_with (go_at_call 110; refine (HW.out _).mono ?_; rintro e w' ⟨rfl, rfl⟩)
  refine HP.out.mono ?_
  rintro e w1 ⟨rfl, hb⟩
  have B1 := hide (B0.out.trans (hb.mono B0.out.size))
  have R1 := hide (R0.out.below hb (by simp))
  have X1 := hide (X0.out.below hb (by simp; omega))
  clear hb HP
  have r0 := R1.out.cell 0
  have r1 := R1.out.cell 1
  have r2 := R1.out.cell 2
  have r3 := R1.out.cell 3
  have r4 := R1.out.cell 4
  have r5 := R1.out.cell 5
  have r6 := R1.out.cell 6
  have r7 := R1.out.cell 7
  have r8 := R1.out.cell 8
  simp [se0] at r0 r1 r2 r3 r4 r5 r6 r7 r8
  have fr := fun j => R1.out.frz j
  have x0 := X1.out.cell 0
  have x1 := X1.out.cell 1
  have x2 := X1.out.cell 2
  have x3 := X1.out.cell 3
  have x4 := X1.out.cell 4
  have x5 := X1.out.cell 5
  simp at x0 x1 x2 x3 x4 x5
  by_cases hz : (er != 0) = true
  · have HSE := hide (show newS r p = se0 by rw [HS.out, HEE.out, if_neg (by simpa using hz)])
    go_wp2
    refine bodyPost_ret (v := .tuple #[seV se0, .int .i64 er]) (by simp [results, Tryz.results93, go_sem, r0, r1, r2, r3, r4, r5, r6, r7, r8, seV, se0]) rfl ?_
    exact ⟨by rw [HSE.out, HEE.out], below_se B1.out (by omega) _ _ _ _ _ _ _ _ _⟩
  · have hz' : (er != 0) = false := by simpa using hz
    have h0 : er = 0 := by simpa using hz
    have HSE := hide (show newS r p = ⟨r, p.start, p.every, p.pv, p.fv, p.skA, p.skn, p.skc, p.sk, p.dbA, p.dbn, p.dbc, p.db, 0, none, 0, 0, []⟩ by rw [HS.out, HEE.out, if_pos h0])
    have H0 := hide h0
    clear hz h0
    go_wp2
    refine bodyPost_ret (v := .tuple #[seV ⟨r, p.start, p.every, p.pv, p.fv, p.skA, p.skn, p.skc, p.sk, p.dbA, p.dbn, p.dbc, p.db, 0, none, 0, 0, []⟩, .int .i64 0]) (by simp [results, Tryz.results93, go_sem, r0, r1, r2, r3, r4, r5, r6, r7, r8, seV]) rfl ?_
    exact ⟨by rw [HSE.out, HEE.out, H0.out], below_se B1.out (by omega) _ _ _ _ _ _ _ _ _⟩
set_option maxRecDepth 100000 in
set_option maxHeartbeats 4000000 in
theorem rwithS_any (s : Se) (A : Option Addr) (n c : Nat) (ys : List Iu) (w : World) :
    Calls Tryz.prog 152 #[seV s, .slice A n c] w fun e w' => e = .returned (seV { s with nx := (n : Int), iuA := A, iun := n, iuc := c, iu := ys }) ∧ Below w.heap.size w w' := by
  have B0 := hide ((Below.refl w.heap.size w).alloc (Nat.le_refl _) (.cells (seC s) 76))
  unfold seV
  go_enter Tryz.func152, Tryz.ntmps152
  go_wp2
  refine bodyPost_ret (v := seV { s with nx := (n : Int), iuA := A, iun := n, iuc := c, iu := ys }) (by simp [results, Tryz.results152, go_sem, seV]) rfl ?_
  exact ⟨rfl, B0.out.alloc B0.out.size _⟩
set_option maxRecDepth 100000 in
set_option maxHeartbeats 4000000 in
theorem rchg_any (x : Iu) (st t : Int) (w : World) :
    Calls Tryz.prog 147 #[iuV x, .int .i64 st, .int .i64 t] w fun e w' => e = .returned (iuV ⟨x.vol, x.num, x.last, x.day, st, t⟩) ∧ Below w.heap.size w w' := by
  have B0 := hide ((Below.refl w.heap.size w).alloc (Nat.le_refl _) (.cells (iuC x) 122))
  unfold iuV
  go_enter Tryz.func147, Tryz.ntmps147
  go_wp2
  refine bodyPost_ret (v := iuV ⟨x.vol, x.num, x.last, x.day, st, t⟩) (by simp [results, Tryz.results147, go_sem, iuV]) rfl ?_
  exact ⟨rfl, B0.out.alloc B0.out.size _⟩
set_option maxRecDepth 100000 in
set_option maxHeartbeats 4000000 in
theorem rnumb_any (x : Iu) (n : Int) (w : World) : Calls Tryz.prog 178 #[iuV x, .int .i64 n] w fun e w' => e = .returned (.bool (numI n x)) ∧ Below w.heap.size w w' := by
  have B0 := hide ((Below.refl w.heap.size w).alloc (Nat.le_refl _) (.cells (iuC x) 122))
  have HN := hide (show numI n x = ((x.num == n) || (decide (x.num ≤ n) && decide (n ≤ x.last))) from rfl)
  unfold iuV
  cases h1 : (x.num == n) with
  | true =>
    have HR := hide (show numI n x = true by rw [HN.out, h1]; rfl)
    go_enter Tryz.func178, Tryz.ntmps178
    go_wp2
    go_ret
    exact ⟨ret_bool HR.out.symm, B0.out⟩
  | false =>
    by_cases h2 : x.num ≤ n
    · by_cases h3 : n ≤ x.last
      · have HR := hide (show numI n x = true by rw [HN.out, h1, decide_eq_true h2, decide_eq_true h3]; rfl)
        go_enter Tryz.func178, Tryz.ntmps178
        go_wp2
        go_ret
        exact ⟨ret_bool HR.out.symm, B0.out⟩
      · have HR := hide (show numI n x = false by rw [HN.out, h1, decide_eq_true h2, decide_eq_false h3]; rfl)
        go_enter Tryz.func178, Tryz.ntmps178
        go_wp2
        go_ret
        exact ⟨ret_bool HR.out.symm, B0.out⟩
    · have HR := hide (show numI n x = false by rw [HN.out, h1, decide_eq_false h2]; rfl)
      go_enter Tryz.func178, Tryz.ntmps178
      go_wp2
      go_ret
      exact ⟨ret_bool HR.out.symm, B0.out⟩
set_option maxRecDepth 100000 in
set_option maxHeartbeats 4000000 in
theorem rfind_any (s : Se) (v n : Int) (w : World) (hs : Ius w w.heap.size s.iuA s.iun s.iuc s.iu) :
    Calls Tryz.prog 144 #[seV s, .int .i64 v, .int .i64 n] w fun e w' => e = .returned (.int .i64 (ix (fndI v n) s.iu)) ∧ Below w.heap.size w w' := by
  have B0 := hide ((Below.refl w.heap.size w).alloc (Nat.le_refl _) (.cells (seC s) 76))
  have Z0 := hide (Below.refl (w.heap.size + 1) (w.alloc (.cells (seC s) 76)))
  have X0 := hide (Box.new w 76 (seC s))
  have HS := hide hs
  have hlen := hs.len
  have hbig := hs.big
  have HNM := hide (fun x W => rnumb_any x n W)
  unfold iuV at HNM
  unfold seV
  clear hs
  go_enter Tryz.func144, Tryz.ntmps144
  go_wp2
  go_loopw [7] (fun s7 wr => ∃ k : Nat, k ≤ s.iun ∧ s7 = .int .i64 k ∧ ix (fndI v n) s.iu = idxP (fndI v n) (s.iu.drop k) k ∧ Below (w.heap.size + 1) (w.alloc (.cells (seC s) 76)) wr) (fun s7 _ => s.iun - (intOf s7).toNat)
  case atStart => exact ⟨0, Nat.zero_le _, rfl, rfl, Z0.out⟩
  case round =>
    obtain ⟨k, hk, rfl, ha, hb⟩ := hrel
    have HA := hide ha
    have ZB := hide hb
    have BW := hide (B0.out.trans (hb.mono (by omega)))
    have x8 := (X0.out.below hb (by omega)).cell 8
    simp at x8
    clear ha hb
    by_cases hlt : k < s.iun
    · obtain ⟨b, off, x, hA, hbB, hx, c0, c1, c2, c3, c4, c5⟩ := Ius_at (HS.out.below BW.out) hlt
      rw [hA] at x8
      have HX := hide (idxP_step (p := fndI v n) hx)
      have hkz : (k : Int) < (s.iun : Int) := by omega
      have hnm := HNM.out x
      have HF := hide (show fndI v n x = ((x.vol == v) && numI n x) from rfl)
      clear hx hA
      by_cases hv : x.vol = v
      · have hvb : (x.vol == v) = true := by simpa using hv
        obtain ⟨q, hq⟩ : ∃ q, numI n x = q := ⟨_, rfl⟩
        rw [hq, hvb] at HF
        rw [hq] at hnm
        clear hq hv
        cases q with
        | true =>
          go_wp2_with (go_at_call 178; refine (hnm _).mono ?_; rintro e w' ⟨rfl, hb'⟩)
          go_ret
          exact ⟨ret_int (by rw [HA.out, HX.out, HF.out]; rfl), BW.out.trans (hb'.mono BW.out.size)⟩
        | false =>
          go_wp2_with (go_at_call 178; refine (hnm _).mono ?_; rintro e w' ⟨rfl, hb'⟩)
          go_roundw
          case rel => exact ⟨k + 1, by omega, by go_num, by rw [HA.out, HX.out, HF.out]; rfl, ZB.out.trans (hb'.mono (by have := ZB.out.size; simp at this; omega))⟩
          case measure => simp [intOf]; omega
      · have hvb : (x.vol == v) = false := by simpa using hv
        rw [hvb] at HF
        clear hv
        go_wp2
        go_roundw
        case rel => exact ⟨k + 1, by omega, by go_num, by rw [HA.out, HX.out, HF.out]; rfl, ZB.out⟩
        case measure => simp [intOf]; omega
    · have hkz : ¬ (k : Int) < (s.iun : Int) := by omega
      go_wp2
      go_ret
      exact ⟨ret_int (by rw [HA.out, idxP_end (by omega)]), BW.out⟩
set_option maxRecDepth 100000 in
set_option maxHeartbeats 4000000 in
theorem rknown_any (s : Se) (t : Int) (w : World) (hs : Ius w w.heap.size s.iuA s.iun s.iuc s.iu) :
    Calls Tryz.prog 145 #[seV s, .int .i64 t] w fun e w' => e = .returned (.bool (s.iu.any (fun y => y.itm == t))) ∧ Below w.heap.size w w' := by
  have B0 := hide ((Below.refl w.heap.size w).alloc (Nat.le_refl _) (.cells (seC s) 76))
  have Z0 := hide (Below.refl (w.heap.size + 1) (w.alloc (.cells (seC s) 76)))
  have X0 := hide (Box.new w 76 (seC s))
  have HS := hide hs
  have hlen := hs.len
  have hbig := hs.big
  unfold seV
  clear hs
  go_enter Tryz.func145, Tryz.ntmps145
  go_wp2
  go_loopw [5] (fun s5 wr => ∃ k : Nat, k ≤ s.iun ∧ s5 = .int .i64 k ∧ (∀ u ∈ s.iu.take k, (u.itm == t) = false) ∧ Below (w.heap.size + 1) (w.alloc (.cells (seC s) 76)) wr) (fun s5 _ => s.iun - (intOf s5).toNat)
  case atStart => exact ⟨0, Nat.zero_le _, rfl, by simp, Z0.out⟩
  case round =>
    obtain ⟨k, hk, rfl, ha, hb⟩ := hrel
    have HA := hide ha
    have ZB := hide hb
    have BW := hide (B0.out.trans (hb.mono (by omega)))
    have x8 := (X0.out.below hb (by omega)).cell 8
    simp at x8
    clear ha hb
    by_cases hlt : k < s.iun
    · obtain ⟨b, off, x, hA, hbB, hx, c0, c1, c2, c3, c4, c5⟩ := Ius_at (HS.out.below BW.out) hlt
      rw [hA] at x8
      have HX := hide hx
      have hkz : (k : Int) < (s.iun : Int) := by omega
      clear hx hA c0 c1 c2 c3 c4
      by_cases hv : x.itm = t
      · have hvb : (x.itm == t) = true := by simpa using hv
        have HT := hide (show s.iu.any (fun y => y.itm == t) = true from List.any_eq_true.2 ⟨x, List.mem_of_getElem? HX.out, hvb⟩)
        clear hv
        go_wp2
        go_ret
        exact ⟨ret_bool HT.out.symm, BW.out⟩
      · have hvb : (x.itm == t) = false := by simpa using hv
        have HT := hide (show ∀ u ∈ s.iu.take (k + 1), (u.itm == t) = false by
          intro u hu
          rw [take_step HX.out] at hu
          rcases List.mem_append.1 hu with hu | hu
          · exact HA.out u hu
          · rw [List.mem_singleton.1 hu]; exact hvb)
        clear hv
        go_wp2
        go_roundw
        case rel => exact ⟨k + 1, by omega, by go_num, HT.out, ZB.out⟩
        case measure => simp [intOf]; omega
    · have hkz : ¬ (k : Int) < (s.iun : Int) := by omega
      have HT := hide (show s.iu.any (fun y => y.itm == t) = false from List.any_eq_false.2 (fun u hu => by rw [HA.out u (by rwa [List.take_of_length_le (by omega)])]; decide))
      go_wp2
      go_ret
      exact ⟨ret_bool HT.out.symm, BW.out⟩
set_option maxRecDepth 100000 in
set_option maxHeartbeats 16000000 in
theorem rput_any (s : Se) (i : Nat) (x : Iu) (w : World) (hs : Ius w w.heap.size s.iuA s.iun s.iuc s.iu) (hi : i < s.iun) (hn : s.iun ≤ 1000) :
    Calls Tryz.prog 146 #[seV s, .int .i64 i, iuV x] w fun e w' => ∃ A m c, m = s.iun ∧ e = .returned (seV { s with nx := (m : Int), iuA := A, iun := m, iuc := c, iu := s.iu.set i x }) ∧ Iuo w' w.heap.size (.slice A m c) (s.iu.set i x) ∧ Below w.heap.size w w' := by
  obtain ⟨i0, hi0, hz0, hz1, hz2⟩ := info_parts iu_info
  have HI := hide (And.intro hi0 (And.intro hz0 (And.intro hz1 hz2)))
  have B0 := hide ((((Below.refl w.heap.size w).alloc (Nat.le_refl _) (.cells (seC s) 76)).alloc (by simp) (.cells (iuC x) 122)).alloc (by simp; omega) (.cells (seC se0) 76))
  have X0 := hide (((Box.new w 76 (seC s)).alloc (.cells (iuC x) 122)).alloc (.cells (seC se0) 76))
  have Y0 := hide ((Box.new (w.alloc (.cells (seC s) 76)) 122 (iuC x)).alloc (.cells (seC se0) 76))
  have R0 := hide (Box.new ((w.alloc (.cells (seC s) 76)).alloc (.cells (iuC x) 122)) 76 (seC se0))
  simp only [World.size_alloc] at Y0 R0
  have HS := hide hs
  have hle := hs.le
  have hbig := hs.big
  have hlen := hs.len
  have HLEN := hide hlen
  obtain ⟨b, off, hA, _⟩ := hs.cells (by omega)
  have HSB := hide (hs.below B0.out)
  rw [hA] at HSB
  have HA := hide hA
  have e1 : IntKind.i64.wrap ((i : Int) + 1) = (i : Int) + 1 := by rw [IntKind.wrap_i64]; omega
  have hb5 : i ≤ s.iuc := by omega
  have hb6 : (i : Int) ≤ (s.iuc : Int) := by omega
  have hb7 : (i : Int) ≤ (s.iun : Int) := by omega
  have hb8 : i + 1 ≤ s.iun := by omega
  have hb9 : (i : Int) + 1 ≤ (s.iun : Int) := by omega
  have hb10 : i + 1 ≤ s.iuc := by omega
  have hb11 : (i : Int) + 1 ≤ (s.iuc : Int) := by omega
  have HST := hide (show s.iu.set i x = s.iu.take i ++ x :: s.iu.drop (i + 1) by
    exact List.set_eq_take_append_cons_drop ▸ (by rw [if_pos (by omega)]))
  clear hs hA hi0 hz0 hz1 hz2
  unfold seV iuV
  go_enter Tryz.func146, Tryz.ntmps146
  obtain ⟨W0, hW0⟩ : ∃ W0, W0 = ((w.alloc (.cells (seC s) 76)).alloc (.cells (iuC x) 122)).alloc (.cells (seC se0) 76) := ⟨_, rfl⟩
  go_upto_region 1 with fail
  have hfold : ((w.alloc (.cells (seC s) 76)).alloc (.cells (iuC x) 122)).alloc (.cells #[.int .i64 0, .int .i64 0, .int .i64 0, .int .i64 0, .int .i64 0, .slice none 0 0, .slice none 0 0, .int .i64 0, .slice none 0 0] 76) = W0 := hW0.symm
  have hsz : W0.heap.size = w.heap.size + 3 := by rw [hW0]; simp
  rw [hfold]
  rw [← hW0] at B0 X0 Y0 R0 HSB
  clear hfold hW0
  have Z0 := hide (Below.refl (w.heap.size + 3) W0)
  have x8 := X0.out.cell 8
  simp at x8
  rw [HA.out] at x8
  have HTKe := hide ((HSB.out.take (m := i) (by omega)).alloc (by omega) (.cells #[] 122))
  have hmd := World.ownsRow_made (base := w.heap.size + 3) (e := 122) (size := 6) W0 #[] 0 (by omega) (Nat.zero_le _) rfl
  rw [hsz] at hmd
  have HMD := hide hmd
  clear hmd
  have BLe := hide (B0.out.alloc (by omega) (.cells #[] 122))
  have ZLe := hide (Z0.out.alloc (by omega) (.cells #[] 122))
  go_wp2_with (at_builtin; go_must (refine wpList_append_sl _ rfl _ _ 74 rfl (w.heap.size + 3) 122 i0 _ 48 Tryz.underlying74 HI.out.1 HI.out.2.1 HI.out.2.2.1 HI.out.2.2.2 rfl (by decide) iuE_len iuE_one _ 0 [] rfl HMD.out _ _ _ rfl HTKe.out (by unfold maxLen; omega) (by omega) (by first | omega | (simp; omega)) ?_))
  intro v1 w1 hown hg hat
  have B1 := hide (BLe.out.grown hg (by simp; omega) (by intro q hq; simp [Value.ownBlock] at hq; omega))
  have Z1 := hide (ZLe.out.grown hg (by simp; omega) (by intro q hq; simp [Value.ownBlock] at hq; omega))
  have hz1 := Z1.out.size
  have HO1 := hide hown
  have Y1 := hide (Y0.out.below Z1.out (by omega))
  have y0 := Y1.out.cell 0
  have y1 := Y1.out.cell 1
  have y2 := Y1.out.cell 2
  have y3 := Y1.out.cell 3
  have y4 := Y1.out.cell 4
  have y5 := Y1.out.cell 5
  simp at y0 y1 y2 y3 y4 y5
  have HOa := hide (HO1.out.alloc (.cells (iuC x) 122))
  have HSa := hide (iu_sl1 (Box.new w1 122 (iuC x)))
  have B1a := hide (B1.out.alloc (by omega) (.cells (iuC x) 122))
  have Z1a := hide (Z1.out.alloc (by omega) (.cells (iuC x) 122))
  clear hown hg hat HMD HTKe BLe ZLe x8
  go_wp2_with (at_builtin; go_must (refine wpList_append_sl _ rfl _ _ 74 rfl (w.heap.size + 3) 122 i0 _ 48 Tryz.underlying74 HI.out.1 HI.out.2.1 HI.out.2.2.1 HI.out.2.2.2 rfl (by decide) iuE_len iuE_one _ _ _ rfl HOa.out _ 1 1 rfl HSa.out (by unfold maxLen; omega) (by omega) (by first | omega | (simp; omega)) ?_))
  intro v2 w2 hown hg hat
  have B2 := hide (B1a.out.grown hg (by simp; omega) (by intro q hq; have := (HO1.out.lt q hq).1; omega))
  have Z2 := hide (Z1a.out.grown hg (by simp; omega) (by intro q hq; exact (HO1.out.lt q hq).1))
  have hz2 := Z2.out.size
  have HO2 := hide hown
  have x8 := (X0.out.below Z2.out (by omega)).cell 8
  simp at x8
  rw [HA.out] at x8
  clear hown hg hat y0 y1 y2 y3 y4 y5 HOa HSa B1a Z1a B1 Z1 HO1 Y1
  have HSC := hide (HSB.out.below (Z2.out.mono (by omega)))
  by_cases hkc : s.iuc = i + 1
  · have hd := (HSC.out.drop (i := i + 1) (by omega) (by omega)).1 hkc
    rw [show s.iuc - (i + 1) = 0 by omega] at hd
    have HD := hide hd
    clear hd
    go_wp2_with (at_builtin; go_must (refine wpList_append_sl _ rfl _ _ 74 rfl (w.heap.size + 3) 122 i0 _ 48 Tryz.underlying74 HI.out.1 HI.out.2.1 HI.out.2.2.1 HI.out.2.2.2 rfl (by decide) iuE_len iuE_one _ _ _ rfl HO2.out _ _ _ rfl HD.out (by unfold maxLen; omega) (by omega) (by first | omega | (simp; omega)) ?_))
    intro v3 w3 hown hg hat
    clear hkc
    have B3 := hide (B2.out.grown hg (by omega) (by intro q hq; have := (HO2.out.lt q hq).1; omega))
    have Z3 := hide (Z2.out.grown hg (by omega) (by intro q hq; exact (HO2.out.lt q hq).1))
    have R3 := hide (R0.out.below Z3.out (by omega))
    have X3 := hide (X0.out.below Z3.out (by omega))
    have hl : (s.iu.set i x).length = s.iun := by rw [List.length_set]; omega
    have ho : Iuo w3 (w.heap.size + 3) v3 (s.iu.set i x) := by
      unfold Iuo; rw [hl, HST.out]
      have := hown
      simpa [List.flatMap_append, List.flatMap_cons, List.append_assoc] using this
    have HO3 := hide ho
    obtain ⟨A3, c3, hv3, _⟩ := Iuo_sl ho (by rw [hl]; omega)
    subst hv3
    have HWT := hide (fun W => rwithS_any s A3 (s.iu.set i x).length c3 (s.iu.set i x) W)
    obtain ⟨m, hm⟩ : ∃ m, (s.iu.set i x).length = m := ⟨_, rfl⟩
    rw [hm] at HWT
    have HM := hide (show m = s.iun by rw [← hm, List.length_set]; exact HLEN.out)
    have hmm := hide hm
    rw [hm]
    unfold seV at HWT
    have x0 := X3.out.cell 0
    have x1 := X3.out.cell 1
    have x2 := X3.out.cell 2
    have x3 := X3.out.cell 3
    have x4 := X3.out.cell 4
    have x5 := X3.out.cell 5
    have x6 := X3.out.cell 6
    have x7 := X3.out.cell 7
    have x8 := X3.out.cell 8
    simp at x0 x1 x2 x3 x4 x5 x6 x7 x8
    clear hown hg hat ho hl B2 Z2 HO2 HD hm
    go_wp2_with fail
    refine (HWT.out _).mono ?_
    rintro e w4 ⟨rfl, hb⟩
    have B4 := hide (B3.out.trans (hb.mono B3.out.size))
    have R4 := hide (R3.out.below hb R3.out.lt)
    have HO4 := hide (own_bel HO3.out hb)
    clear hb HWT x0 x1 x2 x3 x4 x5 x6 x7 x8 B3 R3 X3
    have r0 := R4.out.cell 0
    have r1 := R4.out.cell 1
    have r2 := R4.out.cell 2
    have r3 := R4.out.cell 3
    have r4 := R4.out.cell 4
    have r5 := R4.out.cell 5
    have r6 := R4.out.cell 6
    have r7 := R4.out.cell 7
    have r8 := R4.out.cell 8
    simp [se0] at r0 r1 r2 r3 r4 r5 r6 r7 r8
    have fr := fun j => R4.out.frz j
    go_wp2
    refine bodyPost_ret (v := seV { s with nx := (m : Int), iuA := A3, iun := m, iuc := c3, iu := s.iu.set i x }) (by simp [results, Tryz.results146, go_sem, r0, r1, r2, r3, r4, r5, r6, r7, r8, seV]) rfl ?_
    have hB := below_se B4.out (show w.heap.size ≤ w.heap.size + 1 + 1 by omega) (.int .i64 s.rcd) (.int .i64 s.start) (.int .i64 s.every) (.int .i64 s.pv) (.int .i64 s.fv) (.slice s.skA s.skn s.skc) (.slice s.dbA s.dbn s.dbc) (.int .i64 m) (.slice A3 m c3)
    have h9 : Iuo (((((((((w4.setCell ⟨w.heap.size + 1 + 1, 0, none⟩ (.int .i64 s.rcd)).setCell ⟨w.heap.size + 1 + 1, 1, none⟩ (.int .i64 s.start)).setCell ⟨w.heap.size + 1 + 1, 2, none⟩ (.int .i64 s.every)).setCell ⟨w.heap.size + 1 + 1, 3, none⟩ (.int .i64 s.pv)).setCell ⟨w.heap.size + 1 + 1, 4, none⟩ (.int .i64 s.fv)).setCell ⟨w.heap.size + 1 + 1, 5, none⟩ (.slice s.skA s.skn s.skc)).setCell ⟨w.heap.size + 1 + 1, 6, none⟩ (.slice s.dbA s.dbn s.dbc)).setCell ⟨w.heap.size + 1 + 1, 7, none⟩ (.int .i64 m)).setCell ⟨w.heap.size + 1 + 1, 8, none⟩ (.slice A3 m c3)) (w.heap.size + 3) (.slice A3 m c3) (s.iu.set i x) := by
      have h := HO4.out
      unfold Iuo at h ⊢
      rw [hmm.out] at h ⊢
      (iterate 9 (refine own_setp ?_ (by show w.heap.size + 1 + 1 < _; omega) _))
      exact h
    exact ⟨A3, m, c3, HM.out, rfl, own_base h9 (by omega), hB⟩
  · have HD := hide ((HSC.out.drop (i := i + 1) (by omega) (by omega)).2 hkc)
    go_wp2_with (at_builtin; go_must (refine wpList_append_sl _ rfl _ _ 74 rfl (w.heap.size + 3) 122 i0 _ 48 Tryz.underlying74 HI.out.1 HI.out.2.1 HI.out.2.2.1 HI.out.2.2.2 rfl (by decide) iuE_len iuE_one _ _ _ rfl HO2.out _ _ _ rfl HD.out (by unfold maxLen; omega) (by omega) (by first | omega | (simp; omega)) ?_))
    intro v3 w3 hown hg hat
    clear hkc
    have B3 := hide (B2.out.grown hg (by omega) (by intro q hq; have := (HO2.out.lt q hq).1; omega))
    have Z3 := hide (Z2.out.grown hg (by omega) (by intro q hq; exact (HO2.out.lt q hq).1))
    have R3 := hide (R0.out.below Z3.out (by omega))
    have X3 := hide (X0.out.below Z3.out (by omega))
    have hl : (s.iu.set i x).length = s.iun := by rw [List.length_set]; omega
    have ho : Iuo w3 (w.heap.size + 3) v3 (s.iu.set i x) := by
      unfold Iuo; rw [hl, HST.out]
      have := hown
      simpa [List.flatMap_append, List.flatMap_cons, List.append_assoc] using this
    have HO3 := hide ho
    obtain ⟨A3, c3, hv3, _⟩ := Iuo_sl ho (by rw [hl]; omega)
    subst hv3
    have HWT := hide (fun W => rwithS_any s A3 (s.iu.set i x).length c3 (s.iu.set i x) W)
    obtain ⟨m, hm⟩ : ∃ m, (s.iu.set i x).length = m := ⟨_, rfl⟩
    rw [hm] at HWT
    have HM := hide (show m = s.iun by rw [← hm, List.length_set]; exact HLEN.out)
    have hmm := hide hm
    rw [hm]
    unfold seV at HWT
    have x0 := X3.out.cell 0
    have x1 := X3.out.cell 1
    have x2 := X3.out.cell 2
    have x3 := X3.out.cell 3
    have x4 := X3.out.cell 4
    have x5 := X3.out.cell 5
    have x6 := X3.out.cell 6
    have x7 := X3.out.cell 7
    have x8 := X3.out.cell 8
    simp at x0 x1 x2 x3 x4 x5 x6 x7 x8
    clear hown hg hat ho hl B2 Z2 HO2 HD hm
    go_wp2_with fail
    refine (HWT.out _).mono ?_
    rintro e w4 ⟨rfl, hb⟩
    have B4 := hide (B3.out.trans (hb.mono B3.out.size))
    have R4 := hide (R3.out.below hb R3.out.lt)
    have HO4 := hide (own_bel HO3.out hb)
    clear hb HWT x0 x1 x2 x3 x4 x5 x6 x7 x8 B3 R3 X3
    have r0 := R4.out.cell 0
    have r1 := R4.out.cell 1
    have r2 := R4.out.cell 2
    have r3 := R4.out.cell 3
    have r4 := R4.out.cell 4
    have r5 := R4.out.cell 5
    have r6 := R4.out.cell 6
    have r7 := R4.out.cell 7
    have r8 := R4.out.cell 8
    simp [se0] at r0 r1 r2 r3 r4 r5 r6 r7 r8
    have fr := fun j => R4.out.frz j
    go_wp2
    refine bodyPost_ret (v := seV { s with nx := (m : Int), iuA := A3, iun := m, iuc := c3, iu := s.iu.set i x }) (by simp [results, Tryz.results146, go_sem, r0, r1, r2, r3, r4, r5, r6, r7, r8, seV]) rfl ?_
    have hB := below_se B4.out (show w.heap.size ≤ w.heap.size + 1 + 1 by omega) (.int .i64 s.rcd) (.int .i64 s.start) (.int .i64 s.every) (.int .i64 s.pv) (.int .i64 s.fv) (.slice s.skA s.skn s.skc) (.slice s.dbA s.dbn s.dbc) (.int .i64 m) (.slice A3 m c3)
    have h9 : Iuo (((((((((w4.setCell ⟨w.heap.size + 1 + 1, 0, none⟩ (.int .i64 s.rcd)).setCell ⟨w.heap.size + 1 + 1, 1, none⟩ (.int .i64 s.start)).setCell ⟨w.heap.size + 1 + 1, 2, none⟩ (.int .i64 s.every)).setCell ⟨w.heap.size + 1 + 1, 3, none⟩ (.int .i64 s.pv)).setCell ⟨w.heap.size + 1 + 1, 4, none⟩ (.int .i64 s.fv)).setCell ⟨w.heap.size + 1 + 1, 5, none⟩ (.slice s.skA s.skn s.skc)).setCell ⟨w.heap.size + 1 + 1, 6, none⟩ (.slice s.dbA s.dbn s.dbc)).setCell ⟨w.heap.size + 1 + 1, 7, none⟩ (.int .i64 m)).setCell ⟨w.heap.size + 1 + 1, 8, none⟩ (.slice A3 m c3)) (w.heap.size + 3) (.slice A3 m c3) (s.iu.set i x) := by
      have h := HO4.out
      unfold Iuo at h ⊢
      rw [hmm.out] at h ⊢
      (iterate 9 (refine own_setp ?_ (by show w.heap.size + 1 + 1 < _; omega) _))
      exact h
    exact ⟨A3, m, c3, HM.out, rfl, own_base h9 (by omega), hB⟩
end Go.Proofs.YtbhndfphegflhaaGreat
