/- Texts laid together by merge.py: PtPlain, ShKit, OdKit, OdPlain, OdA, OdB. -/
import Derived.Test.YtbhndfphegflhaaGreatMrg0
import Derived.Test.YtbhndfphegflhaaGreatMrg3
import Derived.Test.YtbhndfphegflhaaGreatProg
import Derived.Shelf.Abstract
import Derived.Deep.QuietTactic
import Derived.BigQuiet
set_option linter.unusedSimpArgs false
set_option linter.unusedVariables false
/- Patterns of serials as plain data; what the pattern package and its reference compute. No walk. -/
namespace Go.Proofs.YtbhndfphegflhaaGreat

/-- Does a number occur in a list? -/
def inL (xs : List Int) (v : Int) : Bool := xs.contains v
structure Pt where
  start : Int
  every : Int
  pv : Int
  fv : Int
  skA : Option Addr
  skn : Nat
  skc : Nat
  sk : List Int
  dbA : Option Addr
  dbn : Nat
  dbc : Nat
  db : List Int
/-! ### the month of a day -/
def yrI (day : Int) : Nat := ((List.range 300).find? (fun k => decide (day < ny (k + 1)))).getD 0
def moI (day : Int) : Nat := ((List.range 12).find? (fun (i : Nat) => decide (day - ny (yrI day) < bef (1900 + (yrI day : Int)) ((i : Int) + 2)))).getD 0
def mthF (day : Int) : Int := (moI day : Int) + 1
theorem find_range {n i : Nat} {p : Nat → Bool} (hi : i < n) (hp : p i = true) (hb : ∀ j, j < i → p j = false) : (List.range n).find? p = some i := by
  rw [List.find?_eq_some_iff_append]
  refine ⟨hp, List.range i, (List.range (n - i - 1)).map (fun j => i + 1 + j), ?_, fun j hj => ?_⟩
  · have h1 : List.range n = List.range (i + (1 + (n - i - 1))) := by congr 1; omega
    rw [h1, List.range_add, List.range_add]
    simp
    intro a _
    omega
  · rw [hb j (List.mem_range.1 hj)]; rfl
theorem yrI_of {day y m d : Int} (h : PartsOf day y m d) : yrI day = (y - 1900).toNat := by
  unfold yrI
  have hy : 1900 + (((y - 1900).toNat : Nat) : Int) = y := by have := h.y1; omega
  have hs : ny ((y - 1900).toNat + 1) = ny (y - 1900).toNat + 365 + lpn y := by rw [ny, hy]
  rw [find_range (i := (y - 1900).toNat) (by have := h.y1; have := h.y2; omega) (by rw [hs]; simpa using h.yu) (fun j hj => by
    have h1 := ny_mono (a := j + 1) (b := (y - 1900).toNat) (by omega)
    have h2 := h.yl
    simp; omega)]
  rfl
theorem mthF_of {day y m d : Int} (h : PartsOf day y m d) : mthF day = m := by
  unfold mthF moI
  have hy : 1900 + (((y - 1900).toNat : Nat) : Int) = y := by have := h.y1; omega
  rw [yrI_of h, hy]
  rw [find_range (i := (m - 1).toNat) (by have := h.m1; have := h.m2; omega) (by
    have e : (((m - 1).toNat : Nat) : Int) + 2 = m + 1 := by have := h.m1; omega
    rw [e]; simpa using h.mu) (fun j hj => by
    have h1 := bef_mono h.y1 h.y2 (m := (j : Int) + 2) (m' := m) (by omega) (by omega) (by have := h.m2; omega)
    have h2 := h.ml
    simp; omega)]
  simp
  have := h.m1
  omega
/-- The day n months later, and the error. -/
def monF (day n : Int) : Int × Int := monR (1900 + (yrI day : Int)) (mthF day) (day - ny (yrI day) - bef (1900 + (yrI day : Int)) (mthF day) + 1) n
theorem monF_of {day y m d : Int} (h : PartsOf day y m d) (n : Int) : monF day n = monR y m d n := by
  unfold monF
  have hy : 1900 + (((y - 1900).toNat : Nat) : Int) = y := by have := h.y1; omega
  rw [mthF_of h, yrI_of h, hy, ← h.d]

/-! ### nominal days -/
def stp (e : Int) : Int := if e = 3 then 3 else if e = 4 then 12 else 1
/-- The numbers of a valid pattern. -/
structure PtM (p : Pt) : Prop where
  start : 0 ≤ p.start ∧ p.start ≤ 109572
  every : 1 ≤ p.every ∧ p.every ≤ 4
  pv : 1 ≤ p.pv ∧ p.pv ≤ 366
  fv : 1 ≤ p.fv ∧ p.fv ≤ 9999
def nomF (p : Pt) (k : Nat) : Option Int :=
  if p.every = 1 then (if p.start + 7 * (k : Int) ≤ 109572 then some (p.start + 7 * (k : Int)) else none)
  else if (monF p.start (stp p.every * (k : Int))).2 = 0 then some (monF p.start (stp p.every * (k : Int))).1 else none
theorem ofR_cases (y m d : Int) : (ofR y m d = (0, 2)) ∨ (1 ≤ d ∧ d ≤ ml y m ∧ (ofR y m d).2 = 0) := by
  unfold ofR
  by_cases h : d < 1 ∨ ml y m < d
  · rw [if_pos h]; exact .inl rfl
  · rw [if_neg h]; exact .inr ⟨by omega, by omega, rfl⟩
theorem monR_day {y m d n : Int} (h0 : (monR y m d n).2 = 0) : 0 ≤ (monR y m d n).1 ∧ (monR y m d n).1 ≤ 109572 := by
  unfold monR at h0 ⊢
  split at h0
  · cases h0
  · rename_i hk
    rw [if_neg hk]
    generalize hq : 1900 + ((y - 1900) * 12 + m - 1 + n) / 12 = Y at h0 ⊢
    generalize hr : ((y - 1900) * 12 + m - 1 + n) % 12 + 1 = M at h0 ⊢
    generalize min d (ml Y M) = D at h0 ⊢
    have hY : 1900 ≤ Y ∧ Y ≤ 2199 := by omega
    have hM : 1 ≤ M ∧ M ≤ 12 := by omega
    rcases ofR_cases Y M D with h | ⟨h1, h2, _⟩
    · rw [h] at h0; cases h0
    · unfold ofR
      rw [if_neg (by omega)]
      have h3 := bef_mono hY.1 hY.2 (m := 1) (m' := M) (by omega) hM.1 (by omega)
      rw [bef_1] at h3
      have h4 := bef_mono hY.1 hY.2 (m := M + 1) (m' := 13) (by omega) (by omega) (by omega)
      rw [bef_13, bef_step hY.1 hY.2 hM.1 hM.2] at h4
      have h5 := ny_bound (Y - 1900).toNat
      have h6 := ny_mono (a := (Y - 1900).toNat + 1) (b := 300) (by omega)
      rw [ny_300, ny] at h6
      have e : 1900 + (((Y - 1900).toNat : Nat) : Int) = Y := by omega
      rw [e] at h6
      constructor
      · simp only; omega
      · simp only; omega
theorem nomF_day {p : Pt} (hp : PtM p) {k : Nat} {d : Int} (h : nomF p k = some d) : 0 ≤ d ∧ d ≤ 109572 ∧ k < 16000 := by
  have hs := hp.start
  unfold nomF at h
  split at h
  · split at h
    · cases h; omega
    · cases h
  · split at h
    · rename_i h1 h2
      cases h
      have h3 := monR_day h2
      refine ⟨h3.1, h3.2, ?_⟩
      -- so many months lie in no year that there is
      rcases Nat.lt_or_ge k 16000 with hk | hk
      · exact hk
      · exfalso
        have hst : 1 ≤ stp p.every := by unfold stp; split <;> (try split) <;> omega
        have h4 : (16000 : Int) ≤ stp p.every * (k : Int) := by
          have := Int.mul_le_mul hst (show (16000 : Int) ≤ (k : Int) by omega) (by omega) (by omega)
          omega
        unfold monF monR at h2
        have hy0 : (0 : Int) ≤ (yrI p.start : Int) := by omega
        have hm0 : 1 ≤ mthF p.start := by unfold mthF; omega
        rw [if_pos (Or.inr (by omega))] at h2
        cases h2
    · cases h
/-- From k on the first nominal day that exists, and its number; -1 where there is none. -/
def folN (p : Pt) : Nat → Nat → Int × Nat
  | 0, k => (-1, k)
  | n + 1, k => match nomF p k with
    | none => (-1, k)
    | some d => if inL p.sk (mthF d) = true then folN p n (k + 1) else (d, k)
def fol (p : Pt) (k : Nat) : Int × Nat := folN p (16001 - k) k
theorem fol_none {p : Pt} {k : Nat} (h : nomF p k = none) : fol p k = (-1, k) := by
  unfold fol
  cases hn : 16001 - k with
  | zero => rfl
  | succ n => rw [folN, h]
theorem fol_skip {p : Pt} (hp : PtM p) {k : Nat} {d : Int} (h : nomF p k = some d) (hs : inL p.sk (mthF d) = true) : fol p k = fol p (k + 1) := by
  have hk := (nomF_day hp h).2.2
  unfold fol
  rw [show 16001 - k = (16001 - (k + 1)) + 1 by omega, folN, h]
  simp only
  rw [if_pos hs]
theorem fol_hit {p : Pt} (hp : PtM p) {k : Nat} {d : Int} (h : nomF p k = some d) (hs : inL p.sk (mthF d) = false) : fol p k = (d, k) := by
  have hk := (nomF_day hp h).2.2
  unfold fol
  rw [show 16001 - k = (16001 - (k + 1)) + 1 by omega, folN, h]
  simp only
  rw [hs, if_neg (by simp)]
theorem fol_bound {p : Pt} (hp : PtM p) : ∀ (n k : Nat), 16001 - k = n → k ≤ 16001 → ((fol p k).1 = -1 ∨ (0 ≤ (fol p k).1 ∧ (fol p k).1 ≤ 109572 ∧ (fol p k).2 < 16000)) ∧ k ≤ (fol p k).2 ∧ (fol p k).2 ≤ 16001 := by
  intro n
  induction n with
  | zero =>
    intro k hk hk2
    have hn : nomF p k = none := by
      cases h : nomF p k with
      | none => rfl
      | some d => have := (nomF_day hp h).2.2; omega
    rw [fol_none hn]
    exact ⟨.inl rfl, Nat.le_refl _, hk2⟩
  | succ n ih =>
    intro k hk hk2
    cases h : nomF p k with
    | none => rw [fol_none h]; exact ⟨.inl rfl, Nat.le_refl _, hk2⟩
    | some d =>
      have hd := nomF_day hp h
      cases hs : inL p.sk (mthF d) with
      | true =>
        rw [fol_skip hp h hs]
        have := ih (k + 1) (by omega) (by omega)
        exact ⟨this.1, by omega, this.2.2⟩
      | false => rw [fol_hit hp h hs]; exact ⟨.inr ⟨hd.1, hd.2.1, hd.2.2⟩, Nat.le_refl _, hk2⟩
theorem fol_b {p : Pt} (hp : PtM p) {k : Nat} (hk : k ≤ 16001) : ((fol p k).1 = -1 ∨ (0 ≤ (fol p k).1 ∧ (fol p k).1 ≤ 109572 ∧ (fol p k).2 < 16000)) ∧ k ≤ (fol p k).2 ∧ (fol p k).2 ≤ 16001 := fol_bound hp _ k rfl hk

/-! ### issues -/
structure Ps where
  vol : Int
  num : Int
  d : Int
  k : Nat
def ps0 (p : Pt) : Ps := ⟨p.fv, 1, (fol p 0).1, (fol p 0).2⟩
/-- Is the issue a double one? -/
def dblB (p : Pt) (s : Ps) : Bool := inL p.db (mthF s.d) && decide (0 ≤ (fol p (s.k + 1)).1) && decide (s.num < p.pv)
def isuX (p : Pt) (s : Ps) : Iu := ⟨s.vol, s.num, if dblB p s = true then s.num + 1 else 0, s.d, 1, 0⟩
def nxtN (p : Pt) (s : Ps) : Int := (if dblB p s = true then s.num + 1 else s.num) + 1
def nxtF (p : Pt) (s : Ps) : Int × Nat := if dblB p s = true then fol p ((fol p (s.k + 1)).2 + 1) else fol p (s.k + 1)
def psS (p : Pt) (s : Ps) : Ps := ⟨if p.pv < nxtN p s then s.vol + 1 else s.vol, if p.pv < nxtN p s then 1 else nxtN p s, (nxtF p s).1, (nxtF p s).2⟩
/-- The first n issues, up to a day. -/
def isL (p : Pt) (until_ : Int) : Nat → Ps → List Iu
  | 0, _ => []
  | n + 1, s => if 0 ≤ s.d ∧ s.d ≤ until_ ∧ s.vol ≤ 9999 then isuX p s :: isL p until_ n (psS p s) else []
theorem isL_len (p : Pt) (u : Int) : ∀ (n : Nat) (s : Ps), (isL p u n s).length ≤ n
  | 0, s => by simp [isL]
  | n + 1, s => by
    rw [isL]
    split
    · rw [List.length_cons]; have := isL_len p u n (psS p s); omega
    · simp
/-- What a state of the loop is like. -/
structure PsM (p : Pt) (s : Ps) : Prop where
  vol : 1 ≤ s.vol ∧ s.vol ≤ 10000
  num : 1 ≤ s.num ∧ s.num ≤ p.pv
  d : s.d = -1 ∨ (0 ≤ s.d ∧ s.d ≤ 109572 ∧ s.k < 16000)
  k : s.k ≤ 16001
theorem ps0_M {p : Pt} (hp : PtM p) : PsM p (ps0 p) := by
  have h := fol_b hp (k := 0) (by omega)
  have := hp.fv
  have := hp.pv
  exact ⟨by unfold ps0; simp only; omega, by unfold ps0; simp only; omega, h.1, h.2.2⟩
theorem psS_M {p : Pt} (hp : PtM p) {s : Ps} (h : PsM p s) (hd : 0 ≤ s.d) (hv : s.vol ≤ 9999) : PsM p (psS p s) := by
  have h1 := h.vol
  have h2 := h.num
  have hk : s.k < 16000 := by rcases h.d with e | e <;> omega
  have hpv := hp.pv
  have f1 := fol_b hp (k := s.k + 1) (by omega)
  have hdb : dblB p s = true → 0 ≤ (fol p (s.k + 1)).1 ∧ s.num < p.pv := by
    intro hb
    unfold dblB at hb
    rw [Bool.and_eq_true, Bool.and_eq_true, decide_eq_true_eq, decide_eq_true_eq] at hb
    exact ⟨hb.1.2, hb.2⟩
  refine ⟨?_, ?_, ?_, ?_⟩
  · unfold psS; simp only; split <;> omega
  · unfold psS; simp only
    split
    · omega
    · rename_i hq
      unfold nxtN at hq ⊢
      cases hb : dblB p s with
      | true => rw [hb] at hq; have := hdb hb; simp at hq ⊢; omega
      | false => rw [hb] at hq; simp at hq ⊢; omega
  · unfold psS nxtF; simp only
    cases hb : dblB p s with
    | true =>
      rw [if_pos rfl]
      have := hdb hb
      exact (fol_b hp (k := (fol p (s.k + 1)).2 + 1) (by rcases f1.1 with e | e <;> omega)).1
    | false => rw [if_neg (by simp)]; exact f1.1
  · unfold psS nxtF; simp only
    cases hb : dblB p s with
    | true =>
      rw [if_pos rfl]
      have := hdb hb
      exact (fol_b hp (k := (fol p (s.k + 1)).2 + 1) (by rcases f1.1 with e | e <;> omega)).2.2
    | false => rw [if_neg (by simp)]; exact f1.2.2

/-! ### a pattern's error -/
/-- The first error of a list of months. -/
def monErr (l : List Int) : Int := if l.any (fun m => decide (m < 1) || decide (12 < m)) = true then 2 else if (List.range (l.length - 1)).any (fun i => decide (l.getD (i + 1) 0 ≤ l.getD i 0)) = true then 7 else 0
def ptBad1 (p : Pt) : Bool := decide (p.start < 0) || decide (109572 < p.start) || decide (p.pv < 1) || decide (366 < p.pv) || decide (p.fv < 1) || decide (9999 < p.fv)
def ptBad2 (p : Pt) : Bool := decide (p.every < 1) || decide (4 < p.every)
def ptBad3 (p : Pt) : Bool := (p.sk.length == 12) || (decide (0 < p.sk.length) && decide (3 ≤ p.every)) || (decide (0 < p.db.length) && (p.every != 2))
def ptBad4 (p : Pt) : Bool := p.db.any (fun m => inL p.sk m)
def ptErr (p : Pt) : Int := if ptBad1 p = true then 2 else if ptBad2 p = true then 1 else if (monErr p.sk != 0) = true then monErr p.sk else if (monErr p.db != 0) = true then monErr p.db else if ptBad3 p = true then 1 else if ptBad4 p = true then 1 else 0
theorem ptErr_M {p : Pt} (h : ptErr p = 0) : PtM p := by
  unfold ptErr at h
  split at h
  · cases h
  · rename_i h1
    split at h
    · cases h
    · rename_i h2
      unfold ptBad1 at h1
      unfold ptBad2 at h2
      simp at h1 h2
      exact ⟨by omega, by omega, by omega, by omega⟩
end Go.Proofs.YtbhndfphegflhaaGreat

/- library/api.Share as plain data; a slice of them; '=='; IndexFunc; Clone. Printed by gen_kit.py. -/
namespace Go.Proofs.YtbhndfphegflhaaGreat
open Go.RowKit

structure Sh where
  fund : Int
  weight : Int
  deriving DecidableEq

def shE (x : Sh) : List Value := [.int .i64 x.fund, .int .i64 x.weight]
def shV (x : Sh) : Value := .agg #[.int .i64 x.fund, .int .i64 x.weight]
abbrev shC (x : Sh) : Array Value := #[.int .i64 x.fund, .int .i64 x.weight]
theorem shE_len (x : Sh) : (shE x).length = 2 := rfl
abbrev Shs (w : World) (B : Nat) (A : Option Addr) (n c : Nat) (xs : List Sh) : Prop := Sl shE 2 w B A n c xs
theorem sh_cells {w : World} {b o : Nat} {x : Sh} (h : ∀ j u, (shE x)[j]? = some u → w.cell? ⟨b, o + j, none⟩ = some u) :
    w.cell? ⟨b, o, none⟩ = some (.int .i64 x.fund) ∧ w.cell? ⟨b, o + 1, none⟩ = some (.int .i64 x.weight) :=
  ⟨h 0 _ rfl, h 1 _ rfl⟩
theorem Shs_at {w : World} {B : Nat} {A : Option Addr} {n c : Nat} {xs : List Sh} (h : Shs w B A n c xs) {k : Nat} (hk : k < n) :
    ∃ b off x, A = some ⟨b, off, none⟩ ∧ b < B ∧ xs[k]? = some x ∧
     w.cell? ⟨b, off + k * 2, none⟩ = some (.int .i64 x.fund) ∧ w.cell? ⟨b, off + k * 2 + 1, none⟩ = some (.int .i64 x.weight) := by
  obtain ⟨b, off, x, hA, hb, hx, hc⟩ := h.at_ hk
  exact ⟨b, off, x, hA, hb, hx, sh_cells hc⟩
theorem sh_struct : Tryz.prog.underlying 86 = some (.struct (Tryz.prog.fieldsOf 86)) := by kernel_rfl
/-- slices.IndexFunc: whatever predicate that lays only blocks of its own. -/
theorem sh_indexFunc (g : Nat) (lb : Array Value) (p : Sh → Bool) (eg : ∀ args w, (callFunc g args).run Tryz.prog w = .ok (.enter g args) w)
    (A : Option Addr) (n c : Nat) (xs : List Sh) (w : World) (hs : Shs w w.heap.size A n c xs)
    (hp : ∀ W x, x ∈ xs → Below w.heap.size w W → Calls Tryz.prog g (#[shV x] ++ lb) W fun e w' => e = .returned (.bool (p x)) ∧ Below W.heap.size W w') :
    Calls Tryz.prog 204 #[.slice A n c, .func (.func g) #[] lb] w fun e w' => e = .returned (.int .i64 (ix p xs)) ∧ Below w.heap.size w w' := by
  have hle := hs.le
  have hbig := hs.big
  have HP := hide hp
  clear hp
  go_enter Tryz.func204, Tryz.ntmps204
  go_wp2
  go_loopw [5, 8] (fun _ s8 wr => ∃ k : Nat, k ≤ n ∧ s8 = .int .i64 k ∧ Below w.heap.size w wr ∧ ix p xs = idxP p (xs.drop k) k) (fun _ s8 _ => n - (intOf s8).toNat)
  case atStart => exact ⟨0, Nat.zero_le _, rfl, Below.refl _ _, rfl⟩
  case round =>
    obtain ⟨k, hk, rfl, hb, ha⟩ := hrel
    have HA := hide ha
    have HB := hide hb
    clear ha hb
    by_cases hlt : k < n
    · obtain ⟨b, off, x, rfl, hbB, hx, c0, c1⟩ := Shs_at (hs.below HB.out) hlt
      have HX := hide (idxP_step (p := p) hx)
      have hcall := HP.out wr x (List.mem_of_getElem? hx) HB.out
      have HS := hide hs
      clear hx hs
      unfold shV at hcall
      generalize hq : p x = q at hcall
      have HQ := hide hq
      clear hq
      cases q with
      | true =>
        go_wp2_with (go_at_fn g; refine hcall.mono ?_; rintro e w' ⟨rfl, hb'⟩)
        go_ret
        exact ⟨ret_int (by rw [HA.out, HX.out, if_pos HQ.out]), HB.out.trans (hb'.mono HB.out.size)⟩
      | false =>
        go_wp2_with (go_at_fn g; refine hcall.mono ?_; rintro e w' ⟨rfl, hb'⟩)
        go_roundw
        case rel => exact ⟨k + 1, by omega, by go_num, HB.out.trans (hb'.mono HB.out.size), by rw [HA.out, HX.out, if_neg (by rw [HQ.out]; decide)]⟩
        case measure => simp [intOf]; omega
    · go_wp2
      go_ret
      exact ⟨ret_int (by rw [HA.out, idxP_end (by have := hs.len; omega)]), HB.out⟩
theorem sh_containsFunc (g : Nat) (lb : Array Value) (p : Sh → Bool) (eg : ∀ args w, (callFunc g args).run Tryz.prog w = .ok (.enter g args) w)
    (A : Option Addr) (n c : Nat) (xs : List Sh) (w : World) (hs : Shs w w.heap.size A n c xs)
    (hp : ∀ W x, x ∈ xs → Below w.heap.size w W → Calls Tryz.prog g (#[shV x] ++ lb) W fun e w' => e = .returned (.bool (p x)) ∧ Below W.heap.size W w') :
    Calls Tryz.prog 197 #[.slice A n c, .func (.func g) #[] lb] w fun e w' => e = .returned (.bool (decide (0 ≤ ix p xs))) ∧ Below w.heap.size w w' := by
  have HP := hide hp
  have HS := hide hs
  clear hp hs
  go_enter Tryz.func197, Tryz.ntmps197
  go_wp2_with (go_at_call 204; refine (sh_indexFunc g lb p eg A n c xs _ HS.out HP.out).mono ?_; rintro e w' ⟨rfl, hb'⟩)
  go_ret
  exact ⟨rfl, hb'⟩

end Go.Proofs.YtbhndfphegflhaaGreat

/- library/api.Order as plain data; a slice of them; '=='; IndexFunc; Clone. Printed by gen_kit.py. -/
namespace Go.Proofs.YtbhndfphegflhaaGreat
open Go.RowKit

structure Od where
  id : Int
  rcd : Int
  ven : Int
  cop : Int
  pri : Int
  rcv : Int
  bil : Int
  paid : Int
  st : Int
  shA : Option Addr
  shn : Nat
  shc : Nat
  sh : List Sh

def odE (x : Od) : List Value := [.int .i64 x.id, .int .i64 x.rcd, .int .i64 x.ven, .int .i64 x.cop, .int .i64 x.pri, .int .i64 x.rcv, .int .i64 x.bil, .int .i64 x.paid, .int .i64 x.st, .slice x.shA x.shn x.shc]
def odV (x : Od) : Value := .agg #[.int .i64 x.id, .int .i64 x.rcd, .int .i64 x.ven, .int .i64 x.cop, .int .i64 x.pri, .int .i64 x.rcv, .int .i64 x.bil, .int .i64 x.paid, .int .i64 x.st, .slice x.shA x.shn x.shc]
abbrev odC (x : Od) : Array Value := #[.int .i64 x.id, .int .i64 x.rcd, .int .i64 x.ven, .int .i64 x.cop, .int .i64 x.pri, .int .i64 x.rcv, .int .i64 x.bil, .int .i64 x.paid, .int .i64 x.st, .slice x.shA x.shn x.shc]
def od0 : Od := ⟨0, 0, 0, 0, 0, 0, 0, 0, 0, none, 0, 0, []⟩
theorem odE_len (x : Od) : (odE x).length = 10 := rfl
theorem odE_one (x : Od) : ∀ u ∈ odE x, u.oneCell' = true := by
  intro u hu; simp only [odE, List.mem_cons, List.not_mem_nil, or_false] at hu
  rcases hu with rfl | rfl | rfl | rfl | rfl | rfl | rfl | rfl | rfl | rfl <;> rfl
abbrev Ods (w : World) (B : Nat) (A : Option Addr) (n c : Nat) (xs : List Od) : Prop := Sl odE 10 w B A n c xs
theorem od_cells {w : World} {b o : Nat} {x : Od} (h : ∀ j u, (odE x)[j]? = some u → w.cell? ⟨b, o + j, none⟩ = some u) :
    w.cell? ⟨b, o, none⟩ = some (.int .i64 x.id) ∧ w.cell? ⟨b, o + 1, none⟩ = some (.int .i64 x.rcd) ∧ w.cell? ⟨b, o + 2, none⟩ = some (.int .i64 x.ven) ∧ w.cell? ⟨b, o + 3, none⟩ = some (.int .i64 x.cop) ∧ w.cell? ⟨b, o + 4, none⟩ = some (.int .i64 x.pri) ∧ w.cell? ⟨b, o + 5, none⟩ = some (.int .i64 x.rcv) ∧ w.cell? ⟨b, o + 6, none⟩ = some (.int .i64 x.bil) ∧ w.cell? ⟨b, o + 7, none⟩ = some (.int .i64 x.paid) ∧ w.cell? ⟨b, o + 8, none⟩ = some (.int .i64 x.st) ∧ w.cell? ⟨b, o + 9, none⟩ = some (.slice x.shA x.shn x.shc) :=
  ⟨h 0 _ rfl, h 1 _ rfl, h 2 _ rfl, h 3 _ rfl, h 4 _ rfl, h 5 _ rfl, h 6 _ rfl, h 7 _ rfl, h 8 _ rfl, h 9 _ rfl⟩
theorem Ods_at {w : World} {B : Nat} {A : Option Addr} {n c : Nat} {xs : List Od} (h : Ods w B A n c xs) {k : Nat} (hk : k < n) :
    ∃ b off x, A = some ⟨b, off, none⟩ ∧ b < B ∧ xs[k]? = some x ∧
     w.cell? ⟨b, off + k * 10, none⟩ = some (.int .i64 x.id) ∧ w.cell? ⟨b, off + k * 10 + 1, none⟩ = some (.int .i64 x.rcd) ∧ w.cell? ⟨b, off + k * 10 + 2, none⟩ = some (.int .i64 x.ven) ∧ w.cell? ⟨b, off + k * 10 + 3, none⟩ = some (.int .i64 x.cop) ∧ w.cell? ⟨b, off + k * 10 + 4, none⟩ = some (.int .i64 x.pri) ∧ w.cell? ⟨b, off + k * 10 + 5, none⟩ = some (.int .i64 x.rcv) ∧ w.cell? ⟨b, off + k * 10 + 6, none⟩ = some (.int .i64 x.bil) ∧ w.cell? ⟨b, off + k * 10 + 7, none⟩ = some (.int .i64 x.paid) ∧ w.cell? ⟨b, off + k * 10 + 8, none⟩ = some (.int .i64 x.st) ∧ w.cell? ⟨b, off + k * 10 + 9, none⟩ = some (.slice x.shA x.shn x.shc) := by
  obtain ⟨b, off, x, hA, hb, hx, hc⟩ := h.at_ hk
  exact ⟨b, off, x, hA, hb, hx, od_cells hc⟩
theorem od_box {w w' : World} {g : Nat} {x : Od} (h : Box w g 35 (odC x)) (hb : Below (g + 1) w w') : Box w' g 35 (odC x) ∧
    (w'.cell? ⟨g, 0, none⟩ = some (.int .i64 x.id) ∧ w'.cell? ⟨g, 1, none⟩ = some (.int .i64 x.rcd) ∧ w'.cell? ⟨g, 2, none⟩ = some (.int .i64 x.ven) ∧ w'.cell? ⟨g, 3, none⟩ = some (.int .i64 x.cop) ∧ w'.cell? ⟨g, 4, none⟩ = some (.int .i64 x.pri) ∧ w'.cell? ⟨g, 5, none⟩ = some (.int .i64 x.rcv) ∧ w'.cell? ⟨g, 6, none⟩ = some (.int .i64 x.bil) ∧ w'.cell? ⟨g, 7, none⟩ = some (.int .i64 x.paid) ∧ w'.cell? ⟨g, 8, none⟩ = some (.int .i64 x.st) ∧ w'.cell? ⟨g, 9, none⟩ = some (.slice x.shA x.shn x.shc)) :=
  have h' := h.below hb (by omega)
  ⟨h', h'.cell 0, h'.cell 1, h'.cell 2, h'.cell 3, h'.cell 4, h'.cell 5, h'.cell 6, h'.cell 7, h'.cell 8, h'.cell 9⟩
theorem below_od {B : Nat} {a w : World} (h : Below B a w) {b : Nat} (hb : B ≤ b) (u0 u1 u2 u3 u4 u5 u6 u7 u8 u9 : Value) :
    Below B a ((((((((((w.setCell ⟨b, 0, none⟩ u0).setCell ⟨b, 1, none⟩ u1).setCell ⟨b, 2, none⟩ u2).setCell ⟨b, 3, none⟩ u3).setCell ⟨b, 4, none⟩ u4).setCell ⟨b, 5, none⟩ u5).setCell ⟨b, 6, none⟩ u6).setCell ⟨b, 7, none⟩ u7).setCell ⟨b, 8, none⟩ u8).setCell ⟨b, 9, none⟩ u9) :=
  (((((((((h.setCell hb u0).setCell hb u1).setCell hb u2).setCell hb u3).setCell hb u4).setCell hb u5).setCell hb u6).setCell hb u7).setCell hb u8).setCell hb u9

theorem od_struct : Tryz.prog.underlying 35 = some (.struct (Tryz.prog.fieldsOf 35)) := by kernel_rfl

/-- slices.IndexFunc: whatever predicate that lays only blocks of its own. -/
theorem od_indexFunc (g : Nat) (lb : Array Value) (p : Od → Bool) (eg : ∀ args w, (callFunc g args).run Tryz.prog w = .ok (.enter g args) w)
    (A : Option Addr) (n c : Nat) (xs : List Od) (w : World) (hs : Ods w w.heap.size A n c xs)
    (hp : ∀ W x, x ∈ xs → Below w.heap.size w W → Calls Tryz.prog g (#[odV x] ++ lb) W fun e w' => e = .returned (.bool (p x)) ∧ Below W.heap.size W w') :
    Calls Tryz.prog 131 #[.slice A n c, .func (.func g) #[] lb] w fun e w' => e = .returned (.int .i64 (ix p xs)) ∧ Below w.heap.size w w' := by
  have hle := hs.le
  have hbig := hs.big
  have HP := hide hp
  clear hp
  go_enter Tryz.func131, Tryz.ntmps131
  go_wp2
  go_loopw [5, 8] (fun _ s8 wr => ∃ k : Nat, k ≤ n ∧ s8 = .int .i64 k ∧ Below w.heap.size w wr ∧ ix p xs = idxP p (xs.drop k) k) (fun _ s8 _ => n - (intOf s8).toNat)
  case atStart => exact ⟨0, Nat.zero_le _, rfl, Below.refl _ _, rfl⟩
  case round =>
    obtain ⟨k, hk, rfl, hb, ha⟩ := hrel
    have HA := hide ha
    have HB := hide hb
    clear ha hb
    by_cases hlt : k < n
    · obtain ⟨b, off, x, rfl, hbB, hx, c0, c1, c2, c3, c4, c5, c6, c7, c8, c9⟩ := Ods_at (hs.below HB.out) hlt
      have HX := hide (idxP_step (p := p) hx)
      have hcall := HP.out wr x (List.mem_of_getElem? hx) HB.out
      have HS := hide hs
      clear hx hs
      unfold odV at hcall
      generalize hq : p x = q at hcall
      have HQ := hide hq
      clear hq
      cases q with
      | true =>
        go_wp2_with (go_at_fn g; refine hcall.mono ?_; rintro e w' ⟨rfl, hb'⟩)
        go_ret
        exact ⟨ret_int (by rw [HA.out, HX.out, if_pos HQ.out]), HB.out.trans (hb'.mono HB.out.size)⟩
      | false =>
        go_wp2_with (go_at_fn g; refine hcall.mono ?_; rintro e w' ⟨rfl, hb'⟩)
        go_roundw
        case rel => exact ⟨k + 1, by omega, by go_num, HB.out.trans (hb'.mono HB.out.size), by rw [HA.out, HX.out, if_neg (by rw [HQ.out]; decide)]⟩
        case measure => simp [intOf]; omega
    · go_wp2
      go_ret
      exact ⟨ret_int (by rw [HA.out, idxP_end (by have := hs.len; omega)]), HB.out⟩

theorem od_info : (Tryz.prog.info? 35).map (fun i => (i.zero, i.size, i.bytes)) = some (some (.agg #[.int .i64 0, .int .i64 0, .int .i64 0, .int .i64 0, .int .i64 0, .int .i64 0, .int .i64 0, .int .i64 0, .int .i64 0, .slice none 0 0]), 10, 96) := by kernel_rfl
/-- A new row that reads as xs (nil where there is none). -/
abbrev Odo (w : World) (B : Nat) (v : Value) (xs : List Od) : Prop := w.ownsRow B 35 10 v xs.length (xs.flatMap odE)
theorem Odo_sl {w : World} {B : Nat} {v : Value} {xs : List Od} (h : Odo w B v xs) (hn : xs.length ≤ 140737488355328) : ∃ A c, v = .slice A xs.length c ∧ Ods w w.heap.size A xs.length c xs := by
  have h' := h
  rcases h.2 with ⟨rfl, h0⟩ | ⟨g, cap, _, rfl, _⟩
  · refine ⟨none, 0, by rw [h0], ?_⟩
    unfold Odo at h'
    rw [h0] at h' ⊢
    exact Sl.of_own odE_len h' h0 (by omega)
  · exact ⟨_, cap, rfl, Sl.of_own odE_len h' rfl hn⟩
theorem od_clone (A : Option Addr) (n c : Nat) (xs : List Od) (w : World) (hs : Ods w w.heap.size A n c xs) (hn : n ≤ 1000) :
    Calls Tryz.prog 117 #[.slice A n c] w fun e w' => ∃ v, e = .returned v ∧ Odo w' w.heap.size v xs ∧ Below w.heap.size w w' := by
  obtain ⟨i0, hi, hz0, hz1, hz2⟩ := info_parts od_info
  have HS := hide hs
  have hnl := hs.nl
  clear hs
  cases A with
  | none =>
    have hx : xs = [] := by
      have h1 := HS.out.len; have h2 := HS.out.nl rfl; have h3 := HS.out.le
      exact List.eq_nil_of_length_eq_zero (by omega)
    subst hx
    clear hnl
    have q22 : ∀ (w : World) (a : Option Addr) (n c n' c' : Nat), (binOp .eql 23 (.slice a n c) (.slice none n' c')).run Tryz.prog w = .ok (.bool a.isNone) w := fun w a n c n' c' => Lib.run_eql_slice_nil w _ _ a n c n' c' Tryz.underlying23
    go_enter Tryz.func117, Tryz.ntmps117
    go_wp2
    go_ret
    exact ⟨_, rfl, World.ownsRow_nil _ _ _ _, Below.refl _ _⟩
  | some ad =>
    clear hnl
    have q22 : ∀ (w : World) (a : Option Addr) (n c n' c' : Nat), (binOp .eql 23 (.slice a n c) (.slice none n' c')).run Tryz.prog w = .ok (.bool a.isNone) w := fun w a n c n' c' => Lib.run_eql_slice_nil w _ _ a n c n' c' Tryz.underlying23
    go_enter Tryz.func117, Tryz.ntmps117
    go_wp2_with (at_builtin; go_must (refine wpList_append_sl _ rfl _ _ 23 rfl w.heap.size 35 i0 _ 96 Tryz.underlying23 hi hz0 hz1 hz2 rfl (by decide) odE_len odE_one _ 0 [] rfl (World.ownsRow_made w #[] 0 (Nat.le_refl _) (Nat.zero_le _) rfl) (some ad) n c rfl (HS.out.alloc (Nat.le_refl _) _) (by unfold maxLen; omega) (by omega) (by simp) ?_))
    intro v' w1 hown hg hat
    go_wp2
    go_ret
    refine ⟨v', rfl, ?_, ((Below.refl _ w).alloc (Nat.le_refl _) _).grown hg (by simp) (by intro k hk; simp [Value.ownBlock] at hk; omega)⟩
    have hl := HS.out.len
    subst hl
    simpa using hown
end Go.Proofs.YtbhndfphegflhaaGreat

/- What the order package and its reference compute, as plain functions. No walk. -/
namespace Go.Proofs.YtbhndfphegflhaaGreat

def winB (n lo hi : Int) : Bool := decide (lo ≤ n) && decide (n ≤ hi)
theorem winB_iff {n lo hi : Int} : winB n lo hi = true ↔ lo ≤ n ∧ n ≤ hi := by simp [winB]
def oidB (n : Int) : Bool := winB n 1 9999
/-- The shares from the k-th on are valid; P are those before. -/
def shsOk : List Sh → List Sh → Bool
  | _, [] => true
  | P, x :: r => oidB x.fund && winB x.weight 1 100 && !(decide (0 ≤ ix (fun y => y.fund == x.fund) P)) && shsOk (P ++ [x]) r
theorem shsOk_step {xs : List Sh} {k : Nat} {x : Sh} (h : xs[k]? = some x) :
    shsOk (xs.take k) (xs.drop k) = (oidB x.fund && winB x.weight 1 100 && !(decide (0 ≤ ix (fun y => y.fund == x.fund) (xs.take k))) && shsOk (xs.take (k + 1)) (xs.drop (k + 1))) := by
  rw [take_step h]
  obtain ⟨hk, rfl⟩ := List.getElem?_eq_some_iff.1 h
  rw [List.drop_eq_getElem_cons hk, shsOk]
def lenB (l : List Sh) : Bool := winB (l.length : Int) 1 4
def sharesV (l : List Sh) : Bool := lenB l && shsOk [] l
def bad1 (o : Od) : Bool := !oidB o.id || !oidB o.rcd || !oidB o.ven || !winB o.cop 1 99 || !winB o.pri 1 1000000
def bad2 (o : Od) : Bool := !winB o.rcv 0 o.cop || !winB o.bil 0 o.rcv || !winB o.paid 0 100000000
def bad3 (o : Od) : Bool := !winB o.st 1 3 || !sharesV o.sh
def bad4 (o : Od) : Bool := (o.st == 2) != (o.bil == o.cop)
/-- The error of an order by itself. -/
def chkO (o : Od) : Int := if bad1 o = true then 2 else if bad2 o = true then 2 else if bad3 o = true then 1 else if bad4 o = true then 12 else 0
/-- The first error; p is the ID before. -/
def chkOs : Option Int → List Od → Int
  | _, [] => 0
  | p, x :: r => if p.any (fun q => decide (x.id ≤ q)) = true then 7 else if (chkO x != 0) = true then chkO x else chkOs (some x.id) r
def prevO (xs : List Od) : Nat → Option Int
  | 0 => none
  | k + 1 => (xs[k]?).map (·.id)
theorem chkOs_step {xs : List Od} {k : Nat} {x : Od} (h : xs[k]? = some x) :
    chkOs (prevO xs k) (xs.drop k) = if (prevO xs k).any (fun q => decide (x.id ≤ q)) = true then 7 else if (chkO x != 0) = true then chkO x else chkOs (prevO xs (k + 1)) (xs.drop (k + 1)) := by
  obtain ⟨hk, rfl⟩ := List.getElem?_eq_some_iff.1 h
  rw [List.drop_eq_getElem_cons hk, chkOs, prevO, h]; rfl
def rightO (xs : List Od) : Int := if 64 < xs.length then 13 else chkOs none xs
theorem anyO_none {f : Int → Bool} : (none : Option Int).any f = false := rfl
end Go.Proofs.YtbhndfphegflhaaGreat

/- Walks: within, isID, id, Right of an amount, sharesValid. -/
namespace Go.Proofs.YtbhndfphegflhaaGreat
open Go.RowKit

theorem owin_any (n lo hi : Int) (w : World) : Calls Tryz.prog 129 #[.int .i64 n, .int .i64 lo, .int .i64 hi] w fun e w' => e = .returned (.bool (winB n lo hi)) ∧ w = w' := by
  go_enter Tryz.func129, Tryz.ntmps129
  by_cases h : lo ≤ n
  · go_wp2
    go_ret
    exact ⟨ret_bool (by simp [winB, h]), rfl⟩
  · go_wp2
    go_ret
    exact ⟨ret_bool (by simp [winB]; omega), rfl⟩
theorem oid_any (n : Int) (w : World) : Calls Tryz.prog 182 #[.int .i64 n] w fun e w' => e = .returned (.bool (oidB n)) ∧ w = w' := by
  go_enter Tryz.func182, Tryz.ntmps182
  go_wp2_with (go_at_call 129; refine (owin_any _ _ _ _).mono ?_; rintro e w' ⟨rfl, rfl⟩)
  go_ret
  exact ⟨rfl, rfl⟩
theorem rid39_any (n : Int) (w : World) : Calls Tryz.prog 162 #[.int .i64 n] w fun e w' => e = .returned (.bool (oidB n)) ∧ w = w' := by
  go_enter Tryz.func162, Tryz.ntmps162
  by_cases h : 1 ≤ n
  · go_wp2
    go_ret
    exact ⟨ret_bool (by simp [oidB, winB, h]), rfl⟩
  · go_wp2
    go_ret
    exact ⟨ret_bool (by simp [oidB, winB]; omega), rfl⟩
theorem r04right_any (n : Int) (w : World) : Calls Tryz.prog 163 #[.int .i64 n] w fun e w' => e = .returned (.bool (winB n 0 100000000)) ∧ w = w' := by
  go_enter Tryz.func163, Tryz.ntmps163
  by_cases h : 0 ≤ n
  · go_wp2
    go_ret
    exact ⟨ret_bool (by simp [winB, h]), rfl⟩
  · go_wp2
    go_ret
    exact ⟨ret_bool (by simp [winB]; omega), rfl⟩
theorem sv1_any (x y : Sh) (a : Nat) (w : World) (ha : a < w.heap.size) (hc : w.cell? ⟨a, 0, none⟩ = some (.int .i64 y.fund)) :
    Calls Tryz.prog 198 #[shV x, .pointer (some ⟨a, 0, none⟩)] w fun e w' => e = .returned (.bool (x.fund == y.fund)) ∧ Below w.heap.size w w' := by
  unfold shV
  go_enter Tryz.func198, Tryz.ntmps198
  go_wp2
  go_ret
  exact ⟨rfl, (Below.refl _ _).alloc (Nat.le_refl _) _⟩
theorem e_sv1 : ∀ args w, (callFunc 198 args).run Tryz.prog w = .ok (.enter 198 args) w := enters_of Tryz.func198 (by kernel_rfl) rfl

set_option maxRecDepth 100000 in
set_option maxHeartbeats 2000000 in
theorem sv_any (A : Option Addr) (n c : Nat) (xs : List Sh) (w : World) (hs : Shs w w.heap.size A n c xs) :
    Calls Tryz.prog 183 #[.slice A n c] w fun e w' => e = .returned (.bool (sharesV xs)) ∧ Below w.heap.size w w' := by
  obtain rfl := hs.len
  have hle := hs.le
  have hbig := hs.big
  have HS := hide hs
  clear hs
  have H1 := hide (fun W => owin_any xs.length 1 4 W)
  cases hl : lenB xs with
  | false =>
    have hr : sharesV xs = false := by unfold sharesV; rw [hl]; rfl
    rw [hr]
    unfold lenB at hl
    rw [hl] at H1
    clear hl hr
    go_enter Tryz.func183, Tryz.ntmps183
    go_wp2_with (go_at_call 129; refine (H1.out _).mono ?_; rintro e w' ⟨rfl, rfl⟩)
    go_ret
    exact ⟨rfl, Below.refl _ _⟩
  | true =>
    have hr : sharesV xs = shsOk [] xs := by unfold sharesV; rw [hl]; rfl
    have HR := hide hr
    unfold lenB at hl
    rw [hl] at H1
    clear hl hr
    go_enter Tryz.func183, Tryz.ntmps183
    go_wp2_with (go_at_call 129; refine (H1.out _).mono ?_; rintro e w' ⟨rfl, rfl⟩)
    go_loopw [11] (fun i wr => ∃ k : Nat, k ≤ xs.length ∧ i = .int .i64 k ∧ Below w.heap.size w wr ∧ shsOk [] xs = shsOk (xs.take k) (xs.drop k)) (fun i _ => xs.length - (intOf i).toNat)
    case atStart => exact ⟨0, Nat.zero_le _, rfl, Below.refl _ _, rfl⟩
    case round =>
      obtain ⟨k, hk, rfl, hb, ha⟩ := hrel
      have HA := hide ha
      have HB := hide hb
      have hz := hb.size
      clear ha hb
      by_cases hlt : k < xs.length
      · have hsk := (HS.out.below HB.out).take hk
        obtain ⟨b, off, x, hA, hbB, hx, c0, c1⟩ := Shs_at (HS.out.below HB.out) hlt
        have hst := shsOk_step hx
        have hbw := HB.out.alloc hz (.cells (shC x) 86)
        have HBW := hide hbw
        have I1 := hide (fun W => oid_any x.fund W)
        have I2 := hide (fun W => owin_any x.weight 1 100 W)
        have I3 := hide (sh_containsFunc 198 #[.pointer (some ⟨wr.heap.size, 0, none⟩)] (fun y => y.fund == x.fund) e_sv1 A k c (xs.take k) (wr.alloc (.cells (shC x) 86)) ((hsk.alloc hz _).more (by simp; omega))
          (fun W y _ hb => sv1_any y x wr.heap.size W (by have := hb.size; simp at this; omega) ((hb.cell (p := ⟨wr.heap.size, 0, none⟩) (by simp)).trans (by simp [go_sem]))))
        have HA' := HA.out
        rw [hst] at HA'
        generalize oidB x.fund = q1 at I1 HA'
        generalize winB x.weight 1 100 = q2 at I2 HA'
        generalize decide (0 ≤ ix (fun y => y.fund == x.fund) (xs.take k)) = q3 at I3 HA'
        have HX := hide HA'
        subst hA
        clear hx hst HA' HA hsk hbw
        cases q1 with
        | false =>
          go_wp2_with (first | (go_at_call 182; refine (I1.out _).mono ?_; rintro e w' ⟨rfl, rfl⟩) | (go_at_call 129; refine (I2.out _).mono ?_; rintro e w' ⟨rfl, rfl⟩))
          go_ret
          exact ⟨ret_bool (by rw [HR.out, HX.out]; simp), HBW.out⟩
        | true =>
          cases q2 with
          | false =>
            go_wp2_with (first | (go_at_call 182; refine (I1.out _).mono ?_; rintro e w' ⟨rfl, rfl⟩) | (go_at_call 129; refine (I2.out _).mono ?_; rintro e w' ⟨rfl, rfl⟩))
            go_ret
            exact ⟨ret_bool (by rw [HR.out, HX.out]; simp), HBW.out⟩
          | true =>
            cases q3 with
            | true =>
              go_wp2_with (first | (go_at_call 182; refine (I1.out _).mono ?_; rintro e w' ⟨rfl, rfl⟩) | (go_at_call 129; refine (I2.out _).mono ?_; rintro e w' ⟨rfl, rfl⟩) | (go_at_call 197; refine I3.out.mono ?_; rintro e w' ⟨rfl, hb3⟩))
              go_ret
              exact ⟨ret_bool (by rw [HR.out, HX.out]; simp), HBW.out.trans (hb3.mono (by simp; omega))⟩
            | false =>
              go_wp2_with (first | (go_at_call 182; refine (I1.out _).mono ?_; rintro e w' ⟨rfl, rfl⟩) | (go_at_call 129; refine (I2.out _).mono ?_; rintro e w' ⟨rfl, rfl⟩) | (go_at_call 197; refine I3.out.mono ?_; rintro e w' ⟨rfl, hb3⟩))
              go_roundw
              case rel => exact ⟨k + 1, by omega, by go_num, HBW.out.trans (hb3.mono (by simp; omega)), by rw [HX.out]; simp⟩
              case measure => simp [intOf]; omega
      · obtain rfl : k = xs.length := by omega
        go_wp2
        go_ret
        exact ⟨ret_bool (by rw [HR.out, HA.out, List.drop_length]; rfl), HB.out⟩
end Go.Proofs.YtbhndfphegflhaaGreat

/- Walks: order.check and order.Right. -/
namespace Go.Proofs.YtbhndfphegflhaaGreat
open Go.RowKit

/-- The shares of an order read as its list. -/
abbrev OdS (w : World) (B : Nat) (x : Od) : Prop := Shs w B x.shA x.shn x.shc x.sh

set_option maxRecDepth 100000 in
set_option maxHeartbeats 4000000 in
theorem ocheck_any (x : Od) (w : World) (hs : OdS w w.heap.size x) :
    Calls Tryz.prog 156 #[odV x] w fun e w' => e = .returned (.int .i64 (chkO x)) ∧ Below w.heap.size w w' := by
  have hbw := (Below.refl w.heap.size w).alloc (Nat.le_refl _) (.cells (odC x) 35)
  have bx := Box.new w 35 (odC x)
  have S0 := hide (fun W (hW : Below w.heap.size w W) => sv_any x.shA x.shn x.shc x.sh W ((hs.below hW).more hW.size))
  have I1 := hide (fun W => oid_any x.id W)
  have I2 := hide (fun W => oid_any x.rcd W)
  have I3 := hide (fun W => oid_any x.ven W)
  have I4 := hide (fun W => owin_any x.cop 1 99 W)
  have I5 := hide (fun W => owin_any x.pri 1 1000000 W)
  have J1 := hide (fun W => owin_any x.rcv 0 x.cop W)
  have J2 := hide (fun W => owin_any x.bil 0 x.rcv W)
  have J3 := hide (fun W => owin_any x.paid 0 100000000 W)
  have K1 := hide (fun W => owin_any x.st 1 3 W)
  obtain ⟨r, hr⟩ : ∃ r, r = chkO x := ⟨_, rfl⟩
  rw [← hr]
  unfold chkO bad1 bad2 bad3 at hr
  generalize oidB x.id = q1 at I1 hr
  generalize oidB x.rcd = q2 at I2 hr
  generalize oidB x.ven = q3 at I3 hr
  generalize winB x.cop 1 99 = q4 at I4 hr
  generalize winB x.pri 1 1000000 = q5 at I5 hr
  generalize winB x.rcv 0 x.cop = p1 at J1 hr
  generalize winB x.bil 0 x.rcv = p2 at J2 hr
  generalize winB x.paid 0 100000000 = p3 at J3 hr
  generalize winB x.st 1 3 = s1 at K1 hr
  generalize sharesV x.sh = s2 at S0 hr
  have HR := hide hr
  have HBW := hide hbw
  obtain ⟨bx, d0, d1, d2, d3, d4, d5, d6, d7, d8, d9⟩ := od_box bx (Below.refl _ _)
  clear hr hbw hs
  unfold odV
  go_enter Tryz.func156, Tryz.ntmps156
  go_wp2_with (first | (go_at_call 182; with_reducible refine (I1.out _).mono ?_; rintro e w' ⟨rfl, rfl⟩) | (go_at_call 182; with_reducible refine (I2.out _).mono ?_; rintro e w' ⟨rfl, rfl⟩) | (go_at_call 182; with_reducible refine (I3.out _).mono ?_; rintro e w' ⟨rfl, rfl⟩) | (go_at_call 129; (first | with_reducible refine (I4.out _).mono ?_ | with_reducible refine (I5.out _).mono ?_ | with_reducible refine (J1.out _).mono ?_ | with_reducible refine (J2.out _).mono ?_ | with_reducible refine (J3.out _).mono ?_ | with_reducible refine (K1.out _).mono ?_); rintro e w' ⟨rfl, rfl⟩) | (go_at_call 183; refine (S0.out _ HBW.out).mono ?_; rintro e w' ⟨rfl, hb⟩; obtain ⟨bx, d0, d1, d2, d3, d4, d5, d6, d7, d8, d9⟩ := od_box bx (hb.mono (by simp)); have hbb := hide (HBW.out.trans (hb.mono (by simp))); clear hb))
  all_goals go_ret
  all_goals first
    | (refine ⟨ret_int ?_, HBW.out⟩; rw [HR.out]; clear HR; simp_all; done)
    | (refine ⟨ret_int ?_, hbb.out⟩; rw [HR.out]; clear HR; simp_all [bad4]; done)
end Go.Proofs.YtbhndfphegflhaaGreat
