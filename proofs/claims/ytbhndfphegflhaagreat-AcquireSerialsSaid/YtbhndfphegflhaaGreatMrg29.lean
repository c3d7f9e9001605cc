/- Texts laid together by merge.py: PtG, PtR, PtH. -/
import Derived.Test.YtbhndfphegflhaaGreatMrg10
import Derived.Test.YtbhndfphegflhaaGreatMrg28
import Derived.RangeFuncNested
import Derived.RangeFuncBound
import Derived.RangeFuncCalls
import Derived.RangeFuncLeaves
import Derived.Shelf.RegionOpen
import Derived.WalkKit
import Derived.OwnWalkIn
import Derived.TacticsInMore
import Derived.Deep.Cut
import Derived.LoopNIn
import Derived.LoopIn
import Derived.Maps.AppendAt
set_option linter.unusedSimpArgs false
set_option linter.unusedVariables false
/- The iterator of a pattern's issues. Printed by gen_pt_g.py. -/
namespace Go.Proofs.YtbhndfphegflhaaGreat
open Go.RowKit

/-- Nothing that lay has turned but block bx. -/
structure KeepX (bx : Nat) (X Y : World) : Prop where
  os : Y.os = X.os
  tape : Y.tape = X.tape
  output : Y.output = X.output
  size : X.heap.size ≤ Y.heap.size
  same : ∀ b, b < X.heap.size → b ≠ bx → Y.heap[b]? = X.heap[b]?
theorem KeepX.refl (bx : Nat) (X : World) : KeepX bx X X := ⟨rfl, rfl, rfl, Nat.le_refl _, fun _ _ _ => rfl⟩
theorem KeepX.below {bx : Nat} {X Y Z : World} (h : KeepX bx X Y) (hb : Below Y.heap.size Y Z) : KeepX bx X Z :=
  ⟨hb.os.trans h.os, hb.tape.trans h.tape, hb.output.trans h.output, Nat.le_trans h.size hb.size, fun b h1 h2 => (hb.block b (Nat.lt_of_lt_of_le h1 h.size)).trans (h.same b h1 h2)⟩
theorem KeepX.set {bx : Nat} {X Y : World} (h : KeepX bx X Y) (j : Nat) (u : Value) : KeepX bx X (Y.setCell ⟨bx, j, none⟩ u) :=
  ⟨h.os, h.tape, h.output, by rw [World.size_setCell]; exact h.size, fun b h1 h2 => (Below.heap_setCell Y ⟨bx, j, none⟩ u b h2).trans (h.same b h1 h2)⟩
theorem KeepX.box {bx : Nat} {X Y : World} (h : KeepX bx X Y) {g : Nat} {t : TypeId} {cs : Array Value} (hb : Box X g t cs) (hg : g ≠ bx) : Box Y g t cs := (h.same g hb.lt hg).trans hb
theorem KeepX.bel {bx n : Nat} {X Y : World} (h : KeepX bx X Y) (hn : n ≤ bx) (hx : n ≤ X.heap.size) : Below n X Y := ⟨h.os, h.tape, h.output, h.size, fun b hb => h.same b (by omega) (by omega)⟩
/-- The state behind next: the day, the number behind it, whether there is one. -/
def StR (s : Ps) (d : Int) (j : Nat) (ok : Bool) : Prop := if ok = true then 0 ≤ s.d ∧ d = s.d ∧ j = s.k + 1 else s.d = -1
/-- Between two rounds. -/
def IsR (p : Pt) (bx n₀ pB : Nat) (W : World) (J : List Iu → World → Prop) (s4 s5 s6 s7 : Value) (wr : World) : Prop :=
  ∃ (P : List Iu) (s : Ps) (d : Int) (j : Nat) (ok : Bool) (la dy : Int), P.length ≤ 5000 ∧ s4 = .int .i64 d ∧ s5 = .int .i64 (j : Nat) ∧ s6 = .bool ok ∧ s7 = .int .i64 (P.length : Nat) ∧ StR s d j ok ∧ PsM p s ∧
    isL p 109572 5000 (ps0 p) = P ++ isL p 109572 (5000 - P.length) s ∧ Box wr bx 122 (iuC ⟨s.vol, s.num, la, dy, 1, 0⟩) ∧ J P wr ∧ Below n₀ W wr ∧ Box wr pB 67 (ptC p)
theorem IsR.mk {p : Pt} {bx n₀ pB n : Nat} {W wr : World} {J : List Iu → World → Prop} {P : List Iu} {s : Ps} {d : Int} {j : Nat} {ok : Bool} {la dy : Int} {m : Int} (h1 : P.length = n) (hm : m = (n : Int)) (h2 : n ≤ 5000) (h3 : StR s d j ok) (h4 : PsM p s)
    (h5 : isL p 109572 5000 (ps0 p) = P ++ isL p 109572 (5000 - n) s) (h6 : Box wr bx 122 (iuC ⟨s.vol, s.num, la, dy, 1, 0⟩)) (h7 : J P wr) (h8 : Below n₀ W wr) (h9 : Box wr pB 67 (ptC p)) : IsR p bx n₀ pB W J (.int .i64 d) (.int .i64 (j : Nat)) (.bool ok) (.int .i64 m) wr := by
  subst h1
  subst hm
  exact ⟨P, s, d, j, ok, la, dy, h2, rfl, rfl, rfl, rfl, h3, h4, h5, h6, h7, h8, h9⟩
theorem fol_st {p : Pt} {k : Nat} {vol num d : Int} {j : Nat} {ok : Bool} (h : NxtR p k d j ok) : StR ⟨vol, num, (fol p k).1, (fol p k).2⟩ d j ok := by
  unfold NxtR at h
  unfold StR
  cases ok with
  | true => rw [if_pos rfl] at h ⊢; exact ⟨h.1, h.2.1, h.2.2⟩
  | false => rw [if_neg (by simp)] at h ⊢; exact h.1
theorem fol_ok {p : Pt} {k : Nat} {d : Int} {j : Nat} {ok : Bool} (h : NxtR p k d j ok) : decide (0 ≤ (fol p k).1) = ok := by
  unfold NxtR at h
  cases ok with
  | true => rw [if_pos rfl] at h; exact decide_eq_true h.1
  | false => rw [if_neg (by simp)] at h; rw [h.1]; rfl
theorem nx_j {p : Pt} (hp : PtM p) {k : Nat} (hk : k ≤ 16001) {d : Int} {j : Nat} (h : NxtR p k d j true) : j ≤ 16001 ∧ j = (fol p k).2 + 1 := by
  unfold NxtR at h
  rw [if_pos rfl] at h
  have hb := fol_b hp hk
  refine ⟨?_, h.2.2⟩
  rcases hb.1 with e | e
  · omega
  · omega

set_option maxRecDepth 100000 in
set_option maxHeartbeats 16000000 in
theorem issues1_any (p : Pt) (l pB n₀ : Nat) (J Jx : List Iu → World → Prop) (W : World) (hp : PtM p) (hs : PtS W n₀ p) (hB : Box W pB 67 (ptC p)) (hn₀ : n₀ ≤ W.heap.size)
    (hJ : ∀ s X Y, KeepX W.heap.size X Y → J s X → J s Y)
    (hY : ∀ pre x X, W.heap.size < X.heap.size → J pre X → pre.length < 5000 → YieldAt Fence.wide 2 Tryz.prog l #[iuV x] X fun e Y =>
      (e = .returned (.bool true) ∧ J (pre ++ [x]) Y ∧ (Y.heap[W.heap.size]? = X.heap[W.heap.size]? ∧ Y.heap[pB]? = X.heap[pB]? ∧ Below n₀ X Y)) ∨ (e = .returned (.bool false) ∧ Jx (pre ++ [x]) Y))
    (h0 : J [] W) :
    Calls Tryz.prog 186 #[.func (.yield l) #[] #[], .pointer (some ⟨pB, 0, none⟩)] W fun e Y => (∃ v, e = .returned v) ∧ (J (isL p 109572 5000 (ps0 p)) Y ∨ ∃ pre, pre <+: isL p 109572 5000 (ps0 p) ∧ Jx pre Y) := by
  have Z0 := hide ((Below.refl n₀ W).alloc hn₀ (.cells (iuC ⟨p.fv, 1, 0, 0, 1, 0⟩) 122))
  have X0 := hide (Box.new W 122 (iuC ⟨p.fv, 1, 0, 0, 1, 0⟩))
  have K0 := hide ((KeepX.refl W.heap.size W).below ((Below.refl W.heap.size W).alloc (Nat.le_refl _) (.cells (iuC ⟨p.fv, 1, 0, 0, 1, 0⟩) 122)))
  have HJ := hide hJ
  have HJ0 := hide h0
  have HY := hide hY
  have HP := hide hp
  have HS := hide hs
  have HB := hide hB
  have HM0 := hide (ps0_M hp)
  have hdl := hs.2.len
  have hdb := hs.2.big
  have HDL := hide hdl
  have hbl := hB.lt
  have HNX := hide (fun (k : Nat) (hk : k ≤ 16001) X (hX : Below n₀ W X) => pnext_any p k X hp ((hs.below hX).more (Nat.le_trans hn₀ hX.size)) hk)
  have HMo := hide (fun d (h1 : 0 ≤ d) (h2 : d ≤ 109572) X => pmonth_any d X h1 h2)
  have HIn := hide (fun v X (hX : Below n₀ W X) => contains_any p.dbA p.dbn p.dbc p.db v X _ (hs.2.below hX))
  have q0 := fun o => (World.cell?_alloc_lt W o ⟨pB, 0, none⟩ hbl).trans (hB.cell 0)
  have q1 := fun o => (World.cell?_alloc_lt W o ⟨pB, 1, none⟩ hbl).trans (hB.cell 1)
  have q2 := fun o => (World.cell?_alloc_lt W o ⟨pB, 2, none⟩ hbl).trans (hB.cell 2)
  have q3 := fun o => (World.cell?_alloc_lt W o ⟨pB, 3, none⟩ hbl).trans (hB.cell 3)
  have q4 := fun o => (World.cell?_alloc_lt W o ⟨pB, 4, none⟩ hbl).trans (hB.cell 4)
  have q5 := fun o => (World.cell?_alloc_lt W o ⟨pB, 5, none⟩ hbl).trans (hB.cell 5)
  have r3 := hB.cell 3
  simp at q0 q1 q2 q3 q4 q5 r3
  have HN0 := hide (HNX.out 0 (by omega) _ Z0.out)
  unfold ptV at HN0 HNX
  clear hJ h0 hY hp hs hB hdl
  go_enter Tryz.func186, Tryz.ntmps186
  go_wp2_with fail
  refine HN0.out.mono ?_
  rintro e w1 ⟨d, j, ok, rfl, hr, hb⟩
  have Z1 := hide (Z0.out.trans (hb.mono (by simp; omega)))
  have X1 := hide (X0.out.below hb (by simp))
  have K1 := hide (K0.out.below hb)
  have HST := hide (fol_st (vol := p.fv) (num := 1) hr)
  have B1 := hide ((HB.out.alloc (.cells (iuC ⟨p.fv, 1, 0, 0, 1, 0⟩) 122)).below hb (by simp; omega))
  clear hr hb q0 q1 q2 q3 q4 q5 r3 HN0 Z0 X0 K0
  go_wp2
  go_loopw [4, 5, 6, 7] (fun s4 s5 s6 s7 wr => IsR p W.heap.size n₀ pB W J s4 s5 s6 s7 wr) (fun _ _ _ s7 _ => 5000 - (intOf s7).toNat)
  case atStart => exact ⟨[], ps0 p, d, j, ok, 0, 0, Nat.zero_le _, rfl, rfl, rfl, rfl, HST.out, HM0.out, by simp, X1.out, HJ.out _ _ _ K1.out HJ0.out, Z1.out, B1.out⟩
  case round =>
    clear Z1 X1 K1 B1 HST HJ0
    obtain ⟨P, ⟨vol, num, sd, sk⟩, d, j, ok, la, dy, hPl, rfl, rfl, rfl, rfl, hst, hM, hL, hX, hJP, hZ, hB2⟩ := hrel
    have HST := hide hst
    have HM := hide hM
    have HL := hide hL
    have X2 := hide hX
    have HJP := hide hJP
    have Z2 := hide hZ
    have B2 := hide hB2
    have hxl := hX.lt
    obtain ⟨n, hn⟩ : ∃ n, P.length = n := ⟨_, rfl⟩
    have HN := hide hn
    rw [hn] at hPl ⊢
    have x0 := X2.out.cell 0
    simp at x0
    clear hst hM hL hX hJP hZ hn hB2
    by_cases hgo : n < 5000 ∧ ok = true ∧ vol ≤ 9999
    · obtain ⟨g1, g2, g3⟩ := hgo
      subst g2
      have g1z : (n : Int) < 5000 := by omega
      have hst := HST.out
      unfold StR at hst
      rw [if_pos rfl] at hst
      obtain ⟨s1, s2, s3⟩ := hst
      simp only at s1 s2 s3
      subst s2 s3
      have v1 := HM.out.vol
      have v2 := HM.out.num
      have v3 := HM.out.d
      have hpv := HP.out.pv
      simp only at v1 v2 v3
      have hk : sk < 16000 := by rcases v3 with e | e <;> omega
      have hd9 : d ≤ 109572 := by rcases v3 with e | e <;> omega
      have hdx : ¬ d = -1 := by omega
      clear v3
      have HMd := hide (fun X => HMo.out d s1 hd9 X)
      have HId := hide (fun X hX => HIn.out (mthF d) X hX)
      have HST2 := hide (isL_step (p := p) (u := 109572) (n := 5000 - n - 1) (s := ⟨vol, num, d, sk⟩) ⟨s1, hd9, g3⟩)
      have HPS := hide (psS_M HP.out HM.out s1 g3)
      have hdb2 : dblB p ⟨vol, num, d, sk⟩ = (inL p.db (mthF d) && decide (0 ≤ (fol p (sk + 1)).1) && decide (num < p.pv)) := rfl
      have HDB := hide hdb2
      obtain ⟨qb, hqb⟩ : ∃ qb, inL p.db (mthF d) = qb := ⟨_, rfl⟩
      rw [hqb] at HId HDB
      have HQB := hide hqb
      have x1 := X2.out.cell 1
      have x2 := X2.out.cell 2
      have x3 := X2.out.cell 3
      have x4 := X2.out.cell 4
      have x5 := X2.out.cell 5
      simp at x1 x2 x3 x4 x5
      have xf := fun i => X2.out.frz i
      have X3 := hide ((X2.out.set_ 3 (.int .i64 d)).set_ 2 (.int .i64 0))
      have K3 := hide (((KeepX.refl W.heap.size wr).set 3 (.int .i64 d)).set 2 (.int .i64 0))
      have Z3 := hide ((Z2.out.setCell (p := ⟨W.heap.size, 3, none⟩) hn₀ (.int .i64 d)).setCell (p := ⟨W.heap.size, 2, none⟩) hn₀ (.int .i64 0))
      have B3 := hide ((B2.out.far (p := ⟨W.heap.size, 3, none⟩) (by show pB ≠ W.heap.size; omega) (.int .i64 d)).far (p := ⟨W.heap.size, 2, none⟩) (by show pB ≠ W.heap.size; omega) (.int .i64 0))
      clear hdb2 hqb
      go_upto_region 6 with fail
      obtain ⟨w3, hw3⟩ : ∃ w3, w3 = (wr.setCell ⟨W.heap.size, 3, none⟩ (.int .i64 d)).setCell ⟨W.heap.size, 2, none⟩ (.int .i64 0) := ⟨_, rfl⟩
      rw [← hw3] at X3 K3 Z3 B3 ⊢
      clear hw3 x0 x1 x2 x3 x4 x5 xf X2 Z2 B2
      have y1 := X3.out.cell 1
      have b5 := B3.out.cell 5
      have b2 := B3.out.cell 2
      simp at y1 b5 b2
      have gy1 := Grn.cell y1
      have gb5 := Grn.cell b5
      have gb2 := Grn.cell b2
      clear y1 b5 b2
      have HN1 := hide (fun X (hX : Below n₀ W X) => HNX.out (sk + 1) (by omega) X hX)
      have esk : ((sk + 1 : Nat) : Int) = (sk : Int) + 1 := by omega
      by_cases hd0 : p.dbn = 0
      · have hdz : ¬ 0 < p.dbn := by omega
        have HDQ := hide (show dblB p ⟨vol, num, d, sk⟩ = false by
          rw [HDB.out, ← HQB.out, List.eq_nil_of_length_eq_zero (show p.db.length = 0 by have := HDL.out; omega)]; rfl)
        clear hd0
        refine wp_region_grn (by kernel_rfl) (by kernel_rfl) ?_
        repeat (go_big_quiet_step (first | (go_at_call 188; exact Calls_grn_same (HMd.out _)) | (go_at_call 160; exact Calls_grn_same (HId.out _ (Z3.out.trans ((Grn.h _).mono (Nat.le_trans hn₀ Z3.out.size)))))))
        refine wpQuiet_nil ?_
        rintro _ ⟨q, rfl⟩
        have Z4 := hide (Z3.out.trans (q.h.mono (Nat.le_trans hn₀ Z3.out.size)))
        have X4 := hide (X3.out.below q.h X3.out.lt)
        have K4 := hide (K3.out.below q.h)
        have B4 := hide (B3.out.below q.h B3.out.lt)
        obtain ⟨w4, hw4⟩ : ∃ w4, w4 = q.W := ⟨_, rfl⟩
        rw [← hw4] at Z4 X4 K4 B4 ⊢
        clear hw4 gy1 gb5 gb2 X3 Z3 K3 B3
        have HN4 := hide (HN1.out _ Z4.out)
        rw [esk] at HN4
        have b0 := B4.out.cell 0
        have b1 := B4.out.cell 1
        have b2 := B4.out.cell 2
        have b3 := B4.out.cell 3
        have b4 := B4.out.cell 4
        have b5 := B4.out.cell 5
        simp at b0 b1 b2 b3 b4 b5
        go_wp2_with fail
        refine HN4.out.mono ?_
        rintro e w5 ⟨d1, j1, ok1, rfl, hr, hb⟩
        have HR1 := hide hr
        have Z5 := hide (Z4.out.trans (hb.mono (Nat.le_trans hn₀ Z4.out.size)))
        have X5 := hide (X4.out.below hb X4.out.lt)
        have K5 := hide (K4.out.below hb)
        have B5 := hide (B4.out.below hb B4.out.lt)
        clear hr hb HN4 b0 b1 b2 b3 b4 b5 X4 Z4 K4 B4
        have HDD := hide (show dblB p ⟨vol, num, d, sk⟩ = false from HDQ.out)
        have HSR := hide (show ∀ v u : Int, StR ⟨v, u, (nxtF p ⟨vol, num, d, sk⟩).1, (nxtF p ⟨vol, num, d, sk⟩).2⟩ d1 j1 ok1 by
          intro v u
          have e : nxtF p ⟨vol, num, d, sk⟩ = fol p (sk + 1) := by unfold nxtF; rw [HDD.out]; rfl
          rw [e]; exact fol_st HR1.out)
        obtain ⟨w7, hw7⟩ : ∃ w7, w7 = w5 := ⟨_, rfl⟩
        obtain ⟨dn, hdn⟩ : ∃ dn, dn = d1 := ⟨_, rfl⟩
        obtain ⟨jn, hjn⟩ : ∃ jn, jn = j1 := ⟨_, rfl⟩
        obtain ⟨okn, hokn⟩ : ∃ okn, okn = ok1 := ⟨_, rfl⟩
        rw [← hw7] at X5 K5 Z5 B5 ⊢
        rw [← hdn, ← hjn, ← hokn] at HR1 HSR ⊢
        have X7 := X5
        have K7 := K5
        have Z7 := Z5
        have B7 := B5
        clear X5 K5 Z5 B5 hw7 hdn hjn hokn
        have HXX := hide (show isuX p ⟨vol, num, d, sk⟩ = ⟨vol, num, 0, d, 1, 0⟩ by unfold isuX; rw [HDD.out]; rfl)
        have HJ7 := hide (HJ.out _ _ _ K7.out HJP.out)
        have hx7 := X7.out.lt
        obtain ⟨fn, tmps, assign, body, hy, hRd⟩ := HY.out P ⟨vol, num, 0, d, 1, 0⟩ w7 hx7 HJ7.out (by have := HN.out; omega)
        have HRd := hide hRd
        dsimp only [iuV] at hy
        have x0 := X7.out.cell 0
        have x1 := X7.out.cell 1
        have x2 := X7.out.cell 2
        have x3 := X7.out.cell 3
        have x4 := X7.out.cell 4
        have x5 := X7.out.cell 5
        simp at x0 x1 x2 x3 x4 x5
        clear hRd
        go_upto_region 11 with fail
        refine (wpIn_wide (n := 3)).1 ?_
        gi_wp2
        refine HRd.out.mono ?_
        rintro e W8 (⟨rfl, hJ8, hbx8, hpb8, hz8⟩ | ⟨rfl, hJx8⟩)
        · have HJ8 := hide hJ8
          have X8 := hide (show Box W8 W.heap.size 122 (iuC ⟨vol, num, 0, d, 1, 0⟩) from hbx8.trans X7.out)
          have Z8 := hide (Z7.out.trans hz8)
          have B8 := hide (show Box W8 pB 67 (ptC p) from hpb8.trans B7.out)
          have hx8 := X8.out.lt
          clear hy HRd hJ8 hbx8 hpb8 hz8 x0 x1 x2 x3 x4 x5 X7 K7 Z7 B7 HJ7 hx7
          have y0 := X8.out.cell 0
          have y1 := X8.out.cell 1
          have y2 := X8.out.cell 2
          have b2 := B8.out.cell 2
          simp at y0 y1 y2 b2
          have xf := fun i => X8.out.frz i
          have hmx : max num (0) = num := by omega
          have hmx2 : IntKind.i64.wrap (num + 1) = num + 1 := by rw [IntKind.wrap_i64]; omega
          have hvl : IntKind.i64.wrap (vol + 1) = vol + 1 := by rw [IntKind.wrap_i64]; omega
          have HLL := hide (show isL p 109572 5000 (ps0 p) = (P ++ [(⟨vol, num, 0, d, 1, 0⟩ : Iu)]) ++ isL p 109572 (5000 - (n + 1)) (psS p ⟨vol, num, d, sk⟩) by
            rw [HL.out, HN.out, show 5000 - n = 5000 - n - 1 + 1 by omega, HST2.out, HXX.out, show 5000 - (n + 1) = 5000 - n - 1 by omega]; simp)
          by_cases hpvn : p.pv < num + 1
          · have HPX := hide (show psS p ⟨vol, num, d, sk⟩ = ⟨vol + 1, 1, (nxtF p ⟨vol, num, d, sk⟩).1, (nxtF p ⟨vol, num, d, sk⟩).2⟩ by
              have e : nxtN p ⟨vol, num, d, sk⟩ = num + 1 := by unfold nxtN; rw [HDD.out]; rfl
              unfold psS; rw [e, if_pos hpvn, if_pos hpvn])
            gi_wp2
            go_wp2
            go_roundw
            case rel =>
              refine IsR.mk (n := n + 1) (P := P ++ [⟨vol, num, 0, d, 1, 0⟩]) (s := psS p ⟨vol, num, d, sk⟩) (la := 0) (dy := d) (by rw [List.length_append, HN.out]; rfl) (by omega) (by omega) ?_ HPS.out HLL.out ?_ ?_ ?_ ?_
              · rw [HPX.out]; exact HSR.out _ _
              · rw [HPX.out]; exact ((X8.out.set_ 1 (.int .i64 (num + 1))).set_ 0 (.int .i64 (vol + 1))).set_ 1 (.int .i64 1)
              · exact HJ.out _ _ _ ((((KeepX.refl W.heap.size W8).set 1 _).set 0 _).set 1 _) HJ8.out
              · exact ((Z8.out.setCell (p := ⟨W.heap.size, 1, none⟩) hn₀ _).setCell (p := ⟨W.heap.size, 0, none⟩) hn₀ _).setCell (p := ⟨W.heap.size, 1, none⟩) hn₀ _
              · exact ((B8.out.far (p := ⟨W.heap.size, 1, none⟩) (by show pB ≠ W.heap.size; omega) _).far (p := ⟨W.heap.size, 0, none⟩) (by show pB ≠ W.heap.size; omega) _).far (p := ⟨W.heap.size, 1, none⟩) (by show pB ≠ W.heap.size; omega) _
            case measure => simp [intOf]; omega
          · have HPX := hide (show psS p ⟨vol, num, d, sk⟩ = ⟨vol, num + 1, (nxtF p ⟨vol, num, d, sk⟩).1, (nxtF p ⟨vol, num, d, sk⟩).2⟩ by
              have e : nxtN p ⟨vol, num, d, sk⟩ = num + 1 := by unfold nxtN; rw [HDD.out]; rfl
              unfold psS; rw [e, if_neg hpvn, if_neg hpvn])
            gi_wp2
            go_wp2
            go_roundw
            case rel =>
              refine IsR.mk (n := n + 1) (P := P ++ [⟨vol, num, 0, d, 1, 0⟩]) (s := psS p ⟨vol, num, d, sk⟩) (la := 0) (dy := d) (by rw [List.length_append, HN.out]; rfl) (by omega) (by omega) ?_ HPS.out HLL.out ?_ ?_ ?_ ?_
              · rw [HPX.out]; exact HSR.out _ _
              · rw [HPX.out]; exact X8.out.set_ 1 (.int .i64 (num + 1))
              · exact HJ.out _ _ _ ((KeepX.refl W.heap.size W8).set 1 _) HJ8.out
              · exact Z8.out.setCell (p := ⟨W.heap.size, 1, none⟩) hn₀ _
              · exact B8.out.far (p := ⟨W.heap.size, 1, none⟩) (by show pB ≠ W.heap.size; omega) _
            case measure => simp [intOf]; omega
        · have HPF := hide (show P ++ [(⟨vol, num, 0, d, 1, 0⟩ : Iu)] <+: isL p 109572 5000 (ps0 p) by
            rw [HL.out, HN.out, show 5000 - n = 5000 - n - 1 + 1 by omega, HST2.out, HXX.out]
            exact ⟨isL p 109572 (5000 - n - 1) (psS p ⟨vol, num, d, sk⟩), by simp⟩)
          have HJX := hide hJx8
          clear hy HRd hJx8
          gi_wp2
          go_wp2
          refine bodyPost_ret (results_none rfl _ _ _) rfl ?_
          exact ⟨⟨_, rfl⟩, .inr ⟨_, HPF.out, HJX.out⟩⟩
      have hdz : 0 < p.dbn := by omega
      cases qb with
      | false =>
        have HDQ := hide (show dblB p ⟨vol, num, d, sk⟩ = false by rw [HDB.out]; rfl)
        refine wp_region_grn (by kernel_rfl) (by kernel_rfl) ?_
        repeat (go_big_quiet_step (first | (go_at_call 188; exact Calls_grn_same (HMd.out _)) | (go_at_call 160; exact Calls_grn_same (HId.out _ (Z3.out.trans ((Grn.h _).mono (Nat.le_trans hn₀ Z3.out.size)))))))
        refine wpQuiet_nil ?_
        rintro _ ⟨q, rfl⟩
        have Z4 := hide (Z3.out.trans (q.h.mono (Nat.le_trans hn₀ Z3.out.size)))
        have X4 := hide (X3.out.below q.h X3.out.lt)
        have K4 := hide (K3.out.below q.h)
        have B4 := hide (B3.out.below q.h B3.out.lt)
        obtain ⟨w4, hw4⟩ : ∃ w4, w4 = q.W := ⟨_, rfl⟩
        rw [← hw4] at Z4 X4 K4 B4 ⊢
        clear hw4 gy1 gb5 gb2 X3 Z3 K3 B3
        have HN4 := hide (HN1.out _ Z4.out)
        rw [esk] at HN4
        have b0 := B4.out.cell 0
        have b1 := B4.out.cell 1
        have b2 := B4.out.cell 2
        have b3 := B4.out.cell 3
        have b4 := B4.out.cell 4
        have b5 := B4.out.cell 5
        simp at b0 b1 b2 b3 b4 b5
        go_wp2_with fail
        refine HN4.out.mono ?_
        rintro e w5 ⟨d1, j1, ok1, rfl, hr, hb⟩
        have HR1 := hide hr
        have Z5 := hide (Z4.out.trans (hb.mono (Nat.le_trans hn₀ Z4.out.size)))
        have X5 := hide (X4.out.below hb X4.out.lt)
        have K5 := hide (K4.out.below hb)
        have B5 := hide (B4.out.below hb B4.out.lt)
        clear hr hb HN4 b0 b1 b2 b3 b4 b5 X4 Z4 K4 B4
        have HDD := hide (show dblB p ⟨vol, num, d, sk⟩ = false from HDQ.out)
        have HSR := hide (show ∀ v u : Int, StR ⟨v, u, (nxtF p ⟨vol, num, d, sk⟩).1, (nxtF p ⟨vol, num, d, sk⟩).2⟩ d1 j1 ok1 by
          intro v u
          have e : nxtF p ⟨vol, num, d, sk⟩ = fol p (sk + 1) := by unfold nxtF; rw [HDD.out]; rfl
          rw [e]; exact fol_st HR1.out)
        obtain ⟨w7, hw7⟩ : ∃ w7, w7 = w5 := ⟨_, rfl⟩
        obtain ⟨dn, hdn⟩ : ∃ dn, dn = d1 := ⟨_, rfl⟩
        obtain ⟨jn, hjn⟩ : ∃ jn, jn = j1 := ⟨_, rfl⟩
        obtain ⟨okn, hokn⟩ : ∃ okn, okn = ok1 := ⟨_, rfl⟩
        rw [← hw7] at X5 K5 Z5 B5 ⊢
        rw [← hdn, ← hjn, ← hokn] at HR1 HSR ⊢
        have X7 := X5
        have K7 := K5
        have Z7 := Z5
        have B7 := B5
        clear X5 K5 Z5 B5 hw7 hdn hjn hokn
        have HXX := hide (show isuX p ⟨vol, num, d, sk⟩ = ⟨vol, num, 0, d, 1, 0⟩ by unfold isuX; rw [HDD.out]; rfl)
        have HJ7 := hide (HJ.out _ _ _ K7.out HJP.out)
        have hx7 := X7.out.lt
        obtain ⟨fn, tmps, assign, body, hy, hRd⟩ := HY.out P ⟨vol, num, 0, d, 1, 0⟩ w7 hx7 HJ7.out (by have := HN.out; omega)
        have HRd := hide hRd
        dsimp only [iuV] at hy
        have x0 := X7.out.cell 0
        have x1 := X7.out.cell 1
        have x2 := X7.out.cell 2
        have x3 := X7.out.cell 3
        have x4 := X7.out.cell 4
        have x5 := X7.out.cell 5
        simp at x0 x1 x2 x3 x4 x5
        clear hRd
        go_upto_region 11 with fail
        refine (wpIn_wide (n := 3)).1 ?_
        gi_wp2
        refine HRd.out.mono ?_
        rintro e W8 (⟨rfl, hJ8, hbx8, hpb8, hz8⟩ | ⟨rfl, hJx8⟩)
        · have HJ8 := hide hJ8
          have X8 := hide (show Box W8 W.heap.size 122 (iuC ⟨vol, num, 0, d, 1, 0⟩) from hbx8.trans X7.out)
          have Z8 := hide (Z7.out.trans hz8)
          have B8 := hide (show Box W8 pB 67 (ptC p) from hpb8.trans B7.out)
          have hx8 := X8.out.lt
          clear hy HRd hJ8 hbx8 hpb8 hz8 x0 x1 x2 x3 x4 x5 X7 K7 Z7 B7 HJ7 hx7
          have y0 := X8.out.cell 0
          have y1 := X8.out.cell 1
          have y2 := X8.out.cell 2
          have b2 := B8.out.cell 2
          simp at y0 y1 y2 b2
          have xf := fun i => X8.out.frz i
          have hmx : max num (0) = num := by omega
          have hmx2 : IntKind.i64.wrap (num + 1) = num + 1 := by rw [IntKind.wrap_i64]; omega
          have hvl : IntKind.i64.wrap (vol + 1) = vol + 1 := by rw [IntKind.wrap_i64]; omega
          have HLL := hide (show isL p 109572 5000 (ps0 p) = (P ++ [(⟨vol, num, 0, d, 1, 0⟩ : Iu)]) ++ isL p 109572 (5000 - (n + 1)) (psS p ⟨vol, num, d, sk⟩) by
            rw [HL.out, HN.out, show 5000 - n = 5000 - n - 1 + 1 by omega, HST2.out, HXX.out, show 5000 - (n + 1) = 5000 - n - 1 by omega]; simp)
          by_cases hpvn : p.pv < num + 1
          · have HPX := hide (show psS p ⟨vol, num, d, sk⟩ = ⟨vol + 1, 1, (nxtF p ⟨vol, num, d, sk⟩).1, (nxtF p ⟨vol, num, d, sk⟩).2⟩ by
              have e : nxtN p ⟨vol, num, d, sk⟩ = num + 1 := by unfold nxtN; rw [HDD.out]; rfl
              unfold psS; rw [e, if_pos hpvn, if_pos hpvn])
            gi_wp2
            go_wp2
            go_roundw
            case rel =>
              refine IsR.mk (n := n + 1) (P := P ++ [⟨vol, num, 0, d, 1, 0⟩]) (s := psS p ⟨vol, num, d, sk⟩) (la := 0) (dy := d) (by rw [List.length_append, HN.out]; rfl) (by omega) (by omega) ?_ HPS.out HLL.out ?_ ?_ ?_ ?_
              · rw [HPX.out]; exact HSR.out _ _
              · rw [HPX.out]; exact ((X8.out.set_ 1 (.int .i64 (num + 1))).set_ 0 (.int .i64 (vol + 1))).set_ 1 (.int .i64 1)
              · exact HJ.out _ _ _ ((((KeepX.refl W.heap.size W8).set 1 _).set 0 _).set 1 _) HJ8.out
              · exact ((Z8.out.setCell (p := ⟨W.heap.size, 1, none⟩) hn₀ _).setCell (p := ⟨W.heap.size, 0, none⟩) hn₀ _).setCell (p := ⟨W.heap.size, 1, none⟩) hn₀ _
              · exact ((B8.out.far (p := ⟨W.heap.size, 1, none⟩) (by show pB ≠ W.heap.size; omega) _).far (p := ⟨W.heap.size, 0, none⟩) (by show pB ≠ W.heap.size; omega) _).far (p := ⟨W.heap.size, 1, none⟩) (by show pB ≠ W.heap.size; omega) _
            case measure => simp [intOf]; omega
          · have HPX := hide (show psS p ⟨vol, num, d, sk⟩ = ⟨vol, num + 1, (nxtF p ⟨vol, num, d, sk⟩).1, (nxtF p ⟨vol, num, d, sk⟩).2⟩ by
              have e : nxtN p ⟨vol, num, d, sk⟩ = num + 1 := by unfold nxtN; rw [HDD.out]; rfl
              unfold psS; rw [e, if_neg hpvn, if_neg hpvn])
            gi_wp2
            go_wp2
            go_roundw
            case rel =>
              refine IsR.mk (n := n + 1) (P := P ++ [⟨vol, num, 0, d, 1, 0⟩]) (s := psS p ⟨vol, num, d, sk⟩) (la := 0) (dy := d) (by rw [List.length_append, HN.out]; rfl) (by omega) (by omega) ?_ HPS.out HLL.out ?_ ?_ ?_ ?_
              · rw [HPX.out]; exact HSR.out _ _
              · rw [HPX.out]; exact X8.out.set_ 1 (.int .i64 (num + 1))
              · exact HJ.out _ _ _ ((KeepX.refl W.heap.size W8).set 1 _) HJ8.out
              · exact Z8.out.setCell (p := ⟨W.heap.size, 1, none⟩) hn₀ _
              · exact B8.out.far (p := ⟨W.heap.size, 1, none⟩) (by show pB ≠ W.heap.size; omega) _
            case measure => simp [intOf]; omega
        · have HPF := hide (show P ++ [(⟨vol, num, 0, d, 1, 0⟩ : Iu)] <+: isL p 109572 5000 (ps0 p) by
            rw [HL.out, HN.out, show 5000 - n = 5000 - n - 1 + 1 by omega, HST2.out, HXX.out]
            exact ⟨isL p 109572 (5000 - n - 1) (psS p ⟨vol, num, d, sk⟩), by simp⟩)
          have HJX := hide hJx8
          clear hy HRd hJx8
          gi_wp2
          go_wp2
          refine bodyPost_ret (results_none rfl _ _ _) rfl ?_
          exact ⟨⟨_, rfl⟩, .inr ⟨_, HPF.out, HJX.out⟩⟩
      | true =>
        by_cases hnp : num < p.pv
        · have HDQ := hide (show dblB p ⟨vol, num, d, sk⟩ = decide (0 ≤ (fol p (sk + 1)).1) by rw [HDB.out, decide_eq_true hnp]; simp)
          refine wp_region_grn (by kernel_rfl) (by kernel_rfl) ?_
          repeat (go_big_quiet_step (first | (go_at_call 188; exact Calls_grn_same (HMd.out _)) | (go_at_call 160; exact Calls_grn_same (HId.out _ (Z3.out.trans ((Grn.h _).mono (Nat.le_trans hn₀ Z3.out.size)))))))
          refine wpQuiet_nil ?_
          rintro _ ⟨q, rfl⟩
          have Z4 := hide (Z3.out.trans (q.h.mono (Nat.le_trans hn₀ Z3.out.size)))
          have X4 := hide (X3.out.below q.h X3.out.lt)
          have K4 := hide (K3.out.below q.h)
          have B4 := hide (B3.out.below q.h B3.out.lt)
          obtain ⟨w4, hw4⟩ : ∃ w4, w4 = q.W := ⟨_, rfl⟩
          rw [← hw4] at Z4 X4 K4 B4 ⊢
          clear hw4 gy1 gb5 gb2 X3 Z3 K3 B3
          have HN4 := hide (HN1.out _ Z4.out)
          rw [esk] at HN4
          have b0 := B4.out.cell 0
          have b1 := B4.out.cell 1
          have b2 := B4.out.cell 2
          have b3 := B4.out.cell 3
          have b4 := B4.out.cell 4
          have b5 := B4.out.cell 5
          simp at b0 b1 b2 b3 b4 b5
          go_wp2_with fail
          refine HN4.out.mono ?_
          rintro e w5 ⟨d1, j1, ok1, rfl, hr, hb⟩
          have HR1 := hide hr
          have Z5 := hide (Z4.out.trans (hb.mono (Nat.le_trans hn₀ Z4.out.size)))
          have X5 := hide (X4.out.below hb X4.out.lt)
          have K5 := hide (K4.out.below hb)
          have B5 := hide (B4.out.below hb B4.out.lt)
          clear hr hb HN4 b0 b1 b2 b3 b4 b5 X4 Z4 K4 B4
          cases ok1 with
          | false =>
            have HDD := hide (show dblB p ⟨vol, num, d, sk⟩ = false by rw [HDQ.out, fol_ok HR1.out])
            have HSR := hide (show ∀ v u : Int, StR ⟨v, u, (nxtF p ⟨vol, num, d, sk⟩).1, (nxtF p ⟨vol, num, d, sk⟩).2⟩ d1 j1 false by
              intro v u
              have e : nxtF p ⟨vol, num, d, sk⟩ = fol p (sk + 1) := by unfold nxtF; rw [HDD.out]; rfl
              rw [e]; exact fol_st HR1.out)
            obtain ⟨w7, hw7⟩ : ∃ w7, w7 = w5 := ⟨_, rfl⟩
            obtain ⟨dn, hdn⟩ : ∃ dn, dn = d1 := ⟨_, rfl⟩
            obtain ⟨jn, hjn⟩ : ∃ jn, jn = j1 := ⟨_, rfl⟩
            rw [← hw7] at X5 K5 Z5 B5 ⊢
            rw [← hdn, ← hjn] at HR1 HSR ⊢
            have X7 := X5
            have K7 := K5
            have Z7 := Z5
            have B7 := B5
            clear X5 K5 Z5 B5 hw7 hdn hjn
            have HXX := hide (show isuX p ⟨vol, num, d, sk⟩ = ⟨vol, num, 0, d, 1, 0⟩ by unfold isuX; rw [HDD.out]; rfl)
            have HJ7 := hide (HJ.out _ _ _ K7.out HJP.out)
            have hx7 := X7.out.lt
            obtain ⟨fn, tmps, assign, body, hy, hRd⟩ := HY.out P ⟨vol, num, 0, d, 1, 0⟩ w7 hx7 HJ7.out (by have := HN.out; omega)
            have HRd := hide hRd
            dsimp only [iuV] at hy
            have x0 := X7.out.cell 0
            have x1 := X7.out.cell 1
            have x2 := X7.out.cell 2
            have x3 := X7.out.cell 3
            have x4 := X7.out.cell 4
            have x5 := X7.out.cell 5
            simp at x0 x1 x2 x3 x4 x5
            clear hRd
            go_upto_region 11 with fail
            refine (wpIn_wide (n := 3)).1 ?_
            gi_wp2
            refine HRd.out.mono ?_
            rintro e W8 (⟨rfl, hJ8, hbx8, hpb8, hz8⟩ | ⟨rfl, hJx8⟩)
            · have HJ8 := hide hJ8
              have X8 := hide (show Box W8 W.heap.size 122 (iuC ⟨vol, num, 0, d, 1, 0⟩) from hbx8.trans X7.out)
              have Z8 := hide (Z7.out.trans hz8)
              have B8 := hide (show Box W8 pB 67 (ptC p) from hpb8.trans B7.out)
              have hx8 := X8.out.lt
              clear hy HRd hJ8 hbx8 hpb8 hz8 x0 x1 x2 x3 x4 x5 X7 K7 Z7 B7 HJ7 hx7
              have y0 := X8.out.cell 0
              have y1 := X8.out.cell 1
              have y2 := X8.out.cell 2
              have b2 := B8.out.cell 2
              simp at y0 y1 y2 b2
              have xf := fun i => X8.out.frz i
              have hmx : max num (0) = num := by omega
              have hmx2 : IntKind.i64.wrap (num + 1) = num + 1 := by rw [IntKind.wrap_i64]; omega
              have hvl : IntKind.i64.wrap (vol + 1) = vol + 1 := by rw [IntKind.wrap_i64]; omega
              have HLL := hide (show isL p 109572 5000 (ps0 p) = (P ++ [(⟨vol, num, 0, d, 1, 0⟩ : Iu)]) ++ isL p 109572 (5000 - (n + 1)) (psS p ⟨vol, num, d, sk⟩) by
                rw [HL.out, HN.out, show 5000 - n = 5000 - n - 1 + 1 by omega, HST2.out, HXX.out, show 5000 - (n + 1) = 5000 - n - 1 by omega]; simp)
              by_cases hpvn : p.pv < num + 1
              · exfalso; omega
              · have HPX := hide (show psS p ⟨vol, num, d, sk⟩ = ⟨vol, num + 1, (nxtF p ⟨vol, num, d, sk⟩).1, (nxtF p ⟨vol, num, d, sk⟩).2⟩ by
                  have e : nxtN p ⟨vol, num, d, sk⟩ = num + 1 := by unfold nxtN; rw [HDD.out]; rfl
                  unfold psS; rw [e, if_neg hpvn, if_neg hpvn])
                gi_wp2
                go_wp2
                go_roundw
                case rel =>
                  refine IsR.mk (n := n + 1) (P := P ++ [⟨vol, num, 0, d, 1, 0⟩]) (s := psS p ⟨vol, num, d, sk⟩) (la := 0) (dy := d) (by rw [List.length_append, HN.out]; rfl) (by omega) (by omega) ?_ HPS.out HLL.out ?_ ?_ ?_ ?_
                  · rw [HPX.out]; exact HSR.out _ _
                  · rw [HPX.out]; exact X8.out.set_ 1 (.int .i64 (num + 1))
                  · exact HJ.out _ _ _ ((KeepX.refl W.heap.size W8).set 1 _) HJ8.out
                  · exact Z8.out.setCell (p := ⟨W.heap.size, 1, none⟩) hn₀ _
                  · exact B8.out.far (p := ⟨W.heap.size, 1, none⟩) (by show pB ≠ W.heap.size; omega) _
                case measure => simp [intOf]; omega
            · have HPF := hide (show P ++ [(⟨vol, num, 0, d, 1, 0⟩ : Iu)] <+: isL p 109572 5000 (ps0 p) by
                rw [HL.out, HN.out, show 5000 - n = 5000 - n - 1 + 1 by omega, HST2.out, HXX.out]
                exact ⟨isL p 109572 (5000 - n - 1) (psS p ⟨vol, num, d, sk⟩), by simp⟩)
              have HJX := hide hJx8
              clear hy HRd hJx8
              gi_wp2
              go_wp2
              refine bodyPost_ret (results_none rfl _ _ _) rfl ?_
              exact ⟨⟨_, rfl⟩, .inr ⟨_, HPF.out, HJX.out⟩⟩
          | true =>
            have HDD := hide (show dblB p ⟨vol, num, d, sk⟩ = true by rw [HDQ.out, fol_ok HR1.out])
            obtain ⟨hj1, hj2⟩ := nx_j HP.out (show sk + 1 ≤ 16001 by omega) HR1.out
            have HJ2 := hide hj2
            clear hj2
            have e1 : IntKind.i64.wrap (num + 1) = num + 1 := by rw [IntKind.wrap_i64]; omega
            have x0 := X5.out.cell 0
            have x1 := X5.out.cell 1
            have x2 := X5.out.cell 2
            have x3 := X5.out.cell 3
            have x4 := X5.out.cell 4
            have x5 := X5.out.cell 5
            simp at x0 x1 x2 x3 x4 x5
            have xf := fun i => X5.out.frz i
            have X6 := hide (X5.out.set_ 2 (.int .i64 (num + 1)))
            have K6 := hide (K5.out.set 2 (.int .i64 (num + 1)))
            have Z6 := hide (Z5.out.setCell (p := ⟨W.heap.size, 2, none⟩) hn₀ (.int .i64 (num + 1)))
            have B6 := hide (B5.out.far (p := ⟨W.heap.size, 2, none⟩) (by show pB ≠ W.heap.size; omega) (.int .i64 (num + 1)))
            go_upto_region 10 with fail
            obtain ⟨w6, hw6⟩ : ∃ w6, w6 = w5.setCell ⟨W.heap.size, 2, none⟩ (.int .i64 (num + 1)) := ⟨_, rfl⟩
            rw [← hw6] at X6 K6 Z6 B6 ⊢
            clear hw6 x0 x1 x2 x3 x4 x5 xf X5 K5 Z5 B5 e1
            have HN6 := hide (HNX.out j1 hj1 _ Z6.out)
            have b0 := B6.out.cell 0
            have b1 := B6.out.cell 1
            have b2 := B6.out.cell 2
            have b3 := B6.out.cell 3
            have b4 := B6.out.cell 4
            have b5 := B6.out.cell 5
            simp at b0 b1 b2 b3 b4 b5
            go_wp2_with fail
            refine HN6.out.mono ?_
            rintro e w7 ⟨dn, jn, okn, rfl, hr, hb⟩
            have HR2 := hide hr
            have Z7 := hide (Z6.out.trans (hb.mono (Nat.le_trans hn₀ Z6.out.size)))
            have X7 := hide (X6.out.below hb X6.out.lt)
            have K7 := hide (K6.out.below hb)
            have B7 := hide (B6.out.below hb B6.out.lt)
            clear hr hb HN6 b0 b1 b2 b3 b4 b5 X6 Z6 K6 B6
            have HSR := hide (show ∀ v u : Int, StR ⟨v, u, (nxtF p ⟨vol, num, d, sk⟩).1, (nxtF p ⟨vol, num, d, sk⟩).2⟩ dn jn okn by
              intro v u
              have e : nxtF p ⟨vol, num, d, sk⟩ = fol p j1 := by unfold nxtF; rw [HDD.out, HJ2.out]; rfl
              rw [e]; exact fol_st HR2.out)
            have HXX := hide (show isuX p ⟨vol, num, d, sk⟩ = ⟨vol, num, num + 1, d, 1, 0⟩ by unfold isuX; rw [HDD.out]; rfl)
            have HJ7 := hide (HJ.out _ _ _ K7.out HJP.out)
            have hx7 := X7.out.lt
            obtain ⟨fn, tmps, assign, body, hy, hRd⟩ := HY.out P ⟨vol, num, num + 1, d, 1, 0⟩ w7 hx7 HJ7.out (by have := HN.out; omega)
            have HRd := hide hRd
            dsimp only [iuV] at hy
            have x0 := X7.out.cell 0
            have x1 := X7.out.cell 1
            have x2 := X7.out.cell 2
            have x3 := X7.out.cell 3
            have x4 := X7.out.cell 4
            have x5 := X7.out.cell 5
            simp at x0 x1 x2 x3 x4 x5
            clear hRd
            go_upto_region 11 with fail
            refine (wpIn_wide (n := 3)).1 ?_
            gi_wp2
            refine HRd.out.mono ?_
            rintro e W8 (⟨rfl, hJ8, hbx8, hpb8, hz8⟩ | ⟨rfl, hJx8⟩)
            · have HJ8 := hide hJ8
              have X8 := hide (show Box W8 W.heap.size 122 (iuC ⟨vol, num, num + 1, d, 1, 0⟩) from hbx8.trans X7.out)
              have Z8 := hide (Z7.out.trans hz8)
              have B8 := hide (show Box W8 pB 67 (ptC p) from hpb8.trans B7.out)
              have hx8 := X8.out.lt
              clear hy HRd hJ8 hbx8 hpb8 hz8 x0 x1 x2 x3 x4 x5 X7 K7 Z7 B7 HJ7 hx7
              have y0 := X8.out.cell 0
              have y1 := X8.out.cell 1
              have y2 := X8.out.cell 2
              have b2 := B8.out.cell 2
              simp at y0 y1 y2 b2
              have xf := fun i => X8.out.frz i
              have hmx : max num (num + 1) = num + 1 := by omega
              have hmx2 : IntKind.i64.wrap (num + 1 + 1) = num + 2 := by rw [IntKind.wrap_i64]; omega
              have hvl : IntKind.i64.wrap (vol + 1) = vol + 1 := by rw [IntKind.wrap_i64]; omega
              have HLL := hide (show isL p 109572 5000 (ps0 p) = (P ++ [(⟨vol, num, num + 1, d, 1, 0⟩ : Iu)]) ++ isL p 109572 (5000 - (n + 1)) (psS p ⟨vol, num, d, sk⟩) by
                rw [HL.out, HN.out, show 5000 - n = 5000 - n - 1 + 1 by omega, HST2.out, HXX.out, show 5000 - (n + 1) = 5000 - n - 1 by omega]; simp)
              by_cases hpvn : p.pv < num + 2
              · have HPX := hide (show psS p ⟨vol, num, d, sk⟩ = ⟨vol + 1, 1, (nxtF p ⟨vol, num, d, sk⟩).1, (nxtF p ⟨vol, num, d, sk⟩).2⟩ by
                  have e : nxtN p ⟨vol, num, d, sk⟩ = num + 2 := by unfold nxtN; rw [HDD.out]; show num + 1 + 1 = _; omega
                  unfold psS; rw [e, if_pos hpvn, if_pos hpvn])
                gi_wp2
                go_wp2
                go_roundw
                case rel =>
                  refine IsR.mk (n := n + 1) (P := P ++ [⟨vol, num, num + 1, d, 1, 0⟩]) (s := psS p ⟨vol, num, d, sk⟩) (la := num + 1) (dy := d) (by rw [List.length_append, HN.out]; rfl) (by omega) (by omega) ?_ HPS.out HLL.out ?_ ?_ ?_ ?_
                  · rw [HPX.out]; exact HSR.out _ _
                  · rw [HPX.out]; exact ((X8.out.set_ 1 (.int .i64 (num + 2))).set_ 0 (.int .i64 (vol + 1))).set_ 1 (.int .i64 1)
                  · exact HJ.out _ _ _ ((((KeepX.refl W.heap.size W8).set 1 _).set 0 _).set 1 _) HJ8.out
                  · exact ((Z8.out.setCell (p := ⟨W.heap.size, 1, none⟩) hn₀ _).setCell (p := ⟨W.heap.size, 0, none⟩) hn₀ _).setCell (p := ⟨W.heap.size, 1, none⟩) hn₀ _
                  · exact ((B8.out.far (p := ⟨W.heap.size, 1, none⟩) (by show pB ≠ W.heap.size; omega) _).far (p := ⟨W.heap.size, 0, none⟩) (by show pB ≠ W.heap.size; omega) _).far (p := ⟨W.heap.size, 1, none⟩) (by show pB ≠ W.heap.size; omega) _
                case measure => simp [intOf]; omega
              · have HPX := hide (show psS p ⟨vol, num, d, sk⟩ = ⟨vol, num + 2, (nxtF p ⟨vol, num, d, sk⟩).1, (nxtF p ⟨vol, num, d, sk⟩).2⟩ by
                  have e : nxtN p ⟨vol, num, d, sk⟩ = num + 2 := by unfold nxtN; rw [HDD.out]; show num + 1 + 1 = _; omega
                  unfold psS; rw [e, if_neg hpvn, if_neg hpvn])
                gi_wp2
                go_wp2
                go_roundw
                case rel =>
                  refine IsR.mk (n := n + 1) (P := P ++ [⟨vol, num, num + 1, d, 1, 0⟩]) (s := psS p ⟨vol, num, d, sk⟩) (la := num + 1) (dy := d) (by rw [List.length_append, HN.out]; rfl) (by omega) (by omega) ?_ HPS.out HLL.out ?_ ?_ ?_ ?_
                  · rw [HPX.out]; exact HSR.out _ _
                  · rw [HPX.out]; exact X8.out.set_ 1 (.int .i64 (num + 2))
                  · exact HJ.out _ _ _ ((KeepX.refl W.heap.size W8).set 1 _) HJ8.out
                  · exact Z8.out.setCell (p := ⟨W.heap.size, 1, none⟩) hn₀ _
                  · exact B8.out.far (p := ⟨W.heap.size, 1, none⟩) (by show pB ≠ W.heap.size; omega) _
                case measure => simp [intOf]; omega
            · have HPF := hide (show P ++ [(⟨vol, num, num + 1, d, 1, 0⟩ : Iu)] <+: isL p 109572 5000 (ps0 p) by
                rw [HL.out, HN.out, show 5000 - n = 5000 - n - 1 + 1 by omega, HST2.out, HXX.out]
                exact ⟨isL p 109572 (5000 - n - 1) (psS p ⟨vol, num, d, sk⟩), by simp⟩)
              have HJX := hide hJx8
              clear hy HRd hJx8
              gi_wp2
              go_wp2
              refine bodyPost_ret (results_none rfl _ _ _) rfl ?_
              exact ⟨⟨_, rfl⟩, .inr ⟨_, HPF.out, HJX.out⟩⟩
        · have HDQ := hide (show dblB p ⟨vol, num, d, sk⟩ = false by rw [HDB.out, decide_eq_false hnp]; simp)
          refine wp_region_grn (by kernel_rfl) (by kernel_rfl) ?_
          repeat (go_big_quiet_step (first | (go_at_call 188; exact Calls_grn_same (HMd.out _)) | (go_at_call 160; exact Calls_grn_same (HId.out _ (Z3.out.trans ((Grn.h _).mono (Nat.le_trans hn₀ Z3.out.size)))))))
          refine wpQuiet_nil ?_
          rintro _ ⟨q, rfl⟩
          have Z4 := hide (Z3.out.trans (q.h.mono (Nat.le_trans hn₀ Z3.out.size)))
          have X4 := hide (X3.out.below q.h X3.out.lt)
          have K4 := hide (K3.out.below q.h)
          have B4 := hide (B3.out.below q.h B3.out.lt)
          obtain ⟨w4, hw4⟩ : ∃ w4, w4 = q.W := ⟨_, rfl⟩
          rw [← hw4] at Z4 X4 K4 B4 ⊢
          clear hw4 gy1 gb5 gb2 X3 Z3 K3 B3
          have HN4 := hide (HN1.out _ Z4.out)
          rw [esk] at HN4
          have b0 := B4.out.cell 0
          have b1 := B4.out.cell 1
          have b2 := B4.out.cell 2
          have b3 := B4.out.cell 3
          have b4 := B4.out.cell 4
          have b5 := B4.out.cell 5
          simp at b0 b1 b2 b3 b4 b5
          go_wp2_with fail
          refine HN4.out.mono ?_
          rintro e w5 ⟨d1, j1, ok1, rfl, hr, hb⟩
          have HR1 := hide hr
          have Z5 := hide (Z4.out.trans (hb.mono (Nat.le_trans hn₀ Z4.out.size)))
          have X5 := hide (X4.out.below hb X4.out.lt)
          have K5 := hide (K4.out.below hb)
          have B5 := hide (B4.out.below hb B4.out.lt)
          clear hr hb HN4 b0 b1 b2 b3 b4 b5 X4 Z4 K4 B4
          have HDD := hide (show dblB p ⟨vol, num, d, sk⟩ = false from HDQ.out)
          have HSR := hide (show ∀ v u : Int, StR ⟨v, u, (nxtF p ⟨vol, num, d, sk⟩).1, (nxtF p ⟨vol, num, d, sk⟩).2⟩ d1 j1 ok1 by
            intro v u
            have e : nxtF p ⟨vol, num, d, sk⟩ = fol p (sk + 1) := by unfold nxtF; rw [HDD.out]; rfl
            rw [e]; exact fol_st HR1.out)
          obtain ⟨w7, hw7⟩ : ∃ w7, w7 = w5 := ⟨_, rfl⟩
          obtain ⟨dn, hdn⟩ : ∃ dn, dn = d1 := ⟨_, rfl⟩
          obtain ⟨jn, hjn⟩ : ∃ jn, jn = j1 := ⟨_, rfl⟩
          obtain ⟨okn, hokn⟩ : ∃ okn, okn = ok1 := ⟨_, rfl⟩
          rw [← hw7] at X5 K5 Z5 B5 ⊢
          rw [← hdn, ← hjn, ← hokn] at HR1 HSR ⊢
          have X7 := X5
          have K7 := K5
          have Z7 := Z5
          have B7 := B5
          clear X5 K5 Z5 B5 hw7 hdn hjn hokn
          have HXX := hide (show isuX p ⟨vol, num, d, sk⟩ = ⟨vol, num, 0, d, 1, 0⟩ by unfold isuX; rw [HDD.out]; rfl)
          have HJ7 := hide (HJ.out _ _ _ K7.out HJP.out)
          have hx7 := X7.out.lt
          obtain ⟨fn, tmps, assign, body, hy, hRd⟩ := HY.out P ⟨vol, num, 0, d, 1, 0⟩ w7 hx7 HJ7.out (by have := HN.out; omega)
          have HRd := hide hRd
          dsimp only [iuV] at hy
          have x0 := X7.out.cell 0
          have x1 := X7.out.cell 1
          have x2 := X7.out.cell 2
          have x3 := X7.out.cell 3
          have x4 := X7.out.cell 4
          have x5 := X7.out.cell 5
          simp at x0 x1 x2 x3 x4 x5
          clear hRd
          go_upto_region 11 with fail
          refine (wpIn_wide (n := 3)).1 ?_
          gi_wp2
          refine HRd.out.mono ?_
          rintro e W8 (⟨rfl, hJ8, hbx8, hpb8, hz8⟩ | ⟨rfl, hJx8⟩)
          · have HJ8 := hide hJ8
            have X8 := hide (show Box W8 W.heap.size 122 (iuC ⟨vol, num, 0, d, 1, 0⟩) from hbx8.trans X7.out)
            have Z8 := hide (Z7.out.trans hz8)
            have B8 := hide (show Box W8 pB 67 (ptC p) from hpb8.trans B7.out)
            have hx8 := X8.out.lt
            clear hy HRd hJ8 hbx8 hpb8 hz8 x0 x1 x2 x3 x4 x5 X7 K7 Z7 B7 HJ7 hx7
            have y0 := X8.out.cell 0
            have y1 := X8.out.cell 1
            have y2 := X8.out.cell 2
            have b2 := B8.out.cell 2
            simp at y0 y1 y2 b2
            have xf := fun i => X8.out.frz i
            have hmx : max num (0) = num := by omega
            have hmx2 : IntKind.i64.wrap (num + 1) = num + 1 := by rw [IntKind.wrap_i64]; omega
            have hvl : IntKind.i64.wrap (vol + 1) = vol + 1 := by rw [IntKind.wrap_i64]; omega
            have HLL := hide (show isL p 109572 5000 (ps0 p) = (P ++ [(⟨vol, num, 0, d, 1, 0⟩ : Iu)]) ++ isL p 109572 (5000 - (n + 1)) (psS p ⟨vol, num, d, sk⟩) by
              rw [HL.out, HN.out, show 5000 - n = 5000 - n - 1 + 1 by omega, HST2.out, HXX.out, show 5000 - (n + 1) = 5000 - n - 1 by omega]; simp)
            by_cases hpvn : p.pv < num + 1
            · have HPX := hide (show psS p ⟨vol, num, d, sk⟩ = ⟨vol + 1, 1, (nxtF p ⟨vol, num, d, sk⟩).1, (nxtF p ⟨vol, num, d, sk⟩).2⟩ by
                have e : nxtN p ⟨vol, num, d, sk⟩ = num + 1 := by unfold nxtN; rw [HDD.out]; rfl
                unfold psS; rw [e, if_pos hpvn, if_pos hpvn])
              gi_wp2
              go_wp2
              go_roundw
              case rel =>
                refine IsR.mk (n := n + 1) (P := P ++ [⟨vol, num, 0, d, 1, 0⟩]) (s := psS p ⟨vol, num, d, sk⟩) (la := 0) (dy := d) (by rw [List.length_append, HN.out]; rfl) (by omega) (by omega) ?_ HPS.out HLL.out ?_ ?_ ?_ ?_
                · rw [HPX.out]; exact HSR.out _ _
                · rw [HPX.out]; exact ((X8.out.set_ 1 (.int .i64 (num + 1))).set_ 0 (.int .i64 (vol + 1))).set_ 1 (.int .i64 1)
                · exact HJ.out _ _ _ ((((KeepX.refl W.heap.size W8).set 1 _).set 0 _).set 1 _) HJ8.out
                · exact ((Z8.out.setCell (p := ⟨W.heap.size, 1, none⟩) hn₀ _).setCell (p := ⟨W.heap.size, 0, none⟩) hn₀ _).setCell (p := ⟨W.heap.size, 1, none⟩) hn₀ _
                · exact ((B8.out.far (p := ⟨W.heap.size, 1, none⟩) (by show pB ≠ W.heap.size; omega) _).far (p := ⟨W.heap.size, 0, none⟩) (by show pB ≠ W.heap.size; omega) _).far (p := ⟨W.heap.size, 1, none⟩) (by show pB ≠ W.heap.size; omega) _
              case measure => simp [intOf]; omega
            · exfalso; omega
          · have HPF := hide (show P ++ [(⟨vol, num, 0, d, 1, 0⟩ : Iu)] <+: isL p 109572 5000 (ps0 p) by
              rw [HL.out, HN.out, show 5000 - n = 5000 - n - 1 + 1 by omega, HST2.out, HXX.out]
              exact ⟨isL p 109572 (5000 - n - 1) (psS p ⟨vol, num, d, sk⟩), by simp⟩)
            have HJX := hide hJx8
            clear hy HRd hJx8
            gi_wp2
            go_wp2
            refine bodyPost_ret (results_none rfl _ _ _) rfl ?_
            exact ⟨⟨_, rfl⟩, .inr ⟨_, HPF.out, HJX.out⟩⟩
    · have HE := hide (show isL p 109572 5000 (ps0 p) = P by
        rw [HL.out]
        by_cases h1 : n < 5000
        · rw [isL_stop, List.append_nil]
          rintro ⟨e1, _, e3⟩
          simp only at e1 e3
          refine hgo ⟨h1, ?_, e3⟩
          have hst := HST.out
          unfold StR at hst
          cases ok with
          | true => rfl
          | false => rw [if_neg (by simp)] at hst; simp only at hst; omega
        · rw [HN.out, show 5000 - n = 0 by omega]; simp [isL])
      by_cases h1 : n < 5000
      · have h1z : (n : Int) < 5000 := by omega
        cases ok with
        | false =>
          go_wp2
          go_end0
          exact ⟨⟨_, rfl⟩, .inl (by rw [HE.out]; exact HJP.out)⟩
        | true =>
          have h3 : ¬ vol ≤ 9999 := fun h => hgo ⟨h1, rfl, h⟩
          go_wp2
          go_end0
          exact ⟨⟨_, rfl⟩, .inl (by rw [HE.out]; exact HJP.out)⟩
      · have h1z : ¬ (n : Int) < 5000 := by omega
        go_wp2
        go_end0
        exact ⟨⟨_, rfl⟩, .inl (by rw [HE.out]; exact HJP.out)⟩

theorem issues_any (p : Pt) (w : World) :
    Calls Tryz.prog 161 #[ptV p] w fun e w' => e = .returned (.func (.func 186) #[] #[.pointer (some ⟨w.heap.size, 0, none⟩)]) ∧ w' = w.alloc (.cells (ptC p) 67) := by
  unfold ptV
  go_enter Tryz.func161, Tryz.ntmps161
  go_wp2
  go_ret
  exact ⟨rfl, rfl⟩
end Go.Proofs.YtbhndfphegflhaaGreat

/- A range over a function whose iterator keeps one block of its own: what a caller owes. No program. -/
namespace Go.Proofs.YtbhndfphegflhaaGreat
open Go.RowKit

/-- What a round that goes on keeps for the iterator: its block, the pattern's, what lay long before. -/
def Kq (bx pB n₀ : Nat) (X Y : World) : Prop := Y.heap[bx]? = X.heap[bx]? ∧ Y.heap[pB]? = X.heap[pB]? ∧ Below n₀ X Y
theorem Kq.trans {bx pB n₀ : Nat} {X Y Z : World} (h : Kq bx pB n₀ X Y) (k : Kq bx pB n₀ Y Z) : Kq bx pB n₀ X Z := ⟨k.1.trans h.1, k.2.1.trans h.2.1, h.2.2.trans k.2.2⟩
theorem below_put {n l : Nat} {a W : World} {o : Obj} (h : Below n a W) (hl : n ≤ l) : Below n a (W.putObj l o) :=
  ⟨h.os, h.tape, h.output, by rw [World.putObj_size]; exact h.size, fun k hk => (World.putObj_heap_other (by omega)).trans (h.block k hk)⟩
theorem Kq.put {bx pB n₀ l : Nat} (W : World) (o : Obj) (h1 : l ≠ bx) (h2 : l ≠ pB) (h3 : n₀ ≤ l) : Kq bx pB n₀ W (W.putObj l o) :=
  ⟨World.putObj_heap_other h1.symm, World.putObj_heap_other h2.symm, below_put (Below.refl _ _) h3⟩
/-- The iterator's contract at the loop that begins in w. -/
def ItC {α : Type} (P : Program) (gf : Nat) (lb : Array Value) (enc : α → Value) (S : List α) (pB n₀ : Nat) (w : World) : Prop :=
  ∀ (J Jx : List α → World → Prop) (W : World), W.heap.size = w.heap.size + 2 → Below w.heap.size w W →
    (∀ s X Y, KeepX (w.heap.size + 2) X Y → J s X → J s Y) →
    (∀ pre x X, w.heap.size + 2 < X.heap.size → J pre X → pre.length < 5000 → YieldAt Fence.wide 2 P (w.heap.size + 1) #[enc x] X fun e Y =>
      (e = .returned (.bool true) ∧ J (pre ++ [x]) Y ∧ Kq (w.heap.size + 2) pB n₀ X Y) ∨ (e = .returned (.bool false) ∧ Jx (pre ++ [x]) Y)) →
    J [] W → Calls P gf (#[.func (.yield (w.heap.size + 1)) #[] #[]] ++ lb) W fun e Y => (∃ v, e = .returned v) ∧ (J S Y ∨ ∃ pre, pre <+: S ∧ Jx pre Y)
/-- How a round's body may end. -/
def rndPost {α : Type} (bx pB n₀ id : Nat) (I Ix : List α → World → Prop) (xs : List α) (X : World) : Exit → Act → World → Prop
  | .normal, _, W' => KeepsOthers X W' ∧ Kq bx pB n₀ X W' ∧ I xs W'
  | .exit i, _, W' => i = id ∧ KeepsOthers X W' ∧ Ix xs W'
  | _, _, _ => False

theorem range_law {α : Type} {P : Program} {g : Operand} {ps : Array Tmp} {assign body : Code} {Q : Exit → Act → World → Prop} {a : Act} {w : World} {gf : Nat} {lb : Array Value} {enc : α → Value} {S : List α} {pB n₀ id : Nat}
    (hg : a.eval g = .func (.func gf) #[] lb) (eg : ∀ args w, (callFunc gf args).run P w = .ok (.enter gf args) w) (hps : ps.size = 1) (hpB : pB < w.heap.size) (hn₀ : n₀ ≤ w.heap.size) (it : ItC P gf lb enc S pB n₀ w)
    (I Ix : List α → World → Prop) (hI : ∀ s X Y, KeepX (w.heap.size + 2) X Y → I s X → I s Y) (hIp : ∀ s X o, I s X → I s (X.putObj (w.heap.size + 1) o)) (hXp : ∀ s X o, Ix s X → Ix s (X.putObj (w.heap.size + 1) o))
    (h0 : ∀ o o', I [] ((w.alloc o).alloc o'))
    (hround : ∀ pre x X, w.heap.size + 2 < X.heap.size → I pre X → pre.length < 5000 →
      assign.wpIn (Fence.wide.inRound (w.heap.size + 1)) 2 P (Exit.then (fun a₁ X₁ => KeepsOthers X X₁ ∧ Kq (w.heap.size + 2) pB n₀ X X₁ ∧
        ∀ o, body.wpIn (Fence.wide.inRound (w.heap.size + 1)) 2 P (rndPost (w.heap.size + 2) pB n₀ id I Ix (pre ++ [x]) (X₁.putObj (w.heap.size + 1) o)) a₁ (X₁.putObj (w.heap.size + 1) o)) (fun _ _ _ => False))
        { tmps := (ps.zip #[enc x]).foldl (fun t (p, v) => t.setIfInBounds p v) a.tmps, defers := [] } X)
    (hdone : ∀ W, I S W → W.heap[w.heap.size]? = some (.deferred (some [])) → Q .normal { a with defers := { target := .collected w.heap.size, args := #[] } :: a.defers } W)
    (hstop : ∀ pre W, pre <+: S → Ix pre W → W.heap[w.heap.size]? = some (.deferred (some [])) → (Code.exit id).wpIn Fence.wide 3 P Q { a with defers := { target := .collected w.heap.size, args := #[] } :: a.defers } W) :
    (Code.rangeFunc g ps assign body).wpIn Fence.wide 3 P Q a w := by
  refine wpIn_rangeFunc (fun fn _ => ?_)
  obtain ⟨rc, hrc⟩ : ∃ rc : LoopState → Option Code → Loop, rc = fun st pe => { state := st, pending := pe, fn := fn, tmps := a.tmps, params := ps, assign := assign, body := body, defers := w.heap.size } := ⟨_, rfl⟩
  have hsz : ((w.alloc (.deferred (some []))).alloc (.loop (rc .ready none))).heap.size = w.heap.size + 2 := by simp
  have hL1 : ((w.alloc (.deferred (some []))).alloc (.loop (rc .ready none))).heap[w.heap.size + 1]? = some (.loop (rc .ready none)) := by
    have h := World.alloc_heap_new (w.alloc (.deferred (some []))) (.loop (rc .ready none))
    rwa [World.size_alloc] at h
  have hD1 : ((w.alloc (.deferred (some []))).alloc (.loop (rc .ready none))).heap[w.heap.size]? = some (.deferred (some [])) :=
    (Below.heap_alloc _ _ _ (by simp)).trans (World.alloc_heap_new w _)
  have hc := it (fun pre W => I pre W ∧ W.heap[w.heap.size + 1]? = some (.loop (rc .ready none)) ∧ W.heap[w.heap.size]? = some (.deferred (some [])))
    (fun pre W => Ix pre W ∧ W.heap[w.heap.size + 1]? = some (.loop (rc .done (some (.exit id)))) ∧ W.heap[w.heap.size]? = some (.deferred (some [])))
    ((w.alloc (.deferred (some []))).alloc (.loop (rc .ready none))) hsz
    (((Below.refl _ w).alloc (Nat.le_refl _) _).alloc (by simp) _)
    (fun s X Y hk hs => ⟨hI s X Y hk hs.1, (hk.same _ (Array.getElem?_eq_some_iff.1 hs.2.1).1 (by omega)).trans hs.2.1, (hk.same _ (Array.getElem?_eq_some_iff.1 hs.2.2).1 (by omega)).trans hs.2.2⟩)
    (fun pre x X hX hs hlen => by
      obtain ⟨hi, hl, hd⟩ := hs
      have hy := run_yield (P := P) (args := #[enc x]) hl (by rw [hrc]; exact hps.symm)
      rw [hrc] at hy
      refine ⟨fn, _, assign, body, hy, roundIn_of_wpIn trivial (wpIn_mono (hround pre x X hX hi hlen) ?_)⟩
      rintro e a1 X1 h
      cases e with
      | normal =>
        obtain ⟨ho1, hq1, hb⟩ := h
        have hl1 := ho1.same _ _ hl rfl
        have hd1 := ho1.same _ _ hd rfl
        have hlt1 := (Array.getElem?_eq_some_iff.1 hl1).1
        refine ⟨_, run_beginRound hl1 (by rw [hrc]), wpIn_mono (hb _) ?_⟩
        have hl2 : (X1.putObj (w.heap.size + 1) (.loop { rc .ready none with state := .busy })).heap[w.heap.size + 1]? = some (.loop { rc .ready none with state := .busy }) := World.putObj_heap_same hlt1
        have hd2 : (X1.putObj (w.heap.size + 1) (.loop { rc .ready none with state := .busy })).heap[w.heap.size]? = some (.deferred (some [])) := (World.putObj_heap_other (by omega)).trans hd1
        have hq2 : Kq (w.heap.size + 2) pB n₀ X1 (X1.putObj (w.heap.size + 1) (.loop { rc .ready none with state := .busy })) := Kq.put _ _ (by omega) (by omega) (by omega)
        rintro e2 a2 X2 h2
        cases e2 with
        | normal =>
          obtain ⟨ho3, hq3, hi3⟩ := h2
          have hl3 := ho3.same _ _ hl2 rfl
          have hd3 := ho3.same _ _ hd2 rfl
          have hlt3 := (Array.getElem?_eq_some_iff.1 hl3).1
          refine ⟨_, _, run_endRound (P := P) none hl3, .inl ⟨rfl, ⟨hIp _ _ _ hi3, ?_, (World.putObj_heap_other (by omega)).trans hd3⟩, ((hq1.trans hq2).trans hq3).trans (Kq.put _ _ (by omega) (by omega) (by omega))⟩⟩
          rw [World.putObj_heap_same hlt3, hrc]
          rfl
        | exit i =>
          obtain ⟨rfl, ho3, hx3⟩ := h2
          have hl3 := ho3.same _ _ hl2 rfl
          have hd3 := ho3.same _ _ hd2 rfl
          have hlt3 := (Array.getElem?_eq_some_iff.1 hl3).1
          refine ⟨_, _, run_endRound (P := P) (some (.exit i)) hl3, .inr ⟨rfl, hXp _ _ _ hx3, ?_, (World.putObj_heap_other (by omega)).trans hd3⟩⟩
          rw [World.putObj_heap_same hlt3, hrc]
          rfl
        | ret => exact h2.elim
        | goto t => exact h2.elim
        | panic c => exact h2.elim
        | outgrown => exact h2.elim
      | exit i => exact h.elim
      | ret => exact h.elim
      | goto t => exact h.elim
      | panic c => exact h.elim
      | outgrown => exact h.elim)
    ⟨h0 _ _, hL1, hD1⟩
  refine ⟨w.heap.size + 1, [{ target := .collected w.heap.size, args := #[] }], (w.alloc (.deferred (some []))).alloc (.loop (rc .ready none)), { target := .fn (.func gf) lb, args := #[.func (.yield (w.heap.size + 1)) #[] #[]] }, (w.alloc (.deferred (some []))).alloc (.loop (rc .ready none)), gf, #[.func (.yield (w.heap.size + 1)) #[] #[]] ++ lb, (w.alloc (.deferred (some []))).alloc (.loop (rc .ready none)), ?_, ?_, ?_, ?_, ?_, ?_⟩
  · rw [hrc]; exact run_enterLoop_outer _ _ _ _ _
  · simp only [resolve, hg]
    simp [go_sem]
  · exact fun _ _ => trivial
  · simp [invoke, go_sem, eg]
  · exact fun e => absurd e (by simp [Fence.wide])
  · refine callsIn_wide.2 (hc.mono ?_)
    rintro e W2 ⟨⟨v, rfl⟩, ⟨hi, hl, hd⟩ | ⟨pre, hpre, hx, hl, hd⟩⟩
    · have h := run_endLoop (P := P) hl (by rw [hrc]; simp)
      refine ⟨none, _, h.trans ?_, hdone _ (hIp _ _ (.loop { rc .ready none with state := .exhausted }) hi) ((World.putObj_heap_other (by omega)).trans hd)⟩
      rw [hrc]
    · have h := run_endLoop (P := P) hl (by rw [hrc]; simp)
      refine ⟨some (.exit id), _, h.trans ?_, hstop pre _ hpre (hXp _ _ (.loop { rc .done (some (.exit id)) with state := .exhausted }) hx) ((World.putObj_heap_other (by omega)).trans hd)⟩
      rw [hrc]
end Go.Proofs.YtbhndfphegflhaaGreat

/- List of the program: a range over the iterator. Printed by gen_pt_h.py. -/
namespace Go.Proofs.YtbhndfphegflhaaGreat
open Go.RowKit

attribute [local go_sem] Oper.semAt_some

theorem box_put {W : World} {g : Nat} {t : TypeId} {cs : Array Value} (h : Box W g t cs) {l : Nat} {o : Obj} (hl : l ≠ g) : Box (W.putObj l o) g t cs := (World.putObj_heap_other hl.symm).trans h
theorem own_put {W : World} {base : Nat} {t : TypeId} {k n : Nat} {v : Value} {ys : List Value} (h : W.ownsRow base t k v n ys) {l : Nat} {o : Obj} (hl : l < base) : (W.putObj l o).ownsRow base t k v n ys := by
  refine ⟨h.1, ?_⟩
  rcases h.2 with hn | ⟨g, cap, cur, rfl, hb, hB, h4⟩
  · exact .inl hn
  · exact .inr ⟨g, cap, cur, rfl, hb, box_put (g := g) hB (by omega), h4⟩
theorem own_kx {X Y : World} {bx base : Nat} {t : TypeId} {k n : Nat} {v : Value} {ys : List Value} (h : X.ownsRow base t k v n ys) (hk : KeepX bx X Y) (hb : bx < base) : Y.ownsRow base t k v n ys := by
  refine ⟨h.1, ?_⟩
  rcases h.2 with hn | ⟨g, cap, cur, rfl, hbb, hB, h4⟩
  · exact .inl hn
  · exact .inr ⟨g, cap, cur, rfl, hbb, hk.box (g := g) hB (by omega), h4⟩
theorem own_setp {X : World} {base : Nat} {t : TypeId} {k n : Nat} {v : Value} {ys : List Value} (h : X.ownsRow base t k v n ys) {p : Addr} (hb : p.block < base) (u : Value) : (X.setCell p u).ownsRow base t k v n ys := by
  refine ⟨h.1, ?_⟩
  rcases h.2 with hn | ⟨g, cap, cur, rfl, hbb, hB, h4⟩
  · exact .inl hn
  · exact .inr ⟨g, cap, cur, rfl, hbb, Box.far (g := g) hB (by omega) u, h4⟩
theorem cell_iu_new (w : World) (x : Iu) : ∀ j u, (iuE x)[j]? = some u → (w.alloc (.cells (iuC x) 122)).cell? ((⟨w.heap.size, 0, none⟩ : Addr).add j) = some u := by
  intro j u hj
  have h := (Box.new w 122 (iuC x)).cell j
  have e : ((⟨w.heap.size, 0, none⟩ : Addr).add j) = ⟨w.heap.size, j, none⟩ := by
    unfold Addr.add
    simp
    exact fun h => h.symm
  rw [e, h, ← hj]
  simp [iuE]
/-- What has been collected of the issues that have come. -/
def colL (fr m : Nat) (xs : List Iu) : List Iu := (xs.drop fr).take m
theorem col_len {fr m : Nat} {xs : List Iu} : (colL fr m xs).length ≤ xs.length := by unfold colL; rw [List.length_take, List.length_drop]; omega
theorem col_skip {fr m : Nat} {xs : List Iu} {x : Iu} (h : xs.length < fr) : colL fr m (xs ++ [x]) = colL fr m xs := by
  unfold colL; rw [List.drop_of_length_le (by simp; omega), List.drop_of_length_le (by omega)]
theorem col_take {fr m : Nat} {xs : List Iu} {x : Iu} (h : fr ≤ xs.length) (hm : xs.length - fr < m) : colL fr m (xs ++ [x]) = colL fr m xs ++ [x] := by
  unfold colL
  rw [List.drop_append_of_le_length h, List.take_of_length_le (by simp; omega), List.take_of_length_le (by simp; omega)]
theorem col_full {fr m : Nat} {xs ys : List Iu} (h : fr + m ≤ xs.length) : colL fr m (xs ++ ys) = colL fr m xs := by
  unfold colL
  rw [List.drop_append_of_le_length (by omega), List.take_append_of_le_length (by simp; omega)]
/-- What the caller's cells hold between two rounds; b: the first of its boxes. -/
structure LsI (p : Pt) (fr m : Nat) (w : World) (pre : List Iu) (W : World) : Prop where
  k : Box W (w.heap.size + 4) 3 #[.int .i64 (pre.length : Nat)]
  fst : Box W (w.heap.size + 1) 3 #[.int .i64 (fr : Nat)]
  cnt : Box W (w.heap.size + 2) 3 #[.int .i64 (m : Nat)]
  pat : Box W (w.heap.size + 5) 67 (ptC p)
  out : ∃ v, Box W (w.heap.size + 3) 74 #[v] ∧ Iuo W (w.heap.size + 9) v (colL fr m pre)
  bel : Below w.heap.size w W
  siz : w.heap.size + 8 ≤ W.heap.size
structure LsX (fr m : Nat) (w : World) (pre : List Iu) (W : World) : Prop where
  len : fr + m ≤ pre.length
  out : ∃ v, Box W (w.heap.size + 3) 74 #[v] ∧ Iuo W (w.heap.size + 9) v (colL fr m pre)
  bel : Below w.heap.size w W
  siz : w.heap.size + 8 ≤ W.heap.size
theorem LsI.kx {p : Pt} {fr m : Nat} {w X Y : World} {pre : List Iu} (h : LsI p fr m w pre X) (hk : KeepX (w.heap.size + 8) X Y) : LsI p fr m w pre Y :=
  ⟨hk.box h.k (by omega), hk.box h.fst (by omega), hk.box h.cnt (by omega), hk.box h.pat (by omega), (by obtain ⟨v, h1, h2⟩ := h.out; exact ⟨v, hk.box h1 (by omega), own_kx h2 hk (by omega)⟩), h.bel.trans (hk.bel (by omega) (by have := h.siz; omega)), Nat.le_trans h.siz hk.size⟩
theorem LsI.put {p : Pt} {fr m : Nat} {w X : World} {pre : List Iu} (h : LsI p fr m w pre X) (o : Obj) : LsI p fr m w pre (X.putObj (w.heap.size + 7) o) :=
  ⟨box_put h.k (by omega), box_put h.fst (by omega), box_put h.cnt (by omega), box_put h.pat (by omega), (by obtain ⟨v, h1, h2⟩ := h.out; exact ⟨v, box_put h1 (by omega), own_put h2 (by omega)⟩), below_put h.bel (by omega), by rw [World.putObj_size]; exact h.siz⟩
theorem LsX.put {fr m : Nat} {w X : World} {pre : List Iu} (h : LsX fr m w pre X) (o : Obj) : LsX fr m w pre (X.putObj (w.heap.size + 7) o) :=
  ⟨h.len, (by obtain ⟨v, h1, h2⟩ := h.out; exact ⟨v, box_put h1 (by omega), own_put h2 (by omega)⟩), below_put h.bel (by omega), by rw [World.putObj_size]; exact h.siz⟩
theorem LsI.new {p : Pt} {fr m : Nat} {w X : World} {pre : List Iu} (h : LsI p fr m w pre X) (o : Obj) : LsI p fr m w pre (X.alloc o) :=
  h.kx ((KeepX.refl _ X).below ((Below.refl _ X).alloc (Nat.le_refl _) o))

theorem plist0_any (p : Pt) (fr m : Int) (hm : m < 1) (w : World) :
    Calls Tryz.prog 112 #[ptV p, .int .i64 fr, .int .i64 m] w fun e w' => e = .returned (.slice none 0 0) ∧ Below w.heap.size w w' := by
  have B0 := hide ((Below.refl w.heap.size w).alloc (Nat.le_refl _) (.cells (ptC p) 67))
  unfold ptV
  go_enter Tryz.func112, Tryz.ntmps112
  go_wp2
  go_ret
  exact ⟨rfl, B0.out⟩

set_option maxRecDepth 100000 in
set_option maxHeartbeats 8000000 in
theorem plist_any (p : Pt) (fr m : Nat) (w : World) (hp : PtM p) (hs : PtS w w.heap.size p) (hfr : fr ≤ 6000) (hm0 : 1 ≤ m) (hm : m ≤ 6000) :
    Calls Tryz.prog 112 #[ptV p, .int .i64 fr, .int .i64 m] w fun e w' => ∃ v, e = .returned v ∧ Iuo w' w.heap.size v (colL fr m (isL p 109572 5000 (ps0 p))) ∧ Below w.heap.size w w' := by
  obtain ⟨i0, hi0, hz0, hz1', hz2'⟩ := info_parts iu_info
  have hm1 : ¬ (m : Int) < 1 := by omega
  have hf1 : ¬ (fr : Int) < 0 := by omega
  have HIS := hide (fun W => issues_any p W)
  unfold ptV at HIS ⊢
  refine (callsIn_wide (n := 3)).1 ?_
  refine callsIn_of_wp_marks Tryz.func112 rfl trivial ?_ rfl
  simp only [Tryz.ntmps112, List.size_toArray, List.length_cons, List.length_nil, Nat.reduceAdd, Nat.reduceSub, Array.replicate_succ, Array.replicate_zero, List.push_toArray, List.append_toArray, List.nil_append, List.cons_append]
  gi_wp2
  refine ⟨trivial, (callsIn_wide.2 (HIS.out _)).mono ?_⟩
  rintro e w' ⟨rfl, rfl⟩
  have hp5 := hp
  have B5 := hide ((((((((Below.refl w.heap.size w).alloc (Nat.le_refl _) (.cells (ptC p) 67)).alloc (by simp) (.cells #[.int .i64 (fr : Nat)] 3)).alloc (by simp; omega) (.cells #[.int .i64 (m : Nat)] 3)).alloc (by simp; omega) (.cells #[.slice none 0 0] 74)).alloc (by simp; omega) (.cells #[.int .i64 0] 3)).alloc (by simp; omega) (.cells (ptC p) 67)))
  have F5 := hide (((((Box.new (w.alloc (.cells (ptC p) 67)) 3 #[.int .i64 (fr : Nat)]).alloc (.cells #[.int .i64 (m : Nat)] 3)).alloc (.cells #[.slice none 0 0] 74)).alloc (.cells #[.int .i64 0] 3)).alloc (.cells (ptC p) 67))
  have C5 := hide ((((Box.new ((w.alloc (.cells (ptC p) 67)).alloc (.cells #[.int .i64 (fr : Nat)] 3)) 3 #[.int .i64 (m : Nat)]).alloc (.cells #[.slice none 0 0] 74)).alloc (.cells #[.int .i64 0] 3)).alloc (.cells (ptC p) 67))
  have O5 := hide (((Box.new (((w.alloc (.cells (ptC p) 67)).alloc (.cells #[.int .i64 (fr : Nat)] 3)).alloc (.cells #[.int .i64 (m : Nat)] 3)) 74 #[.slice none 0 0]).alloc (.cells #[.int .i64 0] 3)).alloc (.cells (ptC p) 67))
  have K5 := hide ((Box.new ((((w.alloc (.cells (ptC p) 67)).alloc (.cells #[.int .i64 (fr : Nat)] 3)).alloc (.cells #[.int .i64 (m : Nat)] 3)).alloc (.cells #[.slice none 0 0] 74)) 3 #[.int .i64 0]).alloc (.cells (ptC p) 67))
  have P5 := hide (Box.new (((((w.alloc (.cells (ptC p) 67)).alloc (.cells #[.int .i64 (fr : Nat)] 3)).alloc (.cells #[.int .i64 (m : Nat)] 3)).alloc (.cells #[.slice none 0 0] 74)).alloc (.cells #[.int .i64 0] 3)) 67 (ptC p))
  simp only [World.size_alloc] at F5 C5 O5 K5 P5
  obtain ⟨W5, hW5⟩ : ∃ W5, W5 = (((((w.alloc (.cells (ptC p) 67)).alloc (.cells #[.int .i64 (fr : Nat)] 3)).alloc (.cells #[.int .i64 (m : Nat)] 3)).alloc (.cells #[.slice none 0 0] 74)).alloc (.cells #[.int .i64 0] 3)).alloc (.cells (ptC p) 67) := ⟨_, rfl⟩
  have hsz : W5.heap.size = w.heap.size + 6 := by rw [hW5]; simp
  rw [← hW5] at B5 F5 C5 O5 K5 P5 ⊢
  clear hW5
  simp only [World.size_alloc]
  gi_wp2
  refine range_law (gf := 186) (lb := #[.pointer (some ⟨w.heap.size + 1 + 1 + 1 + 1 + 1, 0, none⟩)]) (enc := iuV) (S := isL p 109572 5000 (ps0 p)) (pB := w.heap.size + 5) (n₀ := w.heap.size) (id := 0) rfl (enters_of Tryz.func186 (by kernel_rfl) rfl) rfl (by omega) (by omega) ?it
    (fun pre W => LsI p fr m w pre W) (fun pre W => LsX fr m w pre W) ?hI ?hIp ?hXp ?h0 ?hround ?hdone ?hstop
  case it =>
    intro J Jx W hW hbW hJ hY h0
    rw [← hW] at hJ hY
    have h := issues1_any p (W5.heap.size + 1) (w.heap.size + 5) w.heap.size J Jx W hp5 (hs.below (B5.out.trans (hbW.mono B5.out.size))) (P5.out.below hbW P5.out.lt) (by omega) hJ (fun pre x X h1 h2 h3 => hY pre x X h1 h2 h3) h0
    exact h
  case hI => intro s X Y hk hs; rw [hsz] at hk; exact hs.kx hk
  case hIp => intro s X o hs; rw [hsz]; exact hs.put o
  case hXp => intro s X o hs; rw [hsz]; exact hs.put o
  case h0 =>
    intro o o'
    exact ⟨(K5.out.alloc o).alloc o', (F5.out.alloc o).alloc o', (C5.out.alloc o).alloc o', (P5.out.alloc o).alloc o', ⟨_, (O5.out.alloc o).alloc o', by rw [show colL fr m [] = [] by simp [colL]]; exact World.ownsRow_nil _ _ _ _⟩, (B5.out.alloc B5.out.size o).alloc (by have := B5.out.size; simp; omega) o', by simp; omega⟩
  case hround =>
    intro pre x X hX hi hlen
    have HI := hide hi
    have HX1 := hide (hi.new (.cells (iuC x) 122))
    have BX := hide (Box.new X 122 (iuC x))
    have HQ := hide (show Kq (W5.heap.size + 2) (w.heap.size + 5) w.heap.size X (X.alloc (.cells (iuC x) 122)) from ⟨Below.heap_alloc X _ _ hX, Below.heap_alloc X _ _ hi.pat.lt, (Below.refl _ X).alloc (by have := hi.siz; omega) _⟩)
    clear hi
    unfold iuV
    gi_wp2
    refine ⟨KeepsOthers.alloc _ _, HQ.out, fun o => ?_⟩
    obtain ⟨n, hn⟩ : ∃ n, pre.length = n := ⟨_, rfl⟩
    obtain ⟨Y, hY⟩ : ∃ Y, Y = (X.alloc (.cells (iuC x) 122)).putObj (W5.heap.size + 1) o := ⟨_, rfl⟩
    have HY1 := hide (show LsI p fr m w pre Y by rw [hY, hsz]; exact HX1.out.put o)
    have BY := hide (show Box Y X.heap.size 122 (iuC x) by rw [hY]; exact box_put BX.out (by omega))
    have hYs : Y.heap.size = X.heap.size + 1 := by rw [hY]; simp
    rw [← hY]
    have hYl : w.heap.size + 9 ≤ Y.heap.size := by omega
    clear hY HX1 BX HQ hYs
    have HN := hide hn
    have hk := HY1.out.k.cell 0
    have hf := HY1.out.fst.cell 0
    have hc := HY1.out.cnt.cell 0
    have hkf := HY1.out.k.frz 0
    rw [hn] at hk hlen
    obtain ⟨v, ho1, ho2⟩ := HY1.out.out
    have hov := ho1.cell 0
    have hof := ho1.frz 0
    have HO1 := hide ho1
    have HO2 := hide ho2
    simp at hk hf hc hov
    have hk' : Y.cell? ⟨w.heap.size + 1 + 1 + 1 + 1, 0, none⟩ = some (.int .i64 (n : Int)) := hk
    have hf' : Y.cell? ⟨w.heap.size + 1, 0, none⟩ = some (.int .i64 (fr : Int)) := hf
    have hc' : Y.cell? ⟨w.heap.size + 1 + 1, 0, none⟩ = some (.int .i64 (m : Int)) := hc
    have hov' : Y.cell? ⟨w.heap.size + 1 + 1 + 1, 0, none⟩ = some v := hov
    have hkf' : Y.frozen? ⟨w.heap.size + 1 + 1 + 1 + 1, 0, none⟩ = false := hkf
    have hof' : Y.frozen? ⟨w.heap.size + 1 + 1 + 1, 0, none⟩ = false := hof
    have y0 := BY.out.cell 0
    have y1 := BY.out.cell 1
    have y2 := BY.out.cell 2
    have y3 := BY.out.cell 3
    have y4 := BY.out.cell 4
    have y5 := BY.out.cell 5
    simp at y0 y1 y2 y3 y4 y5
    have e1 : IntKind.i64.wrap ((n : Int) - fr) = (n : Int) - fr := by rw [IntKind.wrap_i64]; omega
    have e2 : IntKind.i64.wrap ((n : Int) + 1) = (n : Int) + 1 := by rw [IntKind.wrap_i64]; omega
    clear hn ho1 ho2 hk hf hc hov hkf hof
    by_cases hfr2 : fr ≤ n
    · have hz1 : (fr : Int) ≤ (n : Int) := by omega
      by_cases hful : fr + m ≤ n
      · have hz2 : (m : Int) ≤ (n : Int) - (fr : Int) := by omega
        have HXX := hide (show LsX fr m w (pre ++ [x]) Y from ⟨by rw [List.length_append, HN.out]; omega, ⟨v, HO1.out, by rw [col_full (by rw [HN.out]; exact hful)]; exact HO2.out⟩, HY1.out.bel, HY1.out.siz⟩)
        gi_wp2
        exact ⟨rfl, KeepsOthers.refl _, HXX.out⟩
      · have hz2 : ¬ (m : Int) ≤ (n : Int) - (fr : Int) := by omega
        have HCT := hide (col_take (m := m) (x := x) (show fr ≤ pre.length by rw [HN.out]; exact hfr2) (by rw [HN.out]; omega))
        have hcl : (colL fr m pre).length ≤ 5000 := by have := col_len (fr := fr) (m := m) (xs := pre); have := HN.out; omega
        gi_wp2_with (gi_at_builtin; refine wpListIn_append_own _ rfl _ _ 74 rfl (w.heap.size + 9) 122 i0 _ 6 48 Tryz.underlying74 hi0 hz0 hz1' hz2' rfl (by decide) v _ _ rfl (HO2.out.alloc _) ⟨Y.heap.size, 0, none⟩ 1 1 (iuE x) rfl rfl (cell_iu_new _ _) (iuE_one x) (by unfold maxLen; omega) (by omega) (by simp; omega) ?_)
        intro v1 w1 hown hg _
        obtain ⟨g9, cap9, rfl⟩ := ownsRow_succ hown
        have HOW := hide (show Iuo w1 (w.heap.size + 9) (.slice (some ⟨g9, 0, none⟩) ((colL fr m pre).length + 1) cap9) (colL fr m (pre ++ [x])) by
          unfold Iuo
          rw [HCT.out, List.flatMap_append, List.length_append]
          simpa using hown)
        have LG := hide (((Below.refl (w.heap.size + 9) Y).alloc (by omega) (.cells (iuC x) 122)).grown hg (by simp; omega) (fun q hq => (HO2.out.lt q hq).1))
        have KO := hide ((KeepsOthers.alloc Y (.cells (iuC x) 122)).trans (KeepsOthers.of_grownBy hg (by
          intro j o' hj ho'
          rcases HO2.out.2 with hn | ⟨g, cap, cur, hv, hbb, hB, _⟩
          · rw [hn.1] at hj; simp [Value.ownBlock] at hj
          · rw [hv] at hj
            simp [Value.ownBlock] at hj
            subst hj
            have hB2 : (Y.alloc (.cells (iuC x) 122)).heap[g]? = some (.cells cur 122 (0, 0)) := Box.alloc (g := g) hB _
            rw [hB2] at ho'
            cases ho'
            rfl)))
        have hk1 : w1.cell? ⟨w.heap.size + 1 + 1 + 1 + 1, 0, none⟩ = some (.int .i64 (n : Int)) := (LG.out.cell (p := ⟨w.heap.size + 1 + 1 + 1 + 1, 0, none⟩) (by show w.heap.size + 4 < _; omega)).trans hk'
        have ho1 : w1.cell? ⟨w.heap.size + 1 + 1 + 1, 0, none⟩ = some v := (LG.out.cell (p := ⟨w.heap.size + 1 + 1 + 1, 0, none⟩) (by show w.heap.size + 3 < _; omega)).trans hov'
        have hkf1 : w1.frozen? ⟨w.heap.size + 1 + 1 + 1 + 1, 0, none⟩ = false := (LG.out.frozen (p := ⟨w.heap.size + 1 + 1 + 1 + 1, 0, none⟩) (by show w.heap.size + 4 < _; omega)).trans hkf'
        have hof1 : w1.frozen? ⟨w.heap.size + 1 + 1 + 1, 0, none⟩ = false := (LG.out.frozen (p := ⟨w.heap.size + 1 + 1 + 1, 0, none⟩) (by show w.heap.size + 3 < _; omega)).trans hof'
        have hzl := LG.out.size
        have hysz := HY1.out.siz
        have HII := hide (show LsI p fr m w (pre ++ [x]) ((w1.setCell ⟨w.heap.size + 3, 0, none⟩ (.slice (some ⟨g9, 0, none⟩) ((colL fr m pre).length + 1) cap9)).setCell ⟨w.heap.size + 4, 0, none⟩ (.int .i64 ((n : Int) + 1))) from
          ⟨by rw [List.length_append, HN.out]; exact ((HY1.out.k.below LG.out (by omega)).far (p := ⟨w.heap.size + 3, 0, none⟩) (by show _ ≠ w.heap.size + 3; omega) _).set_ 0 _,
           ((HY1.out.fst.below LG.out (by omega)).far (p := ⟨w.heap.size + 3, 0, none⟩) (by show _ ≠ w.heap.size + 3; omega) _).far (by show _ ≠ w.heap.size + 4; omega) _,
           ((HY1.out.cnt.below LG.out (by omega)).far (p := ⟨w.heap.size + 3, 0, none⟩) (by show _ ≠ w.heap.size + 3; omega) _).far (by show _ ≠ w.heap.size + 4; omega) _,
           ((HY1.out.pat.below LG.out (by omega)).far (p := ⟨w.heap.size + 3, 0, none⟩) (by show _ ≠ w.heap.size + 3; omega) _).far (by show _ ≠ w.heap.size + 4; omega) _,
           ⟨_, ((HO1.out.below LG.out (by omega)).set_ 0 _).far (by show _ ≠ w.heap.size + 4; omega) _, own_setp (own_setp HOW.out (p := ⟨w.heap.size + 3, 0, none⟩) (by show w.heap.size + 3 < _; omega) _) (by show w.heap.size + 4 < _; omega) _⟩,
           ((HY1.out.bel.trans (LG.out.mono (by omega))).setCell (p := ⟨w.heap.size + 3, 0, none⟩) (by show w.heap.size ≤ w.heap.size + 3; omega) _).setCell (p := ⟨w.heap.size + 4, 0, none⟩) (by show w.heap.size ≤ w.heap.size + 4; omega) _,
           by rw [World.size_setCell, World.size_setCell]; omega⟩)
        have HKQ := hide (show Kq (w.heap.size + 6 + 2) (w.heap.size + 5) w.heap.size Y ((w1.setCell ⟨w.heap.size + 3, 0, none⟩ (.slice (some ⟨g9, 0, none⟩) ((colL fr m pre).length + 1) cap9)).setCell ⟨w.heap.size + 4, 0, none⟩ (.int .i64 ((n : Int) + 1))) from
          ⟨((Below.heap_setCell _ _ _ _ (by show _ ≠ w.heap.size + 4; omega)).trans (Below.heap_setCell _ _ _ _ (by show _ ≠ w.heap.size + 3; omega))).trans (LG.out.block _ (by omega)),
           ((Below.heap_setCell _ _ _ _ (by show _ ≠ w.heap.size + 4; omega)).trans (Below.heap_setCell _ _ _ _ (by show _ ≠ w.heap.size + 3; omega))).trans (LG.out.block _ (by omega)),
           ((LG.out.mono (by omega)).setCell (p := ⟨w.heap.size + 3, 0, none⟩) (by show w.heap.size ≤ w.heap.size + 3; omega) _).setCell (p := ⟨w.heap.size + 4, 0, none⟩) (by show w.heap.size ≤ w.heap.size + 4; omega) _⟩)
        clear hown hg hk' hf' hc' hov' hkf' hof' y0 y1 y2 y3 y4 y5
        gi_wp2
        exact ⟨(KO.out.trans (KeepsOthers.setCell _ _ _)).trans (KeepsOthers.setCell _ _ _), by first | exact HKQ.out | (rw [hsz]; exact HKQ.out), HII.out⟩
    · have hz1 : ¬ (fr : Int) ≤ (n : Int) := by omega
      have HII := hide (show LsI p fr m w (pre ++ [x]) (Y.setCell ⟨w.heap.size + 4, 0, none⟩ (.int .i64 ((n : Int) + 1))) from
        ⟨by rw [List.length_append, HN.out]; exact HY1.out.k.set_ 0 _, HY1.out.fst.far (by show _ ≠ w.heap.size + 4; omega) _, HY1.out.cnt.far (by show _ ≠ w.heap.size + 4; omega) _, HY1.out.pat.far (by show _ ≠ w.heap.size + 4; omega) _,
         ⟨v, HO1.out.far (by show _ ≠ w.heap.size + 4; omega) _, by rw [col_skip (by rw [HN.out]; omega)]; exact own_setp HO2.out (by show w.heap.size + 4 < _; omega) _⟩, HY1.out.bel.setCell (p := ⟨w.heap.size + 4, 0, none⟩) (by show w.heap.size ≤ w.heap.size + 4; omega) _, by rw [World.size_setCell]; exact HY1.out.siz⟩)
      gi_wp2
      exact ⟨KeepsOthers.setCell _ _ _, ⟨Below.heap_setCell _ _ _ _ (by show _ ≠ w.heap.size + 4; omega), Below.heap_setCell _ _ _ _ (by show w.heap.size + 5 ≠ w.heap.size + 4; omega), (Below.refl _ _).setCell (p := ⟨w.heap.size + 4, 0, none⟩) (by show w.heap.size ≤ w.heap.size + 4; omega) _⟩, HII.out⟩
  case hdone =>
    intro W hi hd
    obtain ⟨v, h1, h2⟩ := hi.out
    have hc : W.cell? ⟨w.heap.size + 1 + 1 + 1, 0, none⟩ = some v := h1.cell 0
    gi_wp2
    refine ⟨by simp, .inl ⟨_, _, rfl, run_takeDeferred hd, ?_⟩⟩
    exact ⟨_, results_tmp rfl _ _ _, v, rfl, own_base (own_put (show Iuo W (w.heap.size + 9) v (colL fr m (isL p 109572 5000 (ps0 p))) from h2) (by omega)) (by omega), below_put hi.bel (by omega)⟩
  case hstop =>
    intro pre W hpre hx hd
    obtain ⟨v, h1, h2⟩ := hx.out
    have hc : W.cell? ⟨w.heap.size + 1 + 1 + 1, 0, none⟩ = some v := h1.cell 0
    gi_wp2
    refine ⟨by simp, .inl ⟨_, _, rfl, run_takeDeferred hd, ?_⟩⟩
    exact ⟨_, results_tmp rfl _ _ _, v, rfl, own_base (own_put (show Iuo W (w.heap.size + 9) v (colL fr m (isL p 109572 5000 (ps0 p))) from (by obtain ⟨t, ht⟩ := hpre; rw [← ht, col_full hx.len]; exact h2)) (by omega)) (by omega), below_put hx.bel (by omega)⟩
end Go.Proofs.YtbhndfphegflhaaGreat
