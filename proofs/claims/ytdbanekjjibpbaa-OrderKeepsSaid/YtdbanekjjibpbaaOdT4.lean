/- Walks: the law OrderKeeps. Printed by gen_od_keeps.py. -/
import Derived.Test.YtdbanekjjibpbaaOdT2
import Derived.Deep.Cut
import Derived.Deep.CutRange
import Derived.Deep.DeepCutAuto
import Derived.StillTailTactics
namespace Go.Proofs.Ytdbanekjjibpbaa
open Go.RowKit

theorem Odo_far {w : World} {B : Nat} {v : Value} {xs : List Od} (h : Odo w B v xs) {p : Addr} (hp : v.ownBlock ≠ some p.block) (u : Value) : Odo (w.setCell p u) B v xs := by
  refine ⟨h.1, ?_⟩
  rcases h.2 with hn | ⟨g, cap, cur, rfl, hb, hB, h4⟩
  · exact .inl hn
  · refine .inr ⟨g, cap, cur, rfl, hb, ?_, h4⟩
    exact Box.far (g := g) hB (fun e => hp (by simp [Value.ownBlock, e])) u
theorem Odo_far_cells {B : Nat} {v : Value} {xs : List Od} {b : Nat} (hb : v.ownBlock ≠ some b) : ∀ (vs : List Value) (o : Nat) (w : World), Odo w B v xs → Odo (w.setCells b o vs) B v xs
  | [], _, _, h => h
  | u :: r, o, _, h => Odo_far_cells hb r (o + 1) _ (Odo_far h (p := ⟨b, o, none⟩) hb u)
theorem own_below {w w' : World} {B n k : Nat} {t : TypeId} {v : Value} {ys : List Value} (h : w.ownsRow B t k v n ys) (hb : Below w.heap.size w w') : w'.ownsRow B t k v n ys := by
  refine ⟨h.1, ?_⟩
  rcases h.2 with hn | ⟨g, cap, cur, rfl, hbb, hB, h4⟩
  · exact .inl hn
  · exact .inr ⟨g, cap, cur, rfl, hbb, Box.below (g := g) hB hb (Box.lt hB), h4⟩
theorem splice_all {l c : List Value} (h : l.length = c.length) : splice l 0 c = c := by
  unfold splice
  rw [List.take_zero, Nat.zero_add, List.drop_of_length_le (by omega), List.nil_append, List.append_nil]
theorem Box.put {w : World} {g : Nat} {y z : Od} (h : Box w g 37 (odC y)) : Box (w.setCells g 0 (odE z)) g 37 (odC z) := by
  have := h.setCells (odE z) 0 w (odC y) (by simp [odE])
  rw [splice_all (by simp [odE])] at this
  exact this
/-- What the law asks of a change that succeeded. -/
structure KpB (r : Int × List Od) (y0 y1 : Od) (is : Bool) (d : Int) : Prop where
  is : is = true
  right : rightO r.2 = 0
  m0 : OdM y0
  m1 : OdM y1
  rs : resvO y1 = resvO y0 - d
theorem resv_bd {x : Od} (h : OdM x) : 0 ≤ resvO x ∧ resvO x ≤ 99000000 := by
  have ⟨a1, a2⟩ := h.cop
  have ⟨p1, p2⟩ := h.pri
  have ⟨r1, r2⟩ := h.rcv
  have ⟨b1, b2⟩ := h.bil
  have g1 : 0 ≤ (x.cop - x.bil) * x.pri := Int.mul_nonneg (by omega) (by omega)
  have g2 : (x.cop - x.bil) * x.pri ≤ 99 * 1000000 := Int.mul_le_mul (by omega) p2 (by omega) (by omega)
  have g3 : 0 ≤ (x.rcv - x.bil) * x.pri := Int.mul_nonneg (by omega) (by omega)
  have g4 : (x.rcv - x.bil) * x.pri ≤ 99 * 1000000 := Int.mul_le_mul (by omega) p2 (by omega) (by omega)
  unfold resvO
  split
  · omega
  · split <;> omega
theorem rcv_keeps {xs : List Od} (hv : VldO xs) (id m : Int) : (receiveO xs id m).1 ≠ 0 ∨
    ((receiveO xs id m).1 = 0 ∧ KpB (receiveO xs id m) (getO xs id).1 (getO (receiveO xs id m).2 id).1 (getO xs id).2 0 ∧ (getO (receiveO xs id m).2 id).1.rcv = (getO xs id).1.rcv + m) := by
  rcases opO_cases hv id (er := rcvE m) (g := rcvF m) (fun _ => rfl) (fun x h1 h2 => (rcv_ok h1 h2).1) with ⟨h, _⟩ | ⟨x, he, hx, h1, h2, h3, h4, h5, h6⟩
  · exact .inl h
  · right
    obtain ⟨k1, k2⟩ := rcv_ok hx he
    refine ⟨h1, ⟨by rw [h2], h4, by rw [h2]; exact (chkO_M hx).1, ?_, ?_⟩, ?_⟩
    · show OdM (getO (opO xs id (rcvE m) (rcvF m)).2 id).1
      rw [h3]; exact (chkO_M k1).1
    · show resvO (getO (opO xs id (rcvE m) (rcvF m)).2 id).1 = _
      rw [h3, h2, k2]; simp
    · show (getO (opO xs id (rcvE m) (rcvF m)).2 id).1.rcv = _
      rw [h3, h2]; rfl
theorem bill_keeps {xs : List Od} (hv : VldO xs) (b : Bl) : (billO xs b).1 ≠ 0 ∨
    ((billO xs b).1 = 0 ∧ KpB (billO xs b) (getO xs b.ord).1 (getO (billO xs b).2 b.ord).1 (getO xs b.ord).2 (b.cop * (getO xs b.ord).1.pri) ∧ (getO (billO xs b).2 b.ord).1.paid = (getO xs b.ord).1.paid + b.amt ∧ (1 ≤ b.cop ∧ b.cop ≤ 99) ∧ (1 ≤ b.amt ∧ b.amt ≤ 100000000)) := by
  rcases opO_cases hv b.ord (er := billE b) (g := billF b) (fun _ => rfl) (fun x h1 h2 => (bill_ok h1 h2).1) with ⟨h, _⟩ | ⟨x, he, hx, h1, h2, h3, h4, h5, h6⟩
  · exact .inl h
  · right
    obtain ⟨k1, k2⟩ := bill_ok hx he
    have hM := (chkO_M hx).1
    obtain ⟨_, ⟨c1, c2⟩, a1, a2⟩ := billE_ok he
    have hr := hM.rcv; have hb := hM.bil; have hc := hM.cop; have hp := hM.paid
    refine ⟨h1, ⟨by rw [h2], h4, by rw [h2]; exact hM, ?_, ?_⟩, ?_, by omega, by omega⟩
    · show OdM (getO (opO xs b.ord (billE b) (billF b)).2 b.ord).1
      rw [h3]; exact (chkO_M k1).1
    · show resvO (getO (opO xs b.ord (billE b) (billF b)).2 b.ord).1 = _
      rw [h3, h2, k2]
    · show (getO (opO xs b.ord (billE b) (billF b)).2 b.ord).1.paid = _
      rw [h3, h2]; rfl
theorem stop_keeps {xs : List Od} (hv : VldO xs) (id : Int) : (stopO xs id).1 ≠ 0 ∨
    ((stopO xs id).1 = 0 ∧ KpB (stopO xs id) (getO xs id).1 (getO (stopO xs id).2 id).1 (getO xs id).2 (((getO xs id).1.cop - (getO xs id).1.rcv) * (getO xs id).1.pri)) := by
  rcases opO_cases hv id (er := stopE) (g := stopF) (fun _ => rfl) (fun x h1 h2 => (stop_ok h1 h2).1) with ⟨h, _⟩ | ⟨x, he, hx, h1, h2, h3, h4, h5, h6⟩
  · exact .inl h
  · right
    obtain ⟨k1, k2⟩ := stop_ok hx he
    refine ⟨h1, ⟨by rw [h2], h4, by rw [h2]; exact (chkO_M hx).1, ?_, ?_⟩⟩
    · show OdM (getO (opO xs id stopE stopF).2 id).1
      rw [h3]; exact (chkO_M k1).1
    · show resvO (getO (opO xs id stopE stopF).2 id).1 = _
      rw [h3, h2, k2]
theorem place_keeps (xs : List Od) (x : Od) : (placeO xs x).1 ≠ 0 ∨ ((placeO xs x).1 = 0 ∧ (placeO xs x).2 = xs ++ [x] ∧ rightO (xs ++ [x]) = 0 ∧ OdM x ∧ resvO x = x.cop * x.pri) := by
  unfold placeO
  split
  · rename_i h
    split
    · rename_i h2
      right
      have hx := chkOs_ok _ _ (VldO.of h2).chk x (by simp)
      refine ⟨rfl, rfl, h2, (chkO_M hx).1, ?_⟩
      unfold resvO; rw [if_pos h.1, h.2.2.1, Int.sub_zero]
    · rename_i h2; left; exact h2
  · left; simp

set_option maxRecDepth 100000 in
set_option maxHeartbeats 8000000 in
theorem orderKeeps_any (A : Option Addr) (n c : Nat) (xs : List Od) (x : Od) (q : Bl) (m : Int) (w : World) (hs : Ods w w.heap.size A n c xs) (hss : ∀ x ∈ xs, x.shn ≤ 8 → OdS w w.heap.size x) (hx : x.shn ≤ 8 → OdS w w.heap.size x) :
    LawO 9 #[.slice A n c, odV x, blV q, .int .i64 m] w := by
  unfold LawO
  obtain rfl := hs.len
  have hbig := hs.big
  have hle := hs.le
  have hsl : ∀ W, Below w.heap.size w W → Ods W W.heap.size A xs.length c xs := fun W hW => (hs.below hW).more hW.size
  have HF := hide (fun W (hW : Below w.heap.size w W) => few_any A _ c xs W _ (hsl W hW))
  have B0 := hide (((Below.refl w.heap.size w).alloc (Nat.le_refl _) (.cells (odC x) 37)).alloc (by simp) (.cells (blC q) 32))
  have Z0 := hide (Below.refl (w.heap.size + 2) ((w.alloc (.cells (odC x) 37)).alloc (.cells (blC q) 32)))
  have HZ := hide (fun W (hW : Below (w.heap.size + 2) ((w.alloc (.cells (odC x) 37)).alloc (.cells (blC q) 32)) W) => And.intro (((Box.new w 37 (odC x)).alloc (.cells (blC q) 32)).below hW (by omega)) ((show Box ((w.alloc (.cells (odC x) 37)).alloc (.cells (blC q) 32)) (w.heap.size + 1) 32 (blC q) by have h := Box.new (w.alloc (.cells (odC x) 37)) 32 (blC q); rwa [World.size_alloc] at h).below hW (by omega)))
  by_cases hf : fewO xs = true
  · rw [hf] at HF
    by_cases h60 : xs.length ≤ 60
    · have h60z : ¬ (60 : Int) < (xs.length : Int) := by omega
      by_cases h8 : x.shn ≤ 8
      · have h8z : ¬ (8 : Int) < (x.shn : Int) := by omega
        have hSS := fun W (hW : Below w.heap.size w W) y (hy : y ∈ xs) => ((hss y hy (fewO_8 hf y hy)).below hW).more hW.size
        have hX := fun W (hW : Below w.heap.size w W) => ((hx h8).below hW).more hW.size
        have hR := fun W (hW : Below w.heap.size w W) => oright_any A _ c xs W (hsl W hW) (hSS W hW)
        by_cases hr : rightO xs = 0
        · rw [hr] at hR
          have hV := VldO.of hr
          have HR := hide hR
          have hpl := fun W (hW : Below w.heap.size w W) => oplace_any A _ c xs x W (hsl W hW) (hSS W hW) (hX W hW) h60
          have hk0 := place_keeps xs x
          have hrp : ∀ W A1 n1 c1, Below w.heap.size w W → Ods W W.heap.size A1 n1 c1 (xs ++ [x]) → Calls Try.prog 28 #[.slice A1 n1 c1] W fun e w' => e = .returned (.int .i64 (rightO (xs ++ [x]))) ∧ Below W.heap.size W w' := fun W A1 n1 c1 hW h => oright_any A1 n1 c1 _ W h (fun y hy => by
            rcases List.mem_append.1 hy with hy | hy
            · exact hSS W hW y hy
            · rw [List.mem_singleton.1 hy]; exact hX W hW)
          have hres : ∀ (r : Int × List Od), (∀ z ∈ r.2, ∃ y ∈ xs, SmSh z y) → ∀ W A1 n1 c1, Below w.heap.size w W → Ods W W.heap.size A1 n1 c1 r.2 → Calls Try.prog 28 #[.slice A1 n1 c1] W fun e w' => e = .returned (.int .i64 (rightO r.2)) ∧ Below W.heap.size W w' := fun r hr W A1 n1 c1 hW h => oright_any A1 n1 c1 _ W h (fun z hz => by
            obtain ⟨y, hy, hsm⟩ := hr z hz
            exact hsm.od (hSS W hW y hy))
          have hg := fun W (hW : Below w.heap.size w W) => oget_any A _ c xs q.ord W (hsl W hW)
          have hrc := fun W (hW : Below w.heap.size w W) => oreceive_any A _ c xs q.ord m W (hsl W hW) (by omega) hV.M
          have hbl := fun W (hW : Below w.heap.size w W) => obillF_any A _ c xs q W (hsl W hW) (by omega) hV.M
          have hst := fun W (hW : Below w.heap.size w W) => ostopF_any A _ c xs q.ord W (hsl W hW) (by omega) hV.M
          have hk1 := rcv_keeps hV q.ord m
          have hk2 := bill_keeps hV q
          have hk3 := stop_keeps hV q.ord
          have hr1 := hres (receiveO xs q.ord m) receiveO_mem
          have hr2 := hres (billO xs q) billO_mem
          have hr3 := hres (stopO xs q.ord) stopO_mem
          have hl2 : (billO xs q).2.length ≤ 1000 := opO_len (by omega)
          have hl3 : (stopO xs q.ord).2.length ≤ 1000 := opO_len (by omega)
          generalize placeO xs x = r0 at hpl hk0
          generalize receiveO xs q.ord m = r1 at hrc hk1 hr1
          generalize billO xs q = r2 at hbl hk2 hr2 hl2
          generalize stopO xs q.ord = r3 at hst hk3 hr3 hl3
          generalize getO xs q.ord = y0 at hg hk1 hk2 hk3
          obtain ⟨y0, is⟩ := y0
          simp only at hg hk1 hk2 hk3
          unfold odV at hpl hg
          unfold blV at hbl
          have HPL := hide hpl
          have HK0 := hide hk0
          have HRP := hide hrp
          have HG := hide hg
          have HRC := hide hrc
          have HBL := hide hbl
          have HST := hide hst
          have HK1 := hide hk1
          have HK2 := hide hk2
          have HK3 := hide hk3
          have HR1 := hide hr1
          have HR2 := hide hr2
          have HR3 := hide hr3
          have HL2 := hide hl2
          have HL3 := hide hl3
          clear hf h8 hr hR hSS hX hs hss hsl hx hV hpl hk0 hrp hres hg hrc hbl hst hk1 hk2 hk3 hr1 hr2 hr3 hl2 hl3
          unfold odV blV
          go_enter Try.func9, Try.ntmps9
          go_wp2_with fail
          refine (oalive_any _).mono ?_
          rintro e w1 ⟨rfl, hb⟩
          have B1 := hide (B0.out.trans (hb.mono (by simp; omega)))
          have Z1 := hide (Z0.out.trans (hb.mono (by simp)))
          clear hb B0 Z0
          obtain ⟨_, d0, d1, d2, d3, d4, d5, d6, d7, d8, d9⟩ := od_box (HZ.out _ Z1.out).1 (Below.refl _ _)
          go_wp2_with fail
          refine (HF.out _ B1.out).mono ?_
          rintro e w_ ⟨rfl, rfl⟩
          go_wp2_with fail
          refine (HR.out _ B1.out).mono ?_
          rintro e w2 ⟨rfl, hb⟩
          have B2 := hide (B1.out.trans (hb.mono B1.out.size))
          have Z2 := hide (Z1.out.trans (hb.mono (Nat.le_trans (by simp) Z1.out.size)))
          clear hb HR B1 Z1
          clear d0 d1 d2 d3 d4 d5 d6 d7 d8 d9
          obtain ⟨_, d0, d1, d2, d3, d4, d5, d6, d7, d8, d9⟩ := od_box (HZ.out _ Z2.out).1 (Below.refl _ _)
          go_wp2_with fail
          refine (HPL.out _ B2.out).mono ?_
          rintro e w3 ⟨A1, n1, c1, rfl, hsl1, hb⟩
          have B3 := hide (B2.out.trans (hb.mono B2.out.size))
          have Z3 := hide (Z2.out.trans (hb.mono (Nat.le_trans (by simp) Z2.out.size)))
          have S1 := hide hsl1
          clear hb B2 Z2 hsl1 HPL
          clear d0 d1 d2 d3 d4 d5 d6 d7 d8 d9
          obtain ⟨_, d0, d1, d2, d3, d4, d5, d6, d7, d8, d9⟩ := od_box (HZ.out _ Z3.out).1 (Below.refl _ _)
          go_upto_region 6 with fail
          go_cut [70] from 42 to 70 (fun s70 wx => s70 = .bool false ∧ Below w3.heap.size w3 wx)
          case first =>
            rcases HK0.out with hne | ⟨h0, h1, h2, hM, hrv⟩
            · have hb0 : (r0.1 == 0) = false := by simpa using hne
              clear hne
              refine wp_region_grn (by kernel_rfl) (by kernel_rfl) ?_
              repeat (go_big_quiet_step (fail))
              refine wpQuiet_nil ?_
              rintro _ ⟨p, rfl⟩
              have hbp := p.h
              go_wp2
              go_meet
              case rel => exact ⟨rfl, hbp⟩
            · have hs1 := S1.out
              rw [h1] at hs1
              have hn1 : n1 = xs.length + 1 := by have := hs1.len; simp at this; omega
              have hnb : ((n1 : Int) != (xs.length : Int) + 1) = false := by simp; omega
              have hlz : (xs.length : Int) < (n1 : Int) := by omega
              have hb0 : (r0.1 == 0) = true := by simpa using h0
              obtain ⟨bb, oo, y, rfl, hbB, hy, c0, c1', c2, c3, c4, c5, c6, c7, c8, c9⟩ := Ods_at hs1 (k := xs.length) (by omega)
              obtain rfl : y = x := by rw [List.getElem?_append_right (Nat.le_refl _), Nat.sub_self] at hy; simpa using hy.symm
              have hrx := fun W => oresv_any y W (.inl hM)
              rw [hrv] at hrx
              have hrt := fun (p : Grn w3) => HRP.out p.W _ _ c1 (B3.out.trans (p.h.mono B3.out.size)) ((hs1.below p.h).more p.h.size)
              rw [h2] at hrt
              have hmb := resv_bd hM
              rw [hrv] at hmb
              obtain ⟨mb1, mb2⟩ := hmb
              have hw1 : IntKind.i64.wrap (y.cop * y.pri) = y.cop * y.pri := by rw [IntKind.wrap_i64]; omega
              have hw2 : IntKind.i64.wrap ((xs.length : Int) + 1) = (xs.length : Int) + 1 := by rw [IntKind.wrap_i64]; omega
              unfold odV at hrx
              have HN1 := hide hn1
              have HRX := hide hrx
              have HRT := hide hrt
              clear hrx hrt hy hs1 h0 h1 h2 hM hrv hn1 S1
              have f0 := Grn.cell c0
              have f1 := Grn.cell c1'
              have f2 := Grn.cell c2
              have f3 := Grn.cell c3
              have f4 := Grn.cell c4
              have f5 := Grn.cell c5
              have f6 := Grn.cell c6
              have f7 := Grn.cell c7
              have f8 := Grn.cell c8
              have f9 := Grn.cell c9
              have g3 := Grn.cell d3
              have g4 := Grn.cell d4
              refine wp_region_grn (by kernel_rfl) (by kernel_rfl) ?_
              repeat (go_big_quiet_step (first | (go_at_call 28; exact Calls_grn (HRT.out _)) | (go_at_call 25; exact Calls_grn (HRX.out _))))
              refine wpQuiet_nil ?_
              rintro _ ⟨p, rfl⟩
              have hbp := p.h
              go_wp2
              go_meet
              case rel => exact ⟨rfl, hbp⟩
          case rest =>
            obtain ⟨rfl, hb⟩ := hcut
            have B4 := hide (B3.out.trans (hb.mono B3.out.size))
            have Z4 := hide (Z3.out.trans (hb.mono (Nat.le_trans (by simp) Z3.out.size)))
            clear hb B3 Z3 S1 HK0 HRP d0 d1 d2 d3 d4 d5 d6 d7 d8 d9
            have hbq := (HZ.out _ Z4.out).2
            have e0 := hbq.cell 0
            have e1 := hbq.cell 1
            have e2 := hbq.cell 2
            have e3 := hbq.cell 3
            have e4 := hbq.cell 4
            simp at e0 e1 e2 e3 e4
            clear hbq
            go_wp2_with fail
            refine (HG.out _ B4.out).mono ?_
            rintro e w5 ⟨rfl, hb⟩
            have B5 := hide ((B4.out.trans (hb.mono B4.out.size)).alloc (Nat.le_trans B4.out.size hb.size) (.cells (odC y0) 37))
            have Z5 := hide ((Z4.out.trans (hb.mono (Nat.le_trans (by simp) Z4.out.size))).alloc (Nat.le_trans (by simp) (Nat.le_trans Z4.out.size hb.size)) (.cells (odC y0) 37))
            have Y5 := hide (Below.refl (w5.heap.size + 1) (w5.alloc (.cells (odC y0) 37)))
            have HY := hide (fun W (hW : Below (w5.heap.size + 1) (w5.alloc (.cells (odC y0) 37)) W) => (Box.new w5 37 (odC y0)).below hW (by omega))
            have hz5 : w.heap.size + 2 ≤ w5.heap.size := Nat.le_trans (by simp) (Nat.le_trans Z4.out.size hb.size)
            clear hb B4 Z4 HG
            clear e0 e1 e2 e3 e4
            have hbq := (HZ.out _ Z5.out).2
            have e0 := hbq.cell 0
            have e1 := hbq.cell 1
            have e2 := hbq.cell 2
            have e3 := hbq.cell 3
            have e4 := hbq.cell 4
            simp at e0 e1 e2 e3 e4
            clear hbq
            go_wp2_with fail
            refine (HRC.out _ B5.out).mono ?_
            rintro e w6 ⟨A2, n2, c2, rfl, hsl2, hb⟩
            have B6 := hide (B5.out.trans (hb.mono B5.out.size))
            have Z6 := hide (Z5.out.trans (hb.mono (Nat.le_trans (by simp) Z5.out.size)))
            have Y6 := hide (Y5.out.trans (hb.mono (by simp)))
            have HG2 := hide (oget_any A2 n2 c2 r1.2 q.ord w6 hsl2)
            have S2 := hide hsl2
            clear hb B5 Z5 Y5 hsl2 HRC
            clear e0 e1 e2 e3 e4
            have hbq := (HZ.out _ Z6.out).2
            have e0 := hbq.cell 0
            have e1 := hbq.cell 1
            have e2 := hbq.cell 2
            have e3 := hbq.cell 3
            have e4 := hbq.cell 4
            simp at e0 e1 e2 e3 e4
            clear hbq
            generalize hy1 : getO r1.2 q.ord = y1 at HG2
            obtain ⟨y1, is1⟩ := y1
            have HK1' := HK1.out
            rw [hy1] at HK1'
            have HKK := hide HK1'
            unfold odV at HG2
            simp only at HG2
            clear HK1' HK1 hy1
            go_wp2_with fail
            refine HG2.out.mono ?_
            rintro e w7 ⟨rfl, hb⟩
            have hz7 : w5.heap.size + 1 ≤ w7.heap.size := Nat.le_trans (by simp) (Nat.le_trans Y6.out.size hb.size)
            have B7 := hide ((B6.out.trans (hb.mono B6.out.size)).alloc (Nat.le_trans B6.out.size hb.size) (.cells (odC y1) 37))
            have Z7 := hide ((Z6.out.trans (hb.mono (Nat.le_trans (by simp) Z6.out.size))).alloc (by omega) (.cells (odC y1) 37))
            have Y7 := hide ((Y6.out.trans (hb.mono (Nat.le_trans (by simp) Y6.out.size))).alloc (by omega) (.cells (odC y1) 37))
            have S3 := hide (((S2.out.below hb).more hb.size).alloc (Nat.le_refl _) (.cells (odC y1) 37))
            obtain ⟨W7, hW7⟩ : ∃ W, W = w7.alloc (.cells (odC y1) 37) := ⟨_, rfl⟩
            have X7 := hide (show Box W7 w7.heap.size 37 (odC y1) by rw [hW7]; exact Box.new _ _ _)
            have hzz : W7.heap.size = w7.heap.size + 1 := by rw [hW7]; simp
            have HW7 := hide hW7
            rw [← hW7] at B7 Z7 Y7 S3
            clear hb B6 Z6 Y6 S2 HG2 hW7
            clear e0 e1 e2 e3 e4
            go_upto_region 11 with fail
            rw [← HW7.out]
            go_cut [119] from 93 to 119 (fun s wx => s = .bool false ∧ Below W7.heap.size W7 wx)
            case first =>
              clear HW7
              rcases HKK.out with hne | ⟨h0, hK, hrcv⟩
              · have hb0 : (r1.1 == 0) = false := by simpa using hne
                clear hne
                refine wp_region_grn (by kernel_rfl) (by kernel_rfl) ?_
                repeat (go_big_quiet_step (fail))
                refine wpQuiet_nil ?_
                rintro _ ⟨p, rfl⟩
                have hbp := p.h
                go_wp2
                go_meet
                case rel => exact ⟨rfl, hbp⟩
              · obtain ⟨his, hrt0, hM0, hM1, hrs⟩ := hK
                (try simp only at hM1 hrs hrcv)
                subst his
                have hb0 : (r1.1 == 0) = true := by simpa using h0
                have hr0 := fun W => oresv_any y0 W (.inl hM0)
                have hr1 := fun W => oresv_any y1 W (.inl hM1)
                rw [hrs, Int.sub_zero] at hr1
                have hrt := fun (p : Grn W7) => HR1.out p.W A2 n2 c2 (B7.out.trans (p.h.mono B7.out.size)) ((S3.out.below (p.h.mono (by omega))).more (by have := p.h.size; omega))
                rw [hrt0] at hrt
                have q1 := hM0.rcv
                have q2 := hM0.cop
                have q3 := hM1.rcv
                have q4 := hM1.cop
                have hw1 : IntKind.i64.wrap (y0.rcv + m) = y0.rcv + m := by rw [IntKind.wrap_i64]; omega
                generalize resvO y0 = rv at hr0 hr1
                unfold odV at hr0 hr1
                have H0 := hide hr0
                have H1 := hide hr1
                have HRT := hide hrt
                obtain ⟨_, k0, k1, k2, k3, k4, k5, k6, k7, k8, k9⟩ := od_box (HY.out _ Y7.out) (Below.refl _ _)
                obtain ⟨_, l0, l1, l2, l3, l4, l5, l6, l7, l8, l9⟩ := od_box X7.out (Below.refl _ _)
                rw [hrcv] at l5 H1
                clear hr0 hr1 hrt h0 hrt0 hM0 hM1 hrs hrcv q1 q2 q3 q4
                have f0 := Grn.cell k0
                have g0 := Grn.cell l0
                have f1 := Grn.cell k1
                have g1 := Grn.cell l1
                have f2 := Grn.cell k2
                have g2 := Grn.cell l2
                have f3 := Grn.cell k3
                have g3 := Grn.cell l3
                have f4 := Grn.cell k4
                have g4 := Grn.cell l4
                have f5 := Grn.cell k5
                have g5 := Grn.cell l5
                have f6 := Grn.cell k6
                have g6 := Grn.cell l6
                have f7 := Grn.cell k7
                have g7 := Grn.cell l7
                have f8 := Grn.cell k8
                have g8 := Grn.cell l8
                have f9 := Grn.cell k9
                have g9 := Grn.cell l9
                refine wp_region_grn (by kernel_rfl) (by kernel_rfl) ?_
                repeat (go_big_quiet_step (first | (go_at_call 28; exact Calls_grn (HRT.out _)) | (go_at_call 25; with_reducible exact Calls_grn (H0.out _)) | (go_at_call 25; with_reducible exact Calls_grn (H1.out _))))
                refine wpQuiet_nil ?_
                rintro _ ⟨p, rfl⟩
                have hbp := p.h
                go_wp2
                go_meet
                case rel => exact ⟨rfl, hbp⟩
            case rest =>
              obtain ⟨rfl, hb⟩ := hcut
              have B8 := hide (B7.out.trans (hb.mono B7.out.size))
              have Z8 := hide (Z7.out.trans (hb.mono (by omega)))
              have Y8 := hide (Y7.out.trans (hb.mono (by omega)))
              have X8 := hide (X7.out.below hb (by omega))
              have hz8 : w7.heap.size < wc.heap.size := by have := hb.size; omega
              clear hb B7 Z7 Y7 X7 S3 HKK HR1 HW7
              have hbq := (HZ.out _ Z8.out).2
              have e0 := hbq.cell 0
              have e1 := hbq.cell 1
              have e2 := hbq.cell 2
              have e3 := hbq.cell 3
              have e4 := hbq.cell 4
              simp at e0 e1 e2 e3 e4
              clear hbq
              go_wp2_with fail
              refine (HBL.out _ B8.out).mono ?_
              rintro e w9 ⟨v9, rfl, hown, hb⟩
              have hz9 : w7.heap.size < w9.heap.size := Nat.lt_of_lt_of_le hz8 hb.size
              have B9 := hide (B8.out.trans (hb.mono B8.out.size))
              have Z9 := hide (Z8.out.trans (hb.mono (by omega)))
              have Y9 := hide (Y8.out.trans (hb.mono (by omega)))
              have X9 := hide (X8.out.below hb hz8)
              have hbk : v9.ownBlock ≠ some w7.heap.size := fun e => by have := (hown.lt _ e).1; omega
              have HO9 := hide hown
              have HBK9 := hide hbk
              obtain ⟨A9, c9, hv9, hsl⟩ := Odo_sl hown (by have := HL2.out; omega)
              subst hv9
              have HGk := hide (oget_any A9 _ c9 r2.2 q.ord w9 hsl)
              clear hb B8 Z8 Y8 X8 hown hbk hsl HBL
              clear e0 e1 e2 e3 e4
              have hbq := (HZ.out _ Z9.out).2
              have e0 := hbq.cell 0
              have e1 := hbq.cell 1
              have e2 := hbq.cell 2
              have e3 := hbq.cell 3
              have e4 := hbq.cell 4
              simp at e0 e1 e2 e3 e4
              clear hbq
              generalize hy9 : getO r2.2 q.ord = y2 at HGk
              obtain ⟨y2, is9⟩ := y2
              have HKt := HK2.out
              rw [hy9] at HKt
              have HKK := hide HKt
              unfold odV at HGk
              simp only at HGk
              clear HKt HK2 hy9
              obtain ⟨n9, hn9⟩ : ∃ n, n = r2.2.length := ⟨_, rfl⟩
              rw [← hn9] at HGk HO9 HBK9 ⊢
              have HN9 := hide hn9
              clear hn9
              go_upto_region 14 with fail
              go_cut [] from 126 to 132 (fun wx => Below w7.heap.size w9 wx ∧ Box wx w7.heap.size 37 (odC y2) ∧ wx.ownsRow w7.heap.size 37 10 (.slice A9 n9 c9) n9 (r2.2.flatMap odE) ∧ w7.heap.size < wx.heap.size)
              case first =>
                have hx10 := X9.out
                go_wp2_with fail
                refine HGk.out.mono ?_
                rintro e w9b ⟨rfl, hb⟩
                have hbx := hx10.below hb hz9
                obtain ⟨_, l0, l1, l2, l3, l4, l5, l6, l7, l8, l9⟩ := od_box hbx (Below.refl _ _)
                have hfz := fun j => hbx.frz j
                have hzb : w7.heap.size < w9b.heap.size := Nat.lt_of_lt_of_le hz9 hb.size
                have HBX := hide hbx
                have HB := hide hb
                clear hbx hb hx10 e0 e1 e2 e3 e4
                go_wp2
                go_meet
                case rel =>
                  refine ⟨below_setCells (Nat.le_refl _) (odE y2) 0 _ (HB.out.mono (by omega)), Box.put HBX.out, ?_, ?_⟩
                  · have h := Odo_far_cells (b := w7.heap.size) HBK9.out (odE y2) 0 _ (own_below HO9.out HB.out)
                    unfold Odo at h
                    rw [← HN9.out] at h
                    exact own_base h (by omega)
                  · have := hzb; simpa using this
              case rest =>
                obtain ⟨hb, hbx, hown, hzc⟩ := hcut
                have B9c := hide (B9.out.trans (hb.mono (by omega)))
                have Z9c := hide (Z9.out.trans (hb.mono (by omega)))
                have Y9c := hide (Y9.out.trans (hb.mono (by omega)))
                have X9c := hide hbx
                have S9c := hide (Sl.of_own odE_len hown HN9.out.symm (by have := HN9.out; have := HL2.out; omega))
                have hz9c := hzc
                clear hb hbx hown hzc B9 Z9 Y9 X9 HO9 HBK9 HGk e0 e1 e2 e3 e4
                have hbq := (HZ.out _ Z9c.out).2
                have e0 := hbq.cell 0
                have e1 := hbq.cell 1
                have e2 := hbq.cell 2
                have e3 := hbq.cell 3
                have e4 := hbq.cell 4
                simp at e0 e1 e2 e3 e4
                clear hbq
                go_upto_region 15 with fail
                go_cut [166] from 133 to 166 (fun s wx => s = .bool false ∧ Below wc.heap.size wc wx)
                case first =>
                  rcases HKK.out with hne | ⟨h0, hK, hx⟩
                  · have hb0 : (r2.1 == 0) = false := by simpa using hne
                    have hb0' : (r2.1 != 0) = true := by simpa using hne
                    clear hne
                    refine wp_region_grn (by kernel_rfl) (by kernel_rfl) ?_
                    repeat (go_big_quiet_step (fail))
                    refine wpQuiet_nil ?_
                    rintro _ ⟨p, rfl⟩
                    have hbp := p.h
                    go_wp2
                    go_meet
                    case rel => exact ⟨rfl, hbp⟩
                  · obtain ⟨his, hrt0, hM0, hM1, hrs⟩ := hK
                    (try simp only at hM1 hrs hpd)
                    subst his
                    have hb0 : (r2.1 == 0) = true := by simpa using h0
                    have hb0' : (r2.1 != 0) = false := by simpa using h0
                    have hr0 := fun W => oresv_any y0 W (.inl hM0)
                    have hr1 := fun W => oresv_any y2 W (.inl hM1)
                    have ⟨rb1, rb2⟩ := resv_bd hM1
                    have ⟨rb3, rb4⟩ := resv_bd hM0
                    have ⟨pb1, pb2⟩ := hM0.pri
                    have ⟨cb1, cb2⟩ := hM0.cop
                    have ⟨vb1, vb2⟩ := hM0.rcv
                    have ⟨ib1, ib2⟩ := hM0.paid
                    obtain ⟨hpd, ⟨qb1, qb2⟩, qb3, qb4⟩ := hx
                    (try simp only at hpd)
                    have d1 : 0 ≤ q.cop * y0.pri := Int.mul_nonneg (by omega) (by omega)
                    have d2 : q.cop * y0.pri ≤ 99 * 1000000 := Int.mul_le_mul qb2 pb2 (by omega) (by omega)
                    have hw1 : IntKind.i64.wrap (q.cop * y0.pri) = q.cop * y0.pri := by rw [IntKind.wrap_i64]; omega
                    have hw2 : IntKind.i64.wrap (y0.paid + q.amt) = y0.paid + q.amt := by rw [IntKind.wrap_i64]; omega
                    rw [hrs] at hr1 rb1 rb2
                    have hrt := fun (p : Grn wc) => HR2.out p.W A9 n9 c9 (B9c.out.trans (p.h.mono B9c.out.size)) ((S9c.out.below p.h).more p.h.size)
                    rw [hrt0] at hrt
                    have hwr : IntKind.i64.wrap (resvO y0 - q.cop * y0.pri) = resvO y0 - q.cop * y0.pri := by rw [IntKind.wrap_i64]; omega
                    generalize resvO y0 = rv at hr0 hr1 hwr
                    unfold odV at hr0 hr1
                    have H0 := hide hr0
                    have H1 := hide hr1
                    have HRT := hide hrt
                    obtain ⟨_, k0, k1, k2, k3, k4, k5, k6, k7, k8, k9⟩ := od_box (HY.out _ Y9c.out) (Below.refl _ _)
                    obtain ⟨_, l0, l1, l2, l3, l4, l5, l6, l7, l8, l9⟩ := od_box X9c.out (Below.refl _ _)
                    rw [hpd] at l7 H1
                    clear hr0 hr1 hrt h0 hrt0 hM0 hM1 hrs rb1 rb2 rb3 rb4 hpd
                    have f0 := Grn.cell k0
                    have g0 := Grn.cell l0
                    have f1 := Grn.cell k1
                    have g1 := Grn.cell l1
                    have f2 := Grn.cell k2
                    have g2 := Grn.cell l2
                    have f3 := Grn.cell k3
                    have g3 := Grn.cell l3
                    have f4 := Grn.cell k4
                    have g4 := Grn.cell l4
                    have f5 := Grn.cell k5
                    have g5 := Grn.cell l5
                    have f6 := Grn.cell k6
                    have g6 := Grn.cell l6
                    have f7 := Grn.cell k7
                    have g7 := Grn.cell l7
                    have f8 := Grn.cell k8
                    have g8 := Grn.cell l8
                    have f9 := Grn.cell k9
                    have g9 := Grn.cell l9
                    have h0 := Grn.cell e0
                    have h1 := Grn.cell e1
                    have h2 := Grn.cell e2
                    have h3 := Grn.cell e3
                    have h4 := Grn.cell e4
                    refine wp_region_grn (by kernel_rfl) (by kernel_rfl) ?_
                    repeat (go_big_quiet_step (first | (go_at_call 28; exact Calls_grn (HRT.out _)) | (go_at_call 25; with_reducible exact Calls_grn (H0.out _)) | (go_at_call 25; with_reducible exact Calls_grn (H1.out _))))
                    refine wpQuiet_nil ?_
                    rintro _ ⟨p, rfl⟩
                    have hbp := p.h
                    go_wp2
                    go_meet
                    case rel => exact ⟨rfl, hbp⟩
                case rest =>
                  obtain ⟨rfl, hb⟩ := hcut
                  have B9d := hide (B9c.out.trans (hb.mono B9c.out.size))
                  have Z9d := hide (Z9c.out.trans (hb.mono (by omega)))
                  have Y9d := hide (Y9c.out.trans (hb.mono (by omega)))
                  have X9d := hide (X9c.out.below hb hz9c)
                  have hz9d := Nat.lt_of_lt_of_le hz9c hb.size
                  clear hb B9c Z9c Y9c X9c S9c HKK HR2 HN9 e0 e1 e2 e3 e4
                  have hbq := (HZ.out _ Z9d.out).2
                  have e0 := hbq.cell 0
                  have e1 := hbq.cell 1
                  have e2 := hbq.cell 2
                  have e3 := hbq.cell 3
                  have e4 := hbq.cell 4
                  simp at e0 e1 e2 e3 e4
                  clear hbq
                  go_wp2_with fail
                  refine (HST.out _ B9d.out).mono ?_
                  rintro e w10 ⟨v10, rfl, hown, hb⟩
                  have hz10 : w7.heap.size < w10.heap.size := Nat.lt_of_lt_of_le hz9d hb.size
                  have B10 := hide (B9d.out.trans (hb.mono B9d.out.size))
                  have Z10 := hide (Z9d.out.trans (hb.mono (by omega)))
                  have Y10 := hide (Y9d.out.trans (hb.mono (by omega)))
                  have X10 := hide (X9d.out.below hb hz9d)
                  have hbk : v10.ownBlock ≠ some w7.heap.size := fun e => by have := (hown.lt _ e).1; omega
                  have HO10 := hide hown
                  have HBK10 := hide hbk
                  obtain ⟨A10, c10, hv10, hsl⟩ := Odo_sl hown (by have := HL3.out; omega)
                  subst hv10
                  have HGk := hide (oget_any A10 _ c10 r3.2 q.ord w10 hsl)
                  clear hb B9d Z9d Y9d X9d hown hbk hsl HST
                  clear e0 e1 e2 e3 e4
                  have hbq := (HZ.out _ Z10.out).2
                  have e0 := hbq.cell 0
                  have e1 := hbq.cell 1
                  have e2 := hbq.cell 2
                  have e3 := hbq.cell 3
                  have e4 := hbq.cell 4
                  simp at e0 e1 e2 e3 e4
                  clear hbq
                  generalize hy10 : getO r3.2 q.ord = y3 at HGk
                  obtain ⟨y3, is10⟩ := y3
                  have HKt := HK3.out
                  rw [hy10] at HKt
                  have HKK := hide HKt
                  unfold odV at HGk
                  simp only at HGk
                  clear HKt HK3 hy10
                  obtain ⟨n10, hn10⟩ : ∃ n, n = r3.2.length := ⟨_, rfl⟩
                  rw [← hn10] at HGk HO10 HBK10 ⊢
                  have HN10 := hide hn10
                  clear hn10
                  go_upto_region 18 with fail
                  go_cut [] from 174 to 180 (fun wx => Below w7.heap.size w10 wx ∧ Box wx w7.heap.size 37 (odC y3) ∧ wx.ownsRow w7.heap.size 37 10 (.slice A10 n10 c10) n10 (r3.2.flatMap odE) ∧ w7.heap.size < wx.heap.size)
                  case first =>
                    have hx10 := X10.out
                    go_wp2_with fail
                    refine HGk.out.mono ?_
                    rintro e w10b ⟨rfl, hb⟩
                    have hbx := hx10.below hb hz10
                    obtain ⟨_, l0, l1, l2, l3, l4, l5, l6, l7, l8, l9⟩ := od_box hbx (Below.refl _ _)
                    have hfz := fun j => hbx.frz j
                    have hzb : w7.heap.size < w10b.heap.size := Nat.lt_of_lt_of_le hz10 hb.size
                    have HBX := hide hbx
                    have HB := hide hb
                    clear hbx hb hx10 e0 e1 e2 e3 e4
                    go_wp2
                    go_meet
                    case rel =>
                      refine ⟨below_setCells (Nat.le_refl _) (odE y3) 0 _ (HB.out.mono (by omega)), Box.put HBX.out, ?_, ?_⟩
                      · have h := Odo_far_cells (b := w7.heap.size) HBK10.out (odE y3) 0 _ (own_below HO10.out HB.out)
                        unfold Odo at h
                        rw [← HN10.out] at h
                        exact own_base h (by omega)
                      · have := hzb; simpa using this
                  case rest =>
                    obtain ⟨hb, hbx, hown, hzc⟩ := hcut
                    have B10c := hide (B10.out.trans (hb.mono (by omega)))
                    have Z10c := hide (Z10.out.trans (hb.mono (by omega)))
                    have Y10c := hide (Y10.out.trans (hb.mono (by omega)))
                    have X10c := hide hbx
                    have S10c := hide (Sl.of_own odE_len hown HN10.out.symm (by have := HN10.out; have := HL3.out; omega))
                    have hz10c := hzc
                    clear hb hbx hown hzc B10 Z10 Y10 X10 HO10 HBK10 HGk e0 e1 e2 e3 e4
                    go_wp2_with fail
                    rcases HKK.out with hne | ⟨h0, hK⟩
                    · have hb0 : (r3.1 == 0) = false := by simpa using hne
                      have hb0' : (r3.1 != 0) = true := by simpa using hne
                      clear hne
                      refine wp_region_grn (by kernel_rfl) (by kernel_rfl) ?_
                      repeat (go_big_quiet_step (fail))
                      refine wpQuiet_nil ?_
                      rintro _ ⟨p, rfl⟩
                      have hbp := p.h
                      go_wp2
                      go_ret
                      exact ⟨rfl, B10c.out.trans (hbp.mono B10c.out.size)⟩
                    · obtain ⟨his, hrt0, hM0, hM1, hrs⟩ := hK
                      (try simp only at hM1 hrs )
                      subst his
                      have hb0 : (r3.1 == 0) = true := by simpa using h0
                      have hb0' : (r3.1 != 0) = false := by simpa using h0
                      have hr0 := fun W => oresv_any y0 W (.inl hM0)
                      have hr1 := fun W => oresv_any y3 W (.inl hM1)
                      have ⟨rb1, rb2⟩ := resv_bd hM1
                      have ⟨rb3, rb4⟩ := resv_bd hM0
                      have ⟨pb1, pb2⟩ := hM0.pri
                      have ⟨cb1, cb2⟩ := hM0.cop
                      have ⟨vb1, vb2⟩ := hM0.rcv
                      have ⟨ib1, ib2⟩ := hM0.paid
                      have d0 : IntKind.i64.wrap (y0.cop - y0.rcv) = y0.cop - y0.rcv := by rw [IntKind.wrap_i64]; omega
                      have d1 : 0 ≤ (y0.cop - y0.rcv) * y0.pri := Int.mul_nonneg (by omega) (by omega)
                      have d2 : (y0.cop - y0.rcv) * y0.pri ≤ 99 * 1000000 := Int.mul_le_mul (by omega) pb2 (by omega) (by omega)
                      have hw1 : IntKind.i64.wrap ((y0.cop - y0.rcv) * y0.pri) = (y0.cop - y0.rcv) * y0.pri := by rw [IntKind.wrap_i64]; omega
                      rw [hrs] at hr1 rb1 rb2
                      have hrt := fun (p : Grn wc) => HR3.out p.W A10 n10 c10 (B10c.out.trans (p.h.mono B10c.out.size)) ((S10c.out.below p.h).more p.h.size)
                      rw [hrt0] at hrt
                      have hwr : IntKind.i64.wrap (resvO y0 - (y0.cop - y0.rcv) * y0.pri) = resvO y0 - (y0.cop - y0.rcv) * y0.pri := by rw [IntKind.wrap_i64]; omega
                      generalize resvO y0 = rv at hr0 hr1 hwr
                      unfold odV at hr0 hr1
                      have H0 := hide hr0
                      have H1 := hide hr1
                      have HRT := hide hrt
                      obtain ⟨_, k0, k1, k2, k3, k4, k5, k6, k7, k8, k9⟩ := od_box (HY.out _ Y10c.out) (Below.refl _ _)
                      obtain ⟨_, l0, l1, l2, l3, l4, l5, l6, l7, l8, l9⟩ := od_box X10c.out (Below.refl _ _)
                      clear hr0 hr1 hrt h0 hrt0 hM0 hM1 hrs rb1 rb2 rb3 rb4 
                      have f0 := Grn.cell k0
                      have g0 := Grn.cell l0
                      have f1 := Grn.cell k1
                      have g1 := Grn.cell l1
                      have f2 := Grn.cell k2
                      have g2 := Grn.cell l2
                      have f3 := Grn.cell k3
                      have g3 := Grn.cell l3
                      have f4 := Grn.cell k4
                      have g4 := Grn.cell l4
                      have f5 := Grn.cell k5
                      have g5 := Grn.cell l5
                      have f6 := Grn.cell k6
                      have g6 := Grn.cell l6
                      have f7 := Grn.cell k7
                      have g7 := Grn.cell l7
                      have f8 := Grn.cell k8
                      have g8 := Grn.cell l8
                      have f9 := Grn.cell k9
                      have g9 := Grn.cell l9
                      refine wp_region_grn (by kernel_rfl) (by kernel_rfl) ?_
                      repeat (go_big_quiet_step (first | (go_at_call 28; exact Calls_grn (HRT.out _)) | (go_at_call 25; with_reducible exact Calls_grn (H0.out _)) | (go_at_call 25; with_reducible exact Calls_grn (H1.out _))))
                      refine wpQuiet_nil ?_
                      rintro _ ⟨p, rfl⟩
                      have hbp := p.h
                      go_wp2
                      go_ret
                      exact ⟨rfl, B10c.out.trans (hbp.mono B10c.out.size)⟩
        · have hrb : (rightO xs != 0) = true := by simpa using hr
          generalize rightO xs = r at hR hrb
          have HR := hide hR
          clear hf h60 h8 hr hR hSS hX hs hss hsl hx
          unfold odV blV
          go_enter Try.func9, Try.ntmps9
          go_wp2_with fail
          refine (oalive_any _).mono ?_
          rintro e w1 ⟨rfl, hb⟩
          have B1 := hide (B0.out.trans (hb.mono (by simp; omega)))
          have Z1 := hide (Z0.out.trans (hb.mono (by simp)))
          clear hb B0 Z0
          obtain ⟨_, d0, d1, d2, d3, d4, d5, d6, d7, d8, d9⟩ := od_box (HZ.out _ Z1.out).1 (Below.refl _ _)
          go_wp2_with fail
          refine (HF.out _ B1.out).mono ?_
          rintro e w_ ⟨rfl, rfl⟩
          go_wp2_with fail
          refine (HR.out _ B1.out).mono ?_
          rintro e w2 ⟨rfl, hb⟩
          have B2 := hide (B1.out.trans (hb.mono B1.out.size))
          clear hb
          go_wp2
          go_ret
          exact ⟨rfl, B2.out⟩
      · have h8z : (8 : Int) < (x.shn : Int) := by omega
        clear hf h60 h8 hs hss hsl hx
        unfold odV blV
        go_enter Try.func9, Try.ntmps9
        go_wp2_with fail
        refine (oalive_any _).mono ?_
        rintro e w1 ⟨rfl, hb⟩
        have B1 := hide (B0.out.trans (hb.mono (by simp; omega)))
        have Z1 := hide (Z0.out.trans (hb.mono (by simp)))
        clear hb B0 Z0
        obtain ⟨_, d0, d1, d2, d3, d4, d5, d6, d7, d8, d9⟩ := od_box (HZ.out _ Z1.out).1 (Below.refl _ _)
        go_wp2_with fail
        refine (HF.out _ B1.out).mono ?_
        rintro e w_ ⟨rfl, rfl⟩
        go_wp2
        go_ret
        exact ⟨rfl, B1.out⟩
    · have h60z : (60 : Int) < (xs.length : Int) := by omega
      clear hf h60 hs hss hsl hx
      unfold odV blV
      go_enter Try.func9, Try.ntmps9
      go_wp2_with fail
      refine (oalive_any _).mono ?_
      rintro e w1 ⟨rfl, hb⟩
      have B1 := hide (B0.out.trans (hb.mono (by simp; omega)))
      have Z1 := hide (Z0.out.trans (hb.mono (by simp)))
      clear hb B0 Z0
      obtain ⟨_, d0, d1, d2, d3, d4, d5, d6, d7, d8, d9⟩ := od_box (HZ.out _ Z1.out).1 (Below.refl _ _)
      go_wp2_with fail
      refine (HF.out _ B1.out).mono ?_
      rintro e w_ ⟨rfl, rfl⟩
      go_wp2
      go_ret
      exact ⟨rfl, B1.out⟩
  · have hf' : fewO xs = false := by simpa using hf
    rw [hf'] at HF
    clear hf hf' hs hss hsl hx
    unfold odV blV
    go_enter Try.func9, Try.ntmps9
    go_wp2_with fail
    refine (oalive_any _).mono ?_
    rintro e w1 ⟨rfl, hb⟩
    have B1 := hide (B0.out.trans (hb.mono (by simp; omega)))
    have Z1 := hide (Z0.out.trans (hb.mono (by simp)))
    clear hb B0 Z0
    obtain ⟨_, d0, d1, d2, d3, d4, d5, d6, d7, d8, d9⟩ := od_box (HZ.out _ Z1.out).1 (Below.refl _ _)
    go_wp2_with fail
    refine (HF.out _ B1.out).mono ?_
    rintro e w_ ⟨rfl, rfl⟩
    go_wp2
    go_ret
    exact ⟨rfl, B1.out⟩
end Go.Proofs.Ytdbanekjjibpbaa
