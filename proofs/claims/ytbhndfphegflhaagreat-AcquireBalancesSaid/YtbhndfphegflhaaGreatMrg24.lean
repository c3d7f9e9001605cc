/- Texts laid together by merge.py: OdL. -/
import Derived.Test.YtbhndfphegflhaaGreatMrg8
import Derived.Test.YtbhndfphegflhaaGreatMrg6
set_option linter.unusedSimpArgs false
set_option linter.unusedVariables false
/- Walks: Receive, Stop and Bill of the reference. Printed by gen_od_ops.py. -/
namespace Go.Proofs.YtbhndfphegflhaaGreat
open Go.RowKit

theorem opR_err {xs : List Od} {id e : Int} {er : Od → Int} {g : Od → Od} {i : Nat} {x : Od} (h : atO xs id = i) (hg : getO xs id = (x, true)) (he : er x = e) (hne : e ≠ 0) : opO xs id er g = (e, []) := by
  rw [opO_some h hg, he, if_neg hne]
theorem opR_ok {xs : List Od} {id : Int} {er : Od → Int} {g : Od → Od} {i : Nat} {x : Od} (h : atO xs id = i) (hg : getO xs id = (x, true)) (he : er x = 0) : opO xs id er g = (0, xs.set i (g x)) := by
  rw [opO_some h hg, he, if_pos rfl]

set_option maxRecDepth 100000 in
set_option maxHeartbeats 2000000 in
theorem rreceive_any (A : Option Addr) (n c : Nat) (xs : List Od) (id m : Int) (w : World) (hs : Ods w w.heap.size A n c xs) (hn : n ≤ 1000) (hm : ∀ y ∈ xs, OdM y) (hu : ∀ (i : Nat) (x y : Od), xs[i]? = some x → y.id = x.id → withO xs y = xs.set i y) :
    Calls Tryz.prog 70 #[.slice A n c, .int .i64 id, .int .i64 m] w (ResO w (receiveO xs id m)) := by
  obtain rfl := hs.len
  have hle := hs.le
  have hbig := hs.big
  have hsl : ∀ W, Below w.heap.size w W → Ods W W.heap.size A xs.length c xs := fun W hW => (hs.below hW).more hW.size
  have hf := rget_any A xs.length c xs id w (hsl _ (Below.refl _ _))
  rcases getO_cases xs id with ⟨h1, h2, _⟩ | ⟨i, x, h1, h2, h3, h4, _⟩
  · have e1 : receiveO xs id m = (9, []) := by unfold receiveO; exact opO_none h1
    rw [e1]
    rw [h2] at hf
    unfold odV od0 at hf
    have HF := hide hf
    clear hf hsl hs h1 h2 e1 hm hu
    go_enter Tryz.func70, Tryz.ntmps70
    go_wp2_with fail
    refine HF.out.mono ?_
    rintro e w1 ⟨rfl, hb⟩
    have B1 := hide hb
    have hz1 := B1.out.size
    clear hb
    go_wp2
    go_ret2
    exact ResO.nil (B1.out.alloc hz1 _)
  · have hi : i < xs.length := (List.getElem?_eq_some_iff.1 h2).1
    have hM := hm x (List.mem_of_getElem? h2)
    obtain ⟨_, ⟨p1, p2⟩, ⟨p3, p4⟩, ⟨p5, p6⟩, ⟨p7, p8⟩, ⟨p9, p10⟩⟩ := hM
    rw [h4] at hf
    unfold odV at hf
    simp only at hf
    have hwi := fun (W : World) (y : Od) (hy : y.id = x.id) (hW : Below w.heap.size w W) => rwith_any A xs.length c xs y W (hsl W hW) hn
    have HF := hide hf
    by_cases k1 : m < 1
    · have e1 : receiveO xs id m = (2, []) := by unfold receiveO; exact opR_err h1 h4 (by unfold rcvE; rw [if_pos k1]) (by decide)
      rw [e1]
      have hw1 : IntKind.i64.wrap (x.cop - x.rcv) = x.cop - x.rcv := by rw [IntKind.wrap_i64]; omega
      clear hf hsl hs h1 h2 h3 h4 e1 hm hu hwi
      go_enter Tryz.func70, Tryz.ntmps70
      go_wp2_with fail
      refine HF.out.mono ?_
      rintro e w1 ⟨rfl, hb⟩
      have B1 := hide hb
      have hz1 := B1.out.size
      clear hb
      go_wp2
      go_ret2
      exact ResO.nil (B1.out.alloc hz1 _)
    · skip
      by_cases k2 : ¬ x.st = 1
      · have e1 : receiveO xs id m = (12, []) := by unfold receiveO; exact opR_err h1 h4 (by unfold rcvE; rw [if_neg k1, if_neg (fun h => k2 h.1)]) (by decide)
        rw [e1]
        have b2 : (x.st != 1) = true := by simpa using k2
        have hw1 : IntKind.i64.wrap (x.cop - x.rcv) = x.cop - x.rcv := by rw [IntKind.wrap_i64]; omega
        clear hf hsl hs h1 h2 h3 h4 e1 hm hu hwi
        go_enter Tryz.func70, Tryz.ntmps70
        go_wp2_with fail
        refine HF.out.mono ?_
        rintro e w1 ⟨rfl, hb⟩
        have B1 := hide hb
        have hz1 := B1.out.size
        clear hb
        go_wp2
        go_ret2
        exact ResO.nil (B1.out.alloc hz1 _)
      · skip
        by_cases k3 : ¬ m ≤ x.cop - x.rcv
        · have e1 : receiveO xs id m = (12, []) := by unfold receiveO; exact opR_err h1 h4 (by unfold rcvE; rw [if_neg k1, if_neg (fun h => k3 h.2)]) (by decide)
          rw [e1]
          have b2 : (x.st != 1) = false := by simpa using k2
          have hw1 : IntKind.i64.wrap (x.cop - x.rcv) = x.cop - x.rcv := by rw [IntKind.wrap_i64]; omega
          have o3 : x.cop - x.rcv < m := by omega
          clear hf hsl hs h1 h2 h3 h4 e1 hm hu hwi
          go_enter Tryz.func70, Tryz.ntmps70
          go_wp2_with fail
          refine HF.out.mono ?_
          rintro e w1 ⟨rfl, hb⟩
          have B1 := hide hb
          have hz1 := B1.out.size
          clear hb
          go_wp2
          go_ret2
          exact ResO.nil (B1.out.alloc hz1 _)
        · skip
          have e1 : receiveO xs id m = (0, xs.set i (rcvF m x)) := by unfold receiveO; exact opR_ok h1 h4 (by unfold rcvE; rw [if_neg k1, if_pos ⟨Decidable.not_not.1 k2, Decidable.not_not.1 k3⟩])
          rw [e1]
          have b2 : (x.st != 1) = false := by simpa using k2
          have hw1 : IntKind.i64.wrap (x.cop - x.rcv) = x.cop - x.rcv := by rw [IntKind.wrap_i64]; omega
          have hw2 : IntKind.i64.wrap (x.rcv + m) = x.rcv + m := by rw [IntKind.wrap_i64]; omega
          have o3 : ¬ x.cop - x.rcv < m := by omega
          have hfv : odV (rcvF m x) = .agg #[.int .i64 x.id, .int .i64 x.rcd, .int .i64 x.ven, .int .i64 x.cop, .int .i64 x.pri, .int .i64 (x.rcv + m), .int .i64 x.bil, .int .i64 x.paid, .int .i64 x.st, .slice x.shA x.shn x.shc] := rfl
          have hp := fun W hW => hwi W (rcvF m x) rfl hW
          rw [hu i x (rcvF m x) h2 rfl, hfv] at hp
          have hyl : (xs.set i (rcvF m x)).length = xs.length := List.length_set
          generalize xs.set i (rcvF m x) = ys at hp hyl ⊢
          have HP := hide hp
          have HYL := hide hyl
          clear hf hsl hs h1 h2 h3 h4 e1 hm hp hyl hfv hu hwi
          go_enter Tryz.func70, Tryz.ntmps70
          go_wp2_with fail
          refine HF.out.mono ?_
          rintro e w1 ⟨rfl, hb⟩
          have B1 := hide hb
          have hz1 := B1.out.size
          clear hb HF
          go_wp2_with fail
          refine (HP.out _ (by first | exact B1.out.alloc hz1 _ | exact (below_drewN B1.out _).alloc hz1 _)).mono ?_
          rintro e w3 ⟨v, rfl, hown, hb3⟩
          have B3 := hide ((by first | exact B1.out.alloc hz1 _ | exact (below_drewN B1.out _).alloc hz1 _ : Below w.heap.size w _).trans (hb3.mono (by first | (simp; done) | (simp; omega))))
          obtain ⟨A1, c1, hv, hsl3⟩ := Odo_sl hown (by rw [HYL.out]; omega)
          subst hv
          have HS3 := hide hsl3
          clear hown hb3 hsl3
          go_wp2
          go_ret2
          exact ⟨_, _, _, rfl, HS3.out, B3.out⟩

set_option maxRecDepth 100000 in
set_option maxHeartbeats 2000000 in
theorem rstop_any (A : Option Addr) (n c : Nat) (xs : List Od) (id : Int) (w : World) (hs : Ods w w.heap.size A n c xs) (hn : n ≤ 1000) (hm : ∀ y ∈ xs, OdM y) (hu : ∀ (i : Nat) (x y : Od), xs[i]? = some x → y.id = x.id → withO xs y = xs.set i y) :
    Calls Tryz.prog 80 #[.slice A n c, .int .i64 id] w (ResO w (stopO xs id)) := by
  obtain rfl := hs.len
  have hle := hs.le
  have hbig := hs.big
  have hsl : ∀ W, Below w.heap.size w W → Ods W W.heap.size A xs.length c xs := fun W hW => (hs.below hW).more hW.size
  have hf := rget_any A xs.length c xs id w (hsl _ (Below.refl _ _))
  rcases getO_cases xs id with ⟨h1, h2, _⟩ | ⟨i, x, h1, h2, h3, h4, _⟩
  · have e1 : stopO xs id = (9, []) := by unfold stopO; exact opO_none h1
    rw [e1]
    rw [h2] at hf
    unfold odV od0 at hf
    have HF := hide hf
    clear hf hsl hs h1 h2 e1 hm hu
    go_enter Tryz.func80, Tryz.ntmps80
    go_wp2_with fail
    refine HF.out.mono ?_
    rintro e w1 ⟨rfl, hb⟩
    have B1 := hide hb
    have hz1 := B1.out.size
    clear hb
    go_wp2
    go_ret2
    exact ResO.nil (B1.out.alloc hz1 _)
  · have hi : i < xs.length := (List.getElem?_eq_some_iff.1 h2).1
    have hM := hm x (List.mem_of_getElem? h2)
    obtain ⟨_, ⟨p1, p2⟩, ⟨p3, p4⟩, ⟨p5, p6⟩, ⟨p7, p8⟩, ⟨p9, p10⟩⟩ := hM
    rw [h4] at hf
    unfold odV at hf
    simp only at hf
    have hwi := fun (W : World) (y : Od) (hy : y.id = x.id) (hW : Below w.heap.size w W) => rwith_any A xs.length c xs y W (hsl W hW) hn
    have HF := hide hf
    by_cases k1 : ¬ x.st = 1
    · have e1 : stopO xs id = (12, []) := by unfold stopO; exact opR_err h1 h4 (by unfold stopE; rw [if_neg k1]) (by decide)
      rw [e1]
      have b1 : (x.st != 1) = true := by simpa using k1
      clear hf hsl hs h1 h2 h3 h4 e1 hm hu hwi
      go_enter Tryz.func80, Tryz.ntmps80
      go_wp2_with fail
      refine HF.out.mono ?_
      rintro e w1 ⟨rfl, hb⟩
      have B1 := hide hb
      have hz1 := B1.out.size
      clear hb
      go_wp2
      go_ret2
      exact ResO.nil (B1.out.alloc hz1 _)
    · skip
      have e1 : stopO xs id = (0, xs.set i (stopF x)) := by unfold stopO; exact opR_ok h1 h4 (by unfold stopE; rw [if_pos (Decidable.not_not.1 k1)])
      rw [e1]
      have b1 : (x.st != 1) = false := by simpa using k1
      have hfv : odV (stopF x) = .agg #[.int .i64 x.id, .int .i64 x.rcd, .int .i64 x.ven, .int .i64 x.cop, .int .i64 x.pri, .int .i64 x.rcv, .int .i64 x.bil, .int .i64 x.paid, .int .i64 3, .slice x.shA x.shn x.shc] := rfl
      have hp := fun W hW => hwi W (stopF x) rfl hW
      rw [hu i x (stopF x) h2 rfl, hfv] at hp
      have hyl : (xs.set i (stopF x)).length = xs.length := List.length_set
      generalize xs.set i (stopF x) = ys at hp hyl ⊢
      have HP := hide hp
      have HYL := hide hyl
      clear hf hsl hs h1 h2 h3 h4 e1 hm hp hyl hfv hu hwi
      go_enter Tryz.func80, Tryz.ntmps80
      go_wp2_with fail
      refine HF.out.mono ?_
      rintro e w1 ⟨rfl, hb⟩
      have B1 := hide hb
      have hz1 := B1.out.size
      clear hb HF
      go_wp2_with fail
      refine (HP.out _ (by first | exact B1.out.alloc hz1 _ | exact (below_drewN B1.out _).alloc hz1 _)).mono ?_
      rintro e w3 ⟨v, rfl, hown, hb3⟩
      have B3 := hide ((by first | exact B1.out.alloc hz1 _ | exact (below_drewN B1.out _).alloc hz1 _ : Below w.heap.size w _).trans (hb3.mono (by first | (simp; done) | (simp; omega))))
      obtain ⟨A1, c1, hv, hsl3⟩ := Odo_sl hown (by rw [HYL.out]; omega)
      subst hv
      have HS3 := hide hsl3
      clear hown hb3 hsl3
      go_wp2
      go_ret2
      exact ⟨_, _, _, rfl, HS3.out, B3.out⟩

set_option maxRecDepth 100000 in
set_option maxHeartbeats 2000000 in
theorem rbill_any (A : Option Addr) (n c : Nat) (xs : List Od) (q : Bl) (w : World) (hs : Ods w w.heap.size A n c xs) (hn : n ≤ 1000) (hm : ∀ y ∈ xs, OdM y) (hu : ∀ (i : Nat) (x y : Od), xs[i]? = some x → y.id = x.id → withO xs y = xs.set i y) :
    Calls Tryz.prog 77 #[.slice A n c, blV q] w (ResO w (billO xs q)) := by
  obtain rfl := hs.len
  have hle := hs.le
  have hbig := hs.big
  have hsl : ∀ W, Below w.heap.size w W → Ods W W.heap.size A xs.length c xs := fun W hW => (hs.below hW).more hW.size
  have B0 := hide ((Below.refl w.heap.size w).alloc (Nat.le_refl _) (.cells (blC q) 43))
  have X0 := hide (Box.new w 43 (blC q))
  have hf := rget_any A xs.length c xs q.ord (w.alloc (.cells (blC q) 43)) (hsl _ B0.out)
  rcases getO_cases xs q.ord with ⟨h1, h2, _⟩ | ⟨i, x, h1, h2, h3, h4, _⟩
  · have e1 : billO xs q = (9, []) := by unfold billO; exact opO_none h1
    rw [e1]
    rw [h2] at hf
    unfold odV od0 at hf
    have HF := hide hf
    clear hf hsl hs h1 h2 e1 hm hu
    unfold blV
    go_enter Tryz.func77, Tryz.ntmps77
    go_wp2_with fail
    refine HF.out.mono ?_
    rintro e w1 ⟨rfl, hb⟩
    have B1 := hide (B0.out.trans (hb.mono (by simp)))
    have hz1 := B1.out.size
    obtain ⟨q0, q1, q2, q3, q4⟩ : w1.cell? ⟨w.heap.size, 0, none⟩ = some (.int .i64 q.ven) ∧ w1.cell? ⟨w.heap.size, 1, none⟩ = some (.int .i64 q.num) ∧ w1.cell? ⟨w.heap.size, 2, none⟩ = some (.int .i64 q.ord) ∧ w1.cell? ⟨w.heap.size, 3, none⟩ = some (.int .i64 q.cop) ∧ w1.cell? ⟨w.heap.size, 4, none⟩ = some (.int .i64 q.amt) := by
      have h := X0.out.below hb (by simp)
      exact ⟨h.cell 0, h.cell 1, h.cell 2, h.cell 3, h.cell 4⟩
    have hqz : w.heap.size < w1.heap.size := by have := hb.size; simp at this; omega
    clear hb
    go_wp2
    go_ret2
    exact ResO.nil (B1.out.alloc hz1 _)
  · have hi : i < xs.length := (List.getElem?_eq_some_iff.1 h2).1
    have hM := hm x (List.mem_of_getElem? h2)
    obtain ⟨_, ⟨p1, p2⟩, ⟨p3, p4⟩, ⟨p5, p6⟩, ⟨p7, p8⟩, ⟨p9, p10⟩⟩ := hM
    rw [h4] at hf
    unfold odV at hf
    simp only at hf
    have hwi := fun (W : World) (y : Od) (hy : y.id = x.id) (hW : Below w.heap.size w W) => rwith_any A xs.length c xs y W (hsl W hW) hn
    have HF := hide hf
    by_cases k1 : ¬ x.ven = q.ven
    · have e1 : billO xs q = (1, []) := by unfold billO; exact opR_err h1 h4 (by unfold billE; rw [if_neg k1]) (by decide)
      rw [e1]
      have b1 : (x.ven != q.ven) = true := by simpa using k1
      clear hf hsl hs h1 h2 h3 h4 e1 hm hu hwi
      unfold blV
      go_enter Tryz.func77, Tryz.ntmps77
      go_wp2_with fail
      refine HF.out.mono ?_
      rintro e w1 ⟨rfl, hb⟩
      have B1 := hide (B0.out.trans (hb.mono (by simp)))
      have hz1 := B1.out.size
      obtain ⟨q0, q1, q2, q3, q4⟩ : w1.cell? ⟨w.heap.size, 0, none⟩ = some (.int .i64 q.ven) ∧ w1.cell? ⟨w.heap.size, 1, none⟩ = some (.int .i64 q.num) ∧ w1.cell? ⟨w.heap.size, 2, none⟩ = some (.int .i64 q.ord) ∧ w1.cell? ⟨w.heap.size, 3, none⟩ = some (.int .i64 q.cop) ∧ w1.cell? ⟨w.heap.size, 4, none⟩ = some (.int .i64 q.amt) := by
        have h := X0.out.below hb (by simp)
        exact ⟨h.cell 0, h.cell 1, h.cell 2, h.cell 3, h.cell 4⟩
      have hqz : w.heap.size < w1.heap.size := by have := hb.size; simp at this; omega
      clear hb
      go_wp2
      go_ret2
      exact ResO.nil (B1.out.alloc hz1 _)
    · skip
      by_cases k2 : q.num < 1
      · have e1 : billO xs q = (2, []) := by unfold billO; exact opR_err h1 h4 (by unfold billE; rw [if_pos (Decidable.not_not.1 k1), if_neg (by omega)]) (by decide)
        rw [e1]
        have b1 : (x.ven != q.ven) = false := by simpa using k1
        clear hf hsl hs h1 h2 h3 h4 e1 hm hu hwi
        unfold blV
        go_enter Tryz.func77, Tryz.ntmps77
        go_wp2_with fail
        refine HF.out.mono ?_
        rintro e w1 ⟨rfl, hb⟩
        have B1 := hide (B0.out.trans (hb.mono (by simp)))
        have hz1 := B1.out.size
        obtain ⟨q0, q1, q2, q3, q4⟩ : w1.cell? ⟨w.heap.size, 0, none⟩ = some (.int .i64 q.ven) ∧ w1.cell? ⟨w.heap.size, 1, none⟩ = some (.int .i64 q.num) ∧ w1.cell? ⟨w.heap.size, 2, none⟩ = some (.int .i64 q.ord) ∧ w1.cell? ⟨w.heap.size, 3, none⟩ = some (.int .i64 q.cop) ∧ w1.cell? ⟨w.heap.size, 4, none⟩ = some (.int .i64 q.amt) := by
          have h := X0.out.below hb (by simp)
          exact ⟨h.cell 0, h.cell 1, h.cell 2, h.cell 3, h.cell 4⟩
        have hqz : w.heap.size < w1.heap.size := by have := hb.size; simp at this; omega
        clear hb
        go_wp2
        go_ret2
        exact ResO.nil (B1.out.alloc hz1 _)
      · skip
        by_cases k3 : 99999 < q.num
        · have e1 : billO xs q = (2, []) := by unfold billO; exact opR_err h1 h4 (by unfold billE; rw [if_pos (Decidable.not_not.1 k1), if_neg (by omega)]) (by decide)
          rw [e1]
          have b1 : (x.ven != q.ven) = false := by simpa using k1
          clear hf hsl hs h1 h2 h3 h4 e1 hm hu hwi
          unfold blV
          go_enter Tryz.func77, Tryz.ntmps77
          go_wp2_with fail
          refine HF.out.mono ?_
          rintro e w1 ⟨rfl, hb⟩
          have B1 := hide (B0.out.trans (hb.mono (by simp)))
          have hz1 := B1.out.size
          obtain ⟨q0, q1, q2, q3, q4⟩ : w1.cell? ⟨w.heap.size, 0, none⟩ = some (.int .i64 q.ven) ∧ w1.cell? ⟨w.heap.size, 1, none⟩ = some (.int .i64 q.num) ∧ w1.cell? ⟨w.heap.size, 2, none⟩ = some (.int .i64 q.ord) ∧ w1.cell? ⟨w.heap.size, 3, none⟩ = some (.int .i64 q.cop) ∧ w1.cell? ⟨w.heap.size, 4, none⟩ = some (.int .i64 q.amt) := by
            have h := X0.out.below hb (by simp)
            exact ⟨h.cell 0, h.cell 1, h.cell 2, h.cell 3, h.cell 4⟩
          have hqz : w.heap.size < w1.heap.size := by have := hb.size; simp at this; omega
          clear hb
          go_wp2
          go_ret2
          exact ResO.nil (B1.out.alloc hz1 _)
        · skip
          by_cases k4 : q.cop < 1
          · have e1 : billO xs q = (2, []) := by unfold billO; exact opR_err h1 h4 (by unfold billE; rw [if_pos (Decidable.not_not.1 k1), if_neg (by omega)]) (by decide)
            rw [e1]
            have b1 : (x.ven != q.ven) = false := by simpa using k1
            clear hf hsl hs h1 h2 h3 h4 e1 hm hu hwi
            unfold blV
            go_enter Tryz.func77, Tryz.ntmps77
            go_wp2_with fail
            refine HF.out.mono ?_
            rintro e w1 ⟨rfl, hb⟩
            have B1 := hide (B0.out.trans (hb.mono (by simp)))
            have hz1 := B1.out.size
            obtain ⟨q0, q1, q2, q3, q4⟩ : w1.cell? ⟨w.heap.size, 0, none⟩ = some (.int .i64 q.ven) ∧ w1.cell? ⟨w.heap.size, 1, none⟩ = some (.int .i64 q.num) ∧ w1.cell? ⟨w.heap.size, 2, none⟩ = some (.int .i64 q.ord) ∧ w1.cell? ⟨w.heap.size, 3, none⟩ = some (.int .i64 q.cop) ∧ w1.cell? ⟨w.heap.size, 4, none⟩ = some (.int .i64 q.amt) := by
              have h := X0.out.below hb (by simp)
              exact ⟨h.cell 0, h.cell 1, h.cell 2, h.cell 3, h.cell 4⟩
            have hqz : w.heap.size < w1.heap.size := by have := hb.size; simp at this; omega
            clear hb
            go_wp2
            go_ret2
            exact ResO.nil (B1.out.alloc hz1 _)
          · skip
            by_cases k5 : q.amt < 1
            · have e1 : billO xs q = (2, []) := by unfold billO; exact opR_err h1 h4 (by unfold billE; rw [if_pos (Decidable.not_not.1 k1), if_neg (by omega)]) (by decide)
              rw [e1]
              have b1 : (x.ven != q.ven) = false := by simpa using k1
              clear hf hsl hs h1 h2 h3 h4 e1 hm hu hwi
              unfold blV
              go_enter Tryz.func77, Tryz.ntmps77
              go_wp2_with fail
              refine HF.out.mono ?_
              rintro e w1 ⟨rfl, hb⟩
              have B1 := hide (B0.out.trans (hb.mono (by simp)))
              have hz1 := B1.out.size
              obtain ⟨q0, q1, q2, q3, q4⟩ : w1.cell? ⟨w.heap.size, 0, none⟩ = some (.int .i64 q.ven) ∧ w1.cell? ⟨w.heap.size, 1, none⟩ = some (.int .i64 q.num) ∧ w1.cell? ⟨w.heap.size, 2, none⟩ = some (.int .i64 q.ord) ∧ w1.cell? ⟨w.heap.size, 3, none⟩ = some (.int .i64 q.cop) ∧ w1.cell? ⟨w.heap.size, 4, none⟩ = some (.int .i64 q.amt) := by
                have h := X0.out.below hb (by simp)
                exact ⟨h.cell 0, h.cell 1, h.cell 2, h.cell 3, h.cell 4⟩
              have hqz : w.heap.size < w1.heap.size := by have := hb.size; simp at this; omega
              clear hb
              go_wp2
              go_ret2
              exact ResO.nil (B1.out.alloc hz1 _)
            · skip
              by_cases k6 : 100000000 < q.amt
              · have e1 : billO xs q = (2, []) := by unfold billO; exact opR_err h1 h4 (by unfold billE; rw [if_pos (Decidable.not_not.1 k1), if_neg (by omega)]) (by decide)
                rw [e1]
                have b1 : (x.ven != q.ven) = false := by simpa using k1
                clear hf hsl hs h1 h2 h3 h4 e1 hm hu hwi
                unfold blV
                go_enter Tryz.func77, Tryz.ntmps77
                go_wp2_with fail
                refine HF.out.mono ?_
                rintro e w1 ⟨rfl, hb⟩
                have B1 := hide (B0.out.trans (hb.mono (by simp)))
                have hz1 := B1.out.size
                obtain ⟨q0, q1, q2, q3, q4⟩ : w1.cell? ⟨w.heap.size, 0, none⟩ = some (.int .i64 q.ven) ∧ w1.cell? ⟨w.heap.size, 1, none⟩ = some (.int .i64 q.num) ∧ w1.cell? ⟨w.heap.size, 2, none⟩ = some (.int .i64 q.ord) ∧ w1.cell? ⟨w.heap.size, 3, none⟩ = some (.int .i64 q.cop) ∧ w1.cell? ⟨w.heap.size, 4, none⟩ = some (.int .i64 q.amt) := by
                  have h := X0.out.below hb (by simp)
                  exact ⟨h.cell 0, h.cell 1, h.cell 2, h.cell 3, h.cell 4⟩
                have hqz : w.heap.size < w1.heap.size := by have := hb.size; simp at this; omega
                clear hb
                go_wp2
                go_ret2
                exact ResO.nil (B1.out.alloc hz1 _)
              · skip
                by_cases k7 : ¬ q.cop ≤ x.rcv - x.bil
                · have e1 : billO xs q = (12, []) := by unfold billO; exact opR_err h1 h4 (by unfold billE; rw [if_pos (Decidable.not_not.1 k1), if_pos (by omega), if_neg k7]) (by decide)
                  rw [e1]
                  have b1 : (x.ven != q.ven) = false := by simpa using k1
                  have hw1 : IntKind.i64.wrap (x.rcv - x.bil) = x.rcv - x.bil := by rw [IntKind.wrap_i64]; omega
                  have o7 : x.rcv - x.bil < q.cop := by omega
                  clear hf hsl hs h1 h2 h3 h4 e1 hm hu hwi
                  unfold blV
                  go_enter Tryz.func77, Tryz.ntmps77
                  go_wp2_with fail
                  refine HF.out.mono ?_
                  rintro e w1 ⟨rfl, hb⟩
                  have B1 := hide (B0.out.trans (hb.mono (by simp)))
                  have hz1 := B1.out.size
                  obtain ⟨q0, q1, q2, q3, q4⟩ : w1.cell? ⟨w.heap.size, 0, none⟩ = some (.int .i64 q.ven) ∧ w1.cell? ⟨w.heap.size, 1, none⟩ = some (.int .i64 q.num) ∧ w1.cell? ⟨w.heap.size, 2, none⟩ = some (.int .i64 q.ord) ∧ w1.cell? ⟨w.heap.size, 3, none⟩ = some (.int .i64 q.cop) ∧ w1.cell? ⟨w.heap.size, 4, none⟩ = some (.int .i64 q.amt) := by
                    have h := X0.out.below hb (by simp)
                    exact ⟨h.cell 0, h.cell 1, h.cell 2, h.cell 3, h.cell 4⟩
                  have hqz : w.heap.size < w1.heap.size := by have := hb.size; simp at this; omega
                  clear hb
                  go_wp2
                  go_ret2
                  exact ResO.nil (B1.out.alloc hz1 _)
                · skip
                  by_cases k8 : ¬ x.paid + q.amt ≤ 100000000
                  · have e1 : billO xs q = (2, []) := by unfold billO; exact opR_err h1 h4 (by unfold billE; rw [if_pos (Decidable.not_not.1 k1), if_pos (by omega), if_pos (by omega), if_neg k8]) (by decide)
                    rw [e1]
                    have b1 : (x.ven != q.ven) = false := by simpa using k1
                    have hw1 : IntKind.i64.wrap (x.rcv - x.bil) = x.rcv - x.bil := by rw [IntKind.wrap_i64]; omega
                    have hw2 : IntKind.i64.wrap (x.paid + q.amt) = x.paid + q.amt := by rw [IntKind.wrap_i64]; omega
                    have hw3 : IntKind.i64.wrap (100000000 - x.paid) = 100000000 - x.paid := by rw [IntKind.wrap_i64]; omega
                    have o7 : ¬ x.rcv - x.bil < q.cop := by omega
                    have o8 : 100000000 < x.paid + q.amt := by omega
                    have o9 : 100000000 - x.paid < q.amt := by omega
                    clear hf hsl hs h1 h2 h3 h4 e1 hm hu hwi
                    unfold blV
                    go_enter Tryz.func77, Tryz.ntmps77
                    go_wp2_with fail
                    refine HF.out.mono ?_
                    rintro e w1 ⟨rfl, hb⟩
                    have B1 := hide (B0.out.trans (hb.mono (by simp)))
                    have hz1 := B1.out.size
                    obtain ⟨q0, q1, q2, q3, q4⟩ : w1.cell? ⟨w.heap.size, 0, none⟩ = some (.int .i64 q.ven) ∧ w1.cell? ⟨w.heap.size, 1, none⟩ = some (.int .i64 q.num) ∧ w1.cell? ⟨w.heap.size, 2, none⟩ = some (.int .i64 q.ord) ∧ w1.cell? ⟨w.heap.size, 3, none⟩ = some (.int .i64 q.cop) ∧ w1.cell? ⟨w.heap.size, 4, none⟩ = some (.int .i64 q.amt) := by
                      have h := X0.out.below hb (by simp)
                      exact ⟨h.cell 0, h.cell 1, h.cell 2, h.cell 3, h.cell 4⟩
                    have hqz : w.heap.size < w1.heap.size := by have := hb.size; simp at this; omega
                    clear hb
                    go_wp2
                    go_ret2
                    exact ResO.nil (B1.out.alloc hz1 _)
                  · skip
                    have e1 : billO xs q = (0, xs.set i (billF q x)) := by unfold billO; exact opR_ok h1 h4 (by unfold billE; rw [if_pos (Decidable.not_not.1 k1), if_pos (by omega), if_pos (by omega), if_pos (by omega)])
                    rw [e1]
                    have b1 : (x.ven != q.ven) = false := by simpa using k1
                    have hw1 : IntKind.i64.wrap (x.rcv - x.bil) = x.rcv - x.bil := by rw [IntKind.wrap_i64]; omega
                    have hw2 : IntKind.i64.wrap (x.paid + q.amt) = x.paid + q.amt := by rw [IntKind.wrap_i64]; omega
                    have hw3 : IntKind.i64.wrap (100000000 - x.paid) = 100000000 - x.paid := by rw [IntKind.wrap_i64]; omega
                    have hw4 : IntKind.i64.wrap (x.bil + q.cop) = x.bil + q.cop := by rw [IntKind.wrap_i64]; omega
                    have o7 : ¬ x.rcv - x.bil < q.cop := by omega
                    have o8 : ¬ 100000000 < x.paid + q.amt := by omega
                    have o9 : ¬ 100000000 - x.paid < q.amt := by omega
                    by_cases hc : x.bil + q.cop = x.cop
                    · have hfv : odV (billF q x) = .agg #[.int .i64 x.id, .int .i64 x.rcd, .int .i64 x.ven, .int .i64 x.cop, .int .i64 x.pri, .int .i64 x.rcv, .int .i64 (x.bil + q.cop), .int .i64 (x.paid + q.amt), .int .i64 2, .slice x.shA x.shn x.shc] := by unfold odV billF; rw [if_pos hc]
                      have hcb : (x.bil + q.cop == x.cop) = true := by simpa using hc
                      have hp := fun W hW => hwi W (billF q x) rfl hW
                      rw [hu i x (billF q x) h2 rfl, hfv] at hp
                      have hyl : (xs.set i (billF q x)).length = xs.length := List.length_set
                      generalize xs.set i (billF q x) = ys at hp hyl ⊢
                      have HP := hide hp
                      have HYL := hide hyl
                      clear hf hsl hs h1 h2 h3 h4 e1 hm hp hyl hfv hu hwi hc
                      unfold blV
                      go_enter Tryz.func77, Tryz.ntmps77
                      go_wp2_with fail
                      refine HF.out.mono ?_
                      rintro e w1 ⟨rfl, hb⟩
                      have B1 := hide (B0.out.trans (hb.mono (by simp)))
                      have hz1 := B1.out.size
                      obtain ⟨q0, q1, q2, q3, q4⟩ : w1.cell? ⟨w.heap.size, 0, none⟩ = some (.int .i64 q.ven) ∧ w1.cell? ⟨w.heap.size, 1, none⟩ = some (.int .i64 q.num) ∧ w1.cell? ⟨w.heap.size, 2, none⟩ = some (.int .i64 q.ord) ∧ w1.cell? ⟨w.heap.size, 3, none⟩ = some (.int .i64 q.cop) ∧ w1.cell? ⟨w.heap.size, 4, none⟩ = some (.int .i64 q.amt) := by
                        have h := X0.out.below hb (by simp)
                        exact ⟨h.cell 0, h.cell 1, h.cell 2, h.cell 3, h.cell 4⟩
                      have hqz : w.heap.size < w1.heap.size := by have := hb.size; simp at this; omega
                      clear hb HF
                      go_wp2_with fail
                      refine (HP.out _ (by first | exact B1.out.alloc hz1 _ | exact (below_drewN B1.out _).alloc hz1 _)).mono ?_
                      rintro e w3 ⟨v, rfl, hown, hb3⟩
                      have B3 := hide ((by first | exact B1.out.alloc hz1 _ | exact (below_drewN B1.out _).alloc hz1 _ : Below w.heap.size w _).trans (hb3.mono (by first | (simp; done) | (simp; omega))))
                      obtain ⟨A1, c1, hv, hsl3⟩ := Odo_sl hown (by rw [HYL.out]; omega)
                      subst hv
                      have HS3 := hide hsl3
                      clear hown hb3 hsl3
                      go_wp2
                      go_ret2
                      exact ⟨_, _, _, rfl, HS3.out, B3.out⟩
                    · have hfv : odV (billF q x) = .agg #[.int .i64 x.id, .int .i64 x.rcd, .int .i64 x.ven, .int .i64 x.cop, .int .i64 x.pri, .int .i64 x.rcv, .int .i64 (x.bil + q.cop), .int .i64 (x.paid + q.amt), .int .i64 x.st, .slice x.shA x.shn x.shc] := by unfold odV billF; rw [if_neg hc]
                      have hcb : (x.bil + q.cop == x.cop) = false := by simpa using hc
                      have hp := fun W hW => hwi W (billF q x) rfl hW
                      rw [hu i x (billF q x) h2 rfl, hfv] at hp
                      have hyl : (xs.set i (billF q x)).length = xs.length := List.length_set
                      generalize xs.set i (billF q x) = ys at hp hyl ⊢
                      have HP := hide hp
                      have HYL := hide hyl
                      clear hf hsl hs h1 h2 h3 h4 e1 hm hp hyl hfv hu hwi hc
                      unfold blV
                      go_enter Tryz.func77, Tryz.ntmps77
                      go_wp2_with fail
                      refine HF.out.mono ?_
                      rintro e w1 ⟨rfl, hb⟩
                      have B1 := hide (B0.out.trans (hb.mono (by simp)))
                      have hz1 := B1.out.size
                      obtain ⟨q0, q1, q2, q3, q4⟩ : w1.cell? ⟨w.heap.size, 0, none⟩ = some (.int .i64 q.ven) ∧ w1.cell? ⟨w.heap.size, 1, none⟩ = some (.int .i64 q.num) ∧ w1.cell? ⟨w.heap.size, 2, none⟩ = some (.int .i64 q.ord) ∧ w1.cell? ⟨w.heap.size, 3, none⟩ = some (.int .i64 q.cop) ∧ w1.cell? ⟨w.heap.size, 4, none⟩ = some (.int .i64 q.amt) := by
                        have h := X0.out.below hb (by simp)
                        exact ⟨h.cell 0, h.cell 1, h.cell 2, h.cell 3, h.cell 4⟩
                      have hqz : w.heap.size < w1.heap.size := by have := hb.size; simp at this; omega
                      clear hb HF
                      go_wp2_with fail
                      refine (HP.out _ (by first | exact B1.out.alloc hz1 _ | exact (below_drewN B1.out _).alloc hz1 _)).mono ?_
                      rintro e w3 ⟨v, rfl, hown, hb3⟩
                      have B3 := hide ((by first | exact B1.out.alloc hz1 _ | exact (below_drewN B1.out _).alloc hz1 _ : Below w.heap.size w _).trans (hb3.mono (by first | (simp; done) | (simp; omega))))
                      obtain ⟨A1, c1, hv, hsl3⟩ := Odo_sl hown (by rw [HYL.out]; omega)
                      subst hv
                      have HS3 := hide hsl3
                      clear hown hb3 hsl3
                      go_wp2
                      go_ret2
                      exact ⟨_, _, _, rfl, HS3.out, B3.out⟩

end Go.Proofs.YtbhndfphegflhaaGreat
