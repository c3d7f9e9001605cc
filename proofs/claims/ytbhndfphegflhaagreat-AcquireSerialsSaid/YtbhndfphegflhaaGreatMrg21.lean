/- Texts laid together by merge.py: OdK. -/
import Derived.Test.YtbhndfphegflhaaGreatMrg7
import Derived.Test.YtbhndfphegflhaaGreatMrg5
set_option linter.unusedSimpArgs false
set_option linter.unusedVariables false
/- Walks: Receive, Stop and Bill of order. Printed by gen_od_ops.py. -/
namespace Go.Proofs.YtbhndfphegflhaaGreat
open Go.RowKit

theorem opO_err {xs : List Od} {id e : Int} {er : Od → Int} {g : Od → Od} {i : Nat} {x : Od} (h : atO xs id = i) (hg : getO xs id = (x, true)) (he : er x = e) (hne : e ≠ 0) : opO xs id er g = (e, []) := by
  rw [opO_some h hg, he, if_neg hne]
theorem opO_ok {xs : List Od} {id : Int} {er : Od → Int} {g : Od → Od} {i : Nat} {x : Od} (h : atO xs id = i) (hg : getO xs id = (x, true)) (he : er x = 0) : opO xs id er g = (0, xs.set i (g x)) := by
  rw [opO_some h hg, he, if_pos rfl]

/-- What a change of orders hands back, the orders in a row of the call's own. -/
def ResF (w : World) (r : Int × List Od) (e : Ending) (w' : World) : Prop :=
  ∃ v, e = .returned (.tuple #[v, .int .i64 r.1]) ∧ Odo w' w.heap.size v r.2 ∧ Below w.heap.size w w'
theorem ResF.nil {w w' : World} {er : Int} (h : Below w.heap.size w w') : ResF w (er, []) (.returned (.tuple #[.slice none 0 0, .int .i64 er])) w' := ⟨_, rfl, World.ownsRow_nil _ _ _ _, h⟩
theorem ResF.o {w w' : World} {r : Int × List Od} {e : Ending} (h : ResF w r e w') (hl : r.2.length ≤ 1000) : ResO w r e w' := by
  obtain ⟨v, he, ho, hb⟩ := h
  obtain ⟨A, c, rfl, hs⟩ := Odo_sl ho (by omega)
  exact ⟨A, _, c, he, hs, hb⟩
theorem opO_len {xs : List Od} {id : Int} {er : Od → Int} {g : Od → Od} (h : xs.length ≤ 1000) : (opO xs id er g).2.length ≤ 1000 := by
  unfold opO
  split
  · simp
  · split
    · simpa using h
    · simp

set_option maxRecDepth 100000 in
set_option maxHeartbeats 2000000 in
theorem oreceiveF_any (A : Option Addr) (n c : Nat) (xs : List Od) (id m : Int) (w : World) (hs : Ods w w.heap.size A n c xs) (hn : n ≤ 1000) (hm : ∀ y ∈ xs, OdM y) :
    Calls Tryz.prog 68 #[.slice A n c, .int .i64 id, .int .i64 m] w (ResF w (receiveO xs id m)) := by
  obtain rfl := hs.len
  have hle := hs.le
  have hbig := hs.big
  have hsl : ∀ W, Below w.heap.size w W → Ods W W.heap.size A xs.length c xs := fun W hW => (hs.below hW).more hW.size
  have hf := find_any A xs.length c xs id w (hsl _ (Below.refl _ _))
  rcases getO_cases xs id with ⟨h1, h2, _⟩ | ⟨i, x, h1, h2, h3, h4, _⟩
  · have e1 : receiveO xs id m = (9, []) := by unfold receiveO; exact opO_none h1
    rw [e1]
    rw [h1] at hf
    have HF := hide hf
    clear hf hsl hs h1 h2 e1 hm
    go_enter Tryz.func68, Tryz.ntmps68
    go_wp2_with fail
    refine HF.out.mono ?_
    rintro e w1 ⟨rfl, hb⟩
    have B1 := hide hb
    have hz1 := B1.out.size
    clear hb
    go_wp2
    go_ret2
    exact ResF.nil B1.out
  · have hi : i < xs.length := (List.getElem?_eq_some_iff.1 h2).1
    have hM := hm x (List.mem_of_getElem? h2)
    obtain ⟨_, ⟨p1, p2⟩, ⟨p3, p4⟩, ⟨p5, p6⟩, ⟨p7, p8⟩, ⟨p9, p10⟩⟩ := hM
    rw [h1] at hf
    obtain ⟨b, off, y, rfl, hbB, hy, c0, c1, c2, c3, c4, c5, c6, c7, c8, c9⟩ := Ods_at hs hi
    obtain rfl : x = y := by rw [hy] at h2; exact (Option.some.inj h2).symm
    have hpt := fun (W : World) (y : Od) (hW : Below w.heap.size w W) => oput_any (some ⟨b, off, none⟩) xs.length c i y xs W (hsl W hW) hn hi
    have HF := hide hf
    by_cases k1 : m < 1
    · have e1 : receiveO xs id m = (2, []) := by unfold receiveO; exact opO_err h1 h4 (by unfold rcvE; rw [if_pos k1]) (by decide)
      rw [e1]
      have hw1 : IntKind.i64.wrap (x.cop - x.rcv) = x.cop - x.rcv := by rw [IntKind.wrap_i64]; omega
      clear hf hsl hs h1 h2 h3 h4 e1 hm hpt hy
      go_enter Tryz.func68, Tryz.ntmps68
      go_wp2_with fail
      refine HF.out.mono ?_
      rintro e w1 ⟨rfl, hb⟩
      have B1 := hide hb
      have hz1 := B1.out.size
      clear hb
      have hcc : ∀ o, w1.cell? ⟨b, o, none⟩ = w.cell? ⟨b, o, none⟩ := fun o => B1.out.cell (p := ⟨b, o, none⟩) hbB
      rw [← hcc] at c0 c1 c2 c3 c4 c5 c6 c7 c8 c9
      clear hcc
      have hbB1 : b < w1.heap.size := by omega
      go_wp2
      go_ret2
      exact ResF.nil B1.out
    · skip
      by_cases k2 : ¬ x.st = 1
      · have e1 : receiveO xs id m = (12, []) := by unfold receiveO; exact opO_err h1 h4 (by unfold rcvE; rw [if_neg k1, if_neg (fun h => k2 h.1)]) (by decide)
        rw [e1]
        have b2 : (x.st != 1) = true := by simpa using k2
        have hw1 : IntKind.i64.wrap (x.cop - x.rcv) = x.cop - x.rcv := by rw [IntKind.wrap_i64]; omega
        clear hf hsl hs h1 h2 h3 h4 e1 hm hpt hy
        go_enter Tryz.func68, Tryz.ntmps68
        go_wp2_with fail
        refine HF.out.mono ?_
        rintro e w1 ⟨rfl, hb⟩
        have B1 := hide hb
        have hz1 := B1.out.size
        clear hb
        have hcc : ∀ o, w1.cell? ⟨b, o, none⟩ = w.cell? ⟨b, o, none⟩ := fun o => B1.out.cell (p := ⟨b, o, none⟩) hbB
        rw [← hcc] at c0 c1 c2 c3 c4 c5 c6 c7 c8 c9
        clear hcc
        have hbB1 : b < w1.heap.size := by omega
        go_wp2_with fail
        go_quiet (fail)
        go_wp2
        go_ret2
        exact ResF.nil (below_drewN B1.out _)
      · skip
        by_cases k3 : ¬ m ≤ x.cop - x.rcv
        · have e1 : receiveO xs id m = (12, []) := by unfold receiveO; exact opO_err h1 h4 (by unfold rcvE; rw [if_neg k1, if_neg (fun h => k3 h.2)]) (by decide)
          rw [e1]
          have b2 : (x.st != 1) = false := by simpa using k2
          have hw1 : IntKind.i64.wrap (x.cop - x.rcv) = x.cop - x.rcv := by rw [IntKind.wrap_i64]; omega
          have o3 : x.cop - x.rcv < m := by omega
          clear hf hsl hs h1 h2 h3 h4 e1 hm hpt hy
          go_enter Tryz.func68, Tryz.ntmps68
          go_wp2_with fail
          refine HF.out.mono ?_
          rintro e w1 ⟨rfl, hb⟩
          have B1 := hide hb
          have hz1 := B1.out.size
          clear hb
          have hcc : ∀ o, w1.cell? ⟨b, o, none⟩ = w.cell? ⟨b, o, none⟩ := fun o => B1.out.cell (p := ⟨b, o, none⟩) hbB
          rw [← hcc] at c0 c1 c2 c3 c4 c5 c6 c7 c8 c9
          clear hcc
          have hbB1 : b < w1.heap.size := by omega
          go_wp2_with fail
          go_quiet (fail)
          go_wp2
          go_ret2
          exact ResF.nil (below_drewN B1.out _)
        · skip
          have e1 : receiveO xs id m = (0, xs.set i (rcvF m x)) := by unfold receiveO; exact opO_ok h1 h4 (by unfold rcvE; rw [if_neg k1, if_pos ⟨Decidable.not_not.1 k2, Decidable.not_not.1 k3⟩])
          rw [e1]
          have b2 : (x.st != 1) = false := by simpa using k2
          have hw1 : IntKind.i64.wrap (x.cop - x.rcv) = x.cop - x.rcv := by rw [IntKind.wrap_i64]; omega
          have hw2 : IntKind.i64.wrap (x.rcv + m) = x.rcv + m := by rw [IntKind.wrap_i64]; omega
          have o3 : ¬ x.cop - x.rcv < m := by omega
          have hfv : odV (rcvF m x) = .agg #[.int .i64 x.id, .int .i64 x.rcd, .int .i64 x.ven, .int .i64 x.cop, .int .i64 x.pri, .int .i64 (x.rcv + m), .int .i64 x.bil, .int .i64 x.paid, .int .i64 x.st, .slice x.shA x.shn x.shc] := rfl
          have hp := fun W hW => hpt W (rcvF m x) hW
          rw [hfv] at hp
          have hyl : (xs.set i (rcvF m x)).length = xs.length := List.length_set
          generalize xs.set i (rcvF m x) = ys at hp hyl ⊢
          have HP := hide hp
          have HYL := hide hyl
          clear hf hsl hs h1 h2 h3 h4 e1 hm hp hyl hfv hpt hy
          go_enter Tryz.func68, Tryz.ntmps68
          go_wp2_with fail
          refine HF.out.mono ?_
          rintro e w1 ⟨rfl, hb⟩
          have B1 := hide hb
          have hz1 := B1.out.size
          clear hb HF
          have hcc : ∀ o, w1.cell? ⟨b, o, none⟩ = w.cell? ⟨b, o, none⟩ := fun o => B1.out.cell (p := ⟨b, o, none⟩) hbB
          rw [← hcc] at c0 c1 c2 c3 c4 c5 c6 c7 c8 c9
          clear hcc
          have hbB1 : b < w1.heap.size := by omega
          go_wp2_with fail
          go_quiet (fail)
          have hcq : ∀ o, w1.cell? ⟨b, o, none⟩ = (w1.drewN nq).cell? ⟨b, o, none⟩ := fun _ => rfl
          rw [hcq] at c0 c1 c2 c3 c4 c5 c6 c7 c8 c9
          have hzq : w1.heap.size = (w1.drewN nq).heap.size := rfl
          rw [hzq] at hz1 hbB1
          have B2 := hide (below_drewN B1.out nq)
          clear hcq hzq B1
          generalize w1.drewN nq = w2 at *
          have B1 := hide B2.out
          clear B2
          go_wp2_with fail
          refine (HP.out _ (by first | exact B1.out.alloc hz1 _ | exact (below_drewN B1.out _).alloc hz1 _)).mono ?_
          rintro e w3 ⟨v, rfl, hown, hb3⟩
          have B3 := hide ((by first | exact B1.out.alloc hz1 _ | exact (below_drewN B1.out _).alloc hz1 _ : Below w.heap.size w _).trans (hb3.mono (by first | (simp; done) | (simp; omega))))
          have HO3 := hide hown
          clear hown hb3
          go_wp2
          go_ret2
          exact ⟨_, rfl, own_base HO3.out (by first | exact B1.out.size | (simp; exact B1.out.size) | (simp; omega)), B3.out⟩

theorem oreceive_any (A : Option Addr) (n c : Nat) (xs : List Od) (id m : Int) (w : World) (hs : Ods w w.heap.size A n c xs) (hn : n ≤ 1000) (hm : ∀ y ∈ xs, OdM y) :
    Calls Tryz.prog 68 #[.slice A n c, .int .i64 id, .int .i64 m] w (ResO w (receiveO xs id m)) :=
  (oreceiveF_any A n c xs id m w hs hn hm).mono fun _ _ h => h.o (opO_len (by rw [hs.len]; exact hn))

set_option maxRecDepth 100000 in
set_option maxHeartbeats 2000000 in
theorem ostopF_any (A : Option Addr) (n c : Nat) (xs : List Od) (id : Int) (w : World) (hs : Ods w w.heap.size A n c xs) (hn : n ≤ 1000) (hm : ∀ y ∈ xs, OdM y) :
    Calls Tryz.prog 79 #[.slice A n c, .int .i64 id] w (ResF w (stopO xs id)) := by
  obtain rfl := hs.len
  have hle := hs.le
  have hbig := hs.big
  have hsl : ∀ W, Below w.heap.size w W → Ods W W.heap.size A xs.length c xs := fun W hW => (hs.below hW).more hW.size
  have hf := find_any A xs.length c xs id w (hsl _ (Below.refl _ _))
  rcases getO_cases xs id with ⟨h1, h2, _⟩ | ⟨i, x, h1, h2, h3, h4, _⟩
  · have e1 : stopO xs id = (9, []) := by unfold stopO; exact opO_none h1
    rw [e1]
    rw [h1] at hf
    have HF := hide hf
    clear hf hsl hs h1 h2 e1 hm
    go_enter Tryz.func79, Tryz.ntmps79
    go_wp2_with fail
    refine HF.out.mono ?_
    rintro e w1 ⟨rfl, hb⟩
    have B1 := hide hb
    have hz1 := B1.out.size
    clear hb
    go_wp2
    go_ret2
    exact ResF.nil B1.out
  · have hi : i < xs.length := (List.getElem?_eq_some_iff.1 h2).1
    have hM := hm x (List.mem_of_getElem? h2)
    obtain ⟨_, ⟨p1, p2⟩, ⟨p3, p4⟩, ⟨p5, p6⟩, ⟨p7, p8⟩, ⟨p9, p10⟩⟩ := hM
    rw [h1] at hf
    obtain ⟨b, off, y, rfl, hbB, hy, c0, c1, c2, c3, c4, c5, c6, c7, c8, c9⟩ := Ods_at hs hi
    obtain rfl : x = y := by rw [hy] at h2; exact (Option.some.inj h2).symm
    have hpt := fun (W : World) (y : Od) (hW : Below w.heap.size w W) => oput_any (some ⟨b, off, none⟩) xs.length c i y xs W (hsl W hW) hn hi
    have HF := hide hf
    by_cases k1 : ¬ x.st = 1
    · have e1 : stopO xs id = (12, []) := by unfold stopO; exact opO_err h1 h4 (by unfold stopE; rw [if_neg k1]) (by decide)
      rw [e1]
      have b1 : (x.st != 1) = true := by simpa using k1
      clear hf hsl hs h1 h2 h3 h4 e1 hm hpt hy
      go_enter Tryz.func79, Tryz.ntmps79
      go_wp2_with fail
      refine HF.out.mono ?_
      rintro e w1 ⟨rfl, hb⟩
      have B1 := hide hb
      have hz1 := B1.out.size
      clear hb
      have hcc : ∀ o, w1.cell? ⟨b, o, none⟩ = w.cell? ⟨b, o, none⟩ := fun o => B1.out.cell (p := ⟨b, o, none⟩) hbB
      rw [← hcc] at c0 c1 c2 c3 c4 c5 c6 c7 c8 c9
      clear hcc
      have hbB1 : b < w1.heap.size := by omega
      go_wp2
      go_ret2
      exact ResF.nil (B1.out.alloc hz1 _)
    · skip
      have e1 : stopO xs id = (0, xs.set i (stopF x)) := by unfold stopO; exact opO_ok h1 h4 (by unfold stopE; rw [if_pos (Decidable.not_not.1 k1)])
      rw [e1]
      have b1 : (x.st != 1) = false := by simpa using k1
      have hfv : odV (stopF x) = .agg #[.int .i64 x.id, .int .i64 x.rcd, .int .i64 x.ven, .int .i64 x.cop, .int .i64 x.pri, .int .i64 x.rcv, .int .i64 x.bil, .int .i64 x.paid, .int .i64 3, .slice x.shA x.shn x.shc] := rfl
      have hp := fun W hW => hpt W (stopF x) hW
      rw [hfv] at hp
      have hyl : (xs.set i (stopF x)).length = xs.length := List.length_set
      generalize xs.set i (stopF x) = ys at hp hyl ⊢
      have HP := hide hp
      have HYL := hide hyl
      clear hf hsl hs h1 h2 h3 h4 e1 hm hp hyl hfv hpt hy
      go_enter Tryz.func79, Tryz.ntmps79
      go_wp2_with fail
      refine HF.out.mono ?_
      rintro e w1 ⟨rfl, hb⟩
      have B1 := hide hb
      have hz1 := B1.out.size
      clear hb HF
      have hcc : ∀ o, w1.cell? ⟨b, o, none⟩ = w.cell? ⟨b, o, none⟩ := fun o => B1.out.cell (p := ⟨b, o, none⟩) hbB
      rw [← hcc] at c0 c1 c2 c3 c4 c5 c6 c7 c8 c9
      clear hcc
      have hbB1 : b < w1.heap.size := by omega
      go_wp2_with fail
      refine (HP.out _ (by first | exact B1.out.alloc hz1 _ | exact (below_drewN B1.out _).alloc hz1 _)).mono ?_
      rintro e w3 ⟨v, rfl, hown, hb3⟩
      have B3 := hide ((by first | exact B1.out.alloc hz1 _ | exact (below_drewN B1.out _).alloc hz1 _ : Below w.heap.size w _).trans (hb3.mono (by first | (simp; done) | (simp; omega))))
      have HO3 := hide hown
      clear hown hb3
      go_wp2
      go_ret2
      exact ⟨_, rfl, own_base HO3.out (by first | exact B1.out.size | (simp; exact B1.out.size) | (simp; omega)), B3.out⟩

theorem ostop_any (A : Option Addr) (n c : Nat) (xs : List Od) (id : Int) (w : World) (hs : Ods w w.heap.size A n c xs) (hn : n ≤ 1000) (hm : ∀ y ∈ xs, OdM y) :
    Calls Tryz.prog 79 #[.slice A n c, .int .i64 id] w (ResO w (stopO xs id)) :=
  (ostopF_any A n c xs id w hs hn hm).mono fun _ _ h => h.o (opO_len (by rw [hs.len]; exact hn))

set_option maxRecDepth 100000 in
set_option maxHeartbeats 2000000 in
theorem obillF_any (A : Option Addr) (n c : Nat) (xs : List Od) (q : Bl) (w : World) (hs : Ods w w.heap.size A n c xs) (hn : n ≤ 1000) (hm : ∀ y ∈ xs, OdM y) :
    Calls Tryz.prog 74 #[.slice A n c, blV q] w (ResF w (billO xs q)) := by
  obtain rfl := hs.len
  have hle := hs.le
  have hbig := hs.big
  have hsl : ∀ W, Below w.heap.size w W → Ods W W.heap.size A xs.length c xs := fun W hW => (hs.below hW).more hW.size
  have B0 := hide ((Below.refl w.heap.size w).alloc (Nat.le_refl _) (.cells (blC q) 43))
  have X0 := hide (Box.new w 43 (blC q))
  have hf := find_any A xs.length c xs q.ord (w.alloc (.cells (blC q) 43)) (hsl _ B0.out)
  rcases getO_cases xs q.ord with ⟨h1, h2, _⟩ | ⟨i, x, h1, h2, h3, h4, _⟩
  · have e1 : billO xs q = (9, []) := by unfold billO; exact opO_none h1
    rw [e1]
    rw [h1] at hf
    have HF := hide hf
    clear hf hsl hs h1 h2 e1 hm
    unfold blV
    go_enter Tryz.func74, Tryz.ntmps74
    go_wp2_with fail
    refine HF.out.mono ?_
    rintro e w1 ⟨rfl, hb⟩
    have B1 := hide (B0.out.trans (hb.mono (by simp)))
    have hz1 := B1.out.size
    obtain ⟨q0, q1, q2, q3, q4⟩ : w1.cell? ⟨w.heap.size, 0, none⟩ = some (.int .i64 q.ven) ∧ w1.cell? ⟨w.heap.size, 1, none⟩ = some (.int .i64 q.num) ∧ w1.cell? ⟨w.heap.size, 2, none⟩ = some (.int .i64 q.ord) ∧ w1.cell? ⟨w.heap.size, 3, none⟩ = some (.int .i64 q.cop) ∧ w1.cell? ⟨w.heap.size, 4, none⟩ = some (.int .i64 q.amt) := by
      have h := X0.out.below hb (by simp)
      exact ⟨h.cell 0, h.cell 1, h.cell 2, h.cell 3, h.cell 4⟩
    have hqz : w.heap.size < w1.heap.size := by have := hb.size; simp at this; omega
    clear hb
    go_wp2
    go_ret2
    exact ResF.nil B1.out
  · have hi : i < xs.length := (List.getElem?_eq_some_iff.1 h2).1
    have hM := hm x (List.mem_of_getElem? h2)
    obtain ⟨_, ⟨p1, p2⟩, ⟨p3, p4⟩, ⟨p5, p6⟩, ⟨p7, p8⟩, ⟨p9, p10⟩⟩ := hM
    rw [h1] at hf
    obtain ⟨b, off, y, rfl, hbB, hy, c0, c1, c2, c3, c4, c5, c6, c7, c8, c9⟩ := Ods_at hs hi
    obtain rfl : x = y := by rw [hy] at h2; exact (Option.some.inj h2).symm
    have hpt := fun (W : World) (y : Od) (hW : Below w.heap.size w W) => oput_any (some ⟨b, off, none⟩) xs.length c i y xs W (hsl W hW) hn hi
    have HF := hide hf
    by_cases k1 : ¬ x.ven = q.ven
    · have e1 : billO xs q = (1, []) := by unfold billO; exact opO_err h1 h4 (by unfold billE; rw [if_neg k1]) (by decide)
      rw [e1]
      have b1 : (x.ven != q.ven) = true := by simpa using k1
      clear hf hsl hs h1 h2 h3 h4 e1 hm hpt hy
      unfold blV
      go_enter Tryz.func74, Tryz.ntmps74
      go_wp2_with fail
      refine HF.out.mono ?_
      rintro e w1 ⟨rfl, hb⟩
      have B1 := hide (B0.out.trans (hb.mono (by simp)))
      have hz1 := B1.out.size
      obtain ⟨q0, q1, q2, q3, q4⟩ : w1.cell? ⟨w.heap.size, 0, none⟩ = some (.int .i64 q.ven) ∧ w1.cell? ⟨w.heap.size, 1, none⟩ = some (.int .i64 q.num) ∧ w1.cell? ⟨w.heap.size, 2, none⟩ = some (.int .i64 q.ord) ∧ w1.cell? ⟨w.heap.size, 3, none⟩ = some (.int .i64 q.cop) ∧ w1.cell? ⟨w.heap.size, 4, none⟩ = some (.int .i64 q.amt) := by
        have h := X0.out.below hb (by simp)
        exact ⟨h.cell 0, h.cell 1, h.cell 2, h.cell 3, h.cell 4⟩
      have hqz : w.heap.size < w1.heap.size := by have := hb.size; simp at this; omega
      clear hb
      have hcc : ∀ o, w1.cell? ⟨b, o, none⟩ = w.cell? ⟨b, o, none⟩ := fun o => B1.out.cell (p := ⟨b, o, none⟩) hbB
      rw [← hcc] at c0 c1 c2 c3 c4 c5 c6 c7 c8 c9
      clear hcc
      have hbB1 : b < w1.heap.size := by omega
      have hne : b ≠ w.heap.size := by omega
      go_wp2
      go_ret2
      exact ResF.nil (B1.out.alloc hz1 _)
    · skip
      by_cases k2 : q.num < 1
      · have e1 : billO xs q = (2, []) := by unfold billO; exact opO_err h1 h4 (by unfold billE; rw [if_pos (Decidable.not_not.1 k1), if_neg (by omega)]) (by decide)
        rw [e1]
        have b1 : (x.ven != q.ven) = false := by simpa using k1
        clear hf hsl hs h1 h2 h3 h4 e1 hm hpt hy
        unfold blV
        go_enter Tryz.func74, Tryz.ntmps74
        go_wp2_with fail
        refine HF.out.mono ?_
        rintro e w1 ⟨rfl, hb⟩
        have B1 := hide (B0.out.trans (hb.mono (by simp)))
        have hz1 := B1.out.size
        obtain ⟨q0, q1, q2, q3, q4⟩ : w1.cell? ⟨w.heap.size, 0, none⟩ = some (.int .i64 q.ven) ∧ w1.cell? ⟨w.heap.size, 1, none⟩ = some (.int .i64 q.num) ∧ w1.cell? ⟨w.heap.size, 2, none⟩ = some (.int .i64 q.ord) ∧ w1.cell? ⟨w.heap.size, 3, none⟩ = some (.int .i64 q.cop) ∧ w1.cell? ⟨w.heap.size, 4, none⟩ = some (.int .i64 q.amt) := by
          have h := X0.out.below hb (by simp)
          exact ⟨h.cell 0, h.cell 1, h.cell 2, h.cell 3, h.cell 4⟩
        have hqz : w.heap.size < w1.heap.size := by have := hb.size; simp at this; omega
        clear hb
        have hcc : ∀ o, w1.cell? ⟨b, o, none⟩ = w.cell? ⟨b, o, none⟩ := fun o => B1.out.cell (p := ⟨b, o, none⟩) hbB
        rw [← hcc] at c0 c1 c2 c3 c4 c5 c6 c7 c8 c9
        clear hcc
        have hbB1 : b < w1.heap.size := by omega
        have hne : b ≠ w.heap.size := by omega
        have y1 : winB q.num 1 99999 = false := by simp only [winB, Bool.and_eq_false_iff, decide_eq_false_iff_not]; omega
        go_wp2_with (first | (go_at_call 129; with_reducible refine (owin_any q.num 1 99999 _).mono ?_; rintro e w2 ⟨rfl, rfl⟩; rw [y1]))
        go_ret2
        exact ResF.nil (B1.out.alloc hz1 _)
      · skip
        by_cases k3 : 99999 < q.num
        · have e1 : billO xs q = (2, []) := by unfold billO; exact opO_err h1 h4 (by unfold billE; rw [if_pos (Decidable.not_not.1 k1), if_neg (by omega)]) (by decide)
          rw [e1]
          have b1 : (x.ven != q.ven) = false := by simpa using k1
          clear hf hsl hs h1 h2 h3 h4 e1 hm hpt hy
          unfold blV
          go_enter Tryz.func74, Tryz.ntmps74
          go_wp2_with fail
          refine HF.out.mono ?_
          rintro e w1 ⟨rfl, hb⟩
          have B1 := hide (B0.out.trans (hb.mono (by simp)))
          have hz1 := B1.out.size
          obtain ⟨q0, q1, q2, q3, q4⟩ : w1.cell? ⟨w.heap.size, 0, none⟩ = some (.int .i64 q.ven) ∧ w1.cell? ⟨w.heap.size, 1, none⟩ = some (.int .i64 q.num) ∧ w1.cell? ⟨w.heap.size, 2, none⟩ = some (.int .i64 q.ord) ∧ w1.cell? ⟨w.heap.size, 3, none⟩ = some (.int .i64 q.cop) ∧ w1.cell? ⟨w.heap.size, 4, none⟩ = some (.int .i64 q.amt) := by
            have h := X0.out.below hb (by simp)
            exact ⟨h.cell 0, h.cell 1, h.cell 2, h.cell 3, h.cell 4⟩
          have hqz : w.heap.size < w1.heap.size := by have := hb.size; simp at this; omega
          clear hb
          have hcc : ∀ o, w1.cell? ⟨b, o, none⟩ = w.cell? ⟨b, o, none⟩ := fun o => B1.out.cell (p := ⟨b, o, none⟩) hbB
          rw [← hcc] at c0 c1 c2 c3 c4 c5 c6 c7 c8 c9
          clear hcc
          have hbB1 : b < w1.heap.size := by omega
          have hne : b ≠ w.heap.size := by omega
          have y1 : winB q.num 1 99999 = false := by simp only [winB, Bool.and_eq_false_iff, decide_eq_false_iff_not]; omega
          go_wp2_with (first | (go_at_call 129; with_reducible refine (owin_any q.num 1 99999 _).mono ?_; rintro e w2 ⟨rfl, rfl⟩; rw [y1]))
          go_ret2
          exact ResF.nil (B1.out.alloc hz1 _)
        · skip
          by_cases k4 : q.cop < 1
          · have e1 : billO xs q = (2, []) := by unfold billO; exact opO_err h1 h4 (by unfold billE; rw [if_pos (Decidable.not_not.1 k1), if_neg (by omega)]) (by decide)
            rw [e1]
            have b1 : (x.ven != q.ven) = false := by simpa using k1
            clear hf hsl hs h1 h2 h3 h4 e1 hm hpt hy
            unfold blV
            go_enter Tryz.func74, Tryz.ntmps74
            go_wp2_with fail
            refine HF.out.mono ?_
            rintro e w1 ⟨rfl, hb⟩
            have B1 := hide (B0.out.trans (hb.mono (by simp)))
            have hz1 := B1.out.size
            obtain ⟨q0, q1, q2, q3, q4⟩ : w1.cell? ⟨w.heap.size, 0, none⟩ = some (.int .i64 q.ven) ∧ w1.cell? ⟨w.heap.size, 1, none⟩ = some (.int .i64 q.num) ∧ w1.cell? ⟨w.heap.size, 2, none⟩ = some (.int .i64 q.ord) ∧ w1.cell? ⟨w.heap.size, 3, none⟩ = some (.int .i64 q.cop) ∧ w1.cell? ⟨w.heap.size, 4, none⟩ = some (.int .i64 q.amt) := by
              have h := X0.out.below hb (by simp)
              exact ⟨h.cell 0, h.cell 1, h.cell 2, h.cell 3, h.cell 4⟩
            have hqz : w.heap.size < w1.heap.size := by have := hb.size; simp at this; omega
            clear hb
            have hcc : ∀ o, w1.cell? ⟨b, o, none⟩ = w.cell? ⟨b, o, none⟩ := fun o => B1.out.cell (p := ⟨b, o, none⟩) hbB
            rw [← hcc] at c0 c1 c2 c3 c4 c5 c6 c7 c8 c9
            clear hcc
            have hbB1 : b < w1.heap.size := by omega
            have hne : b ≠ w.heap.size := by omega
            have y1 : winB q.num 1 99999 = true := by rw [winB_iff]; omega
            go_wp2_with (first | (go_at_call 129; with_reducible refine (owin_any q.num 1 99999 _).mono ?_; rintro e w2 ⟨rfl, rfl⟩; rw [y1]))
            go_ret2
            exact ResF.nil (B1.out.alloc hz1 _)
          · skip
            by_cases k5 : q.amt < 1
            · have e1 : billO xs q = (2, []) := by unfold billO; exact opO_err h1 h4 (by unfold billE; rw [if_pos (Decidable.not_not.1 k1), if_neg (by omega)]) (by decide)
              rw [e1]
              have b1 : (x.ven != q.ven) = false := by simpa using k1
              clear hf hsl hs h1 h2 h3 h4 e1 hm hpt hy
              unfold blV
              go_enter Tryz.func74, Tryz.ntmps74
              go_wp2_with fail
              refine HF.out.mono ?_
              rintro e w1 ⟨rfl, hb⟩
              have B1 := hide (B0.out.trans (hb.mono (by simp)))
              have hz1 := B1.out.size
              obtain ⟨q0, q1, q2, q3, q4⟩ : w1.cell? ⟨w.heap.size, 0, none⟩ = some (.int .i64 q.ven) ∧ w1.cell? ⟨w.heap.size, 1, none⟩ = some (.int .i64 q.num) ∧ w1.cell? ⟨w.heap.size, 2, none⟩ = some (.int .i64 q.ord) ∧ w1.cell? ⟨w.heap.size, 3, none⟩ = some (.int .i64 q.cop) ∧ w1.cell? ⟨w.heap.size, 4, none⟩ = some (.int .i64 q.amt) := by
                have h := X0.out.below hb (by simp)
                exact ⟨h.cell 0, h.cell 1, h.cell 2, h.cell 3, h.cell 4⟩
              have hqz : w.heap.size < w1.heap.size := by have := hb.size; simp at this; omega
              clear hb
              have hcc : ∀ o, w1.cell? ⟨b, o, none⟩ = w.cell? ⟨b, o, none⟩ := fun o => B1.out.cell (p := ⟨b, o, none⟩) hbB
              rw [← hcc] at c0 c1 c2 c3 c4 c5 c6 c7 c8 c9
              clear hcc
              have hbB1 : b < w1.heap.size := by omega
              have hne : b ≠ w.heap.size := by omega
              have y1 : winB q.num 1 99999 = true := by rw [winB_iff]; omega
              have y2 : winB q.amt 1 100000000 = false := by simp only [winB, Bool.and_eq_false_iff, decide_eq_false_iff_not]; omega
              go_wp2_with (first | (go_at_call 129; with_reducible refine (owin_any q.num 1 99999 _).mono ?_; rintro e w2 ⟨rfl, rfl⟩; rw [y1]) | (go_at_call 129; with_reducible refine (owin_any q.amt 1 100000000 _).mono ?_; rintro e w2 ⟨rfl, rfl⟩; rw [y2]))
              go_ret2
              exact ResF.nil (B1.out.alloc hz1 _)
            · skip
              by_cases k6 : 100000000 < q.amt
              · have e1 : billO xs q = (2, []) := by unfold billO; exact opO_err h1 h4 (by unfold billE; rw [if_pos (Decidable.not_not.1 k1), if_neg (by omega)]) (by decide)
                rw [e1]
                have b1 : (x.ven != q.ven) = false := by simpa using k1
                clear hf hsl hs h1 h2 h3 h4 e1 hm hpt hy
                unfold blV
                go_enter Tryz.func74, Tryz.ntmps74
                go_wp2_with fail
                refine HF.out.mono ?_
                rintro e w1 ⟨rfl, hb⟩
                have B1 := hide (B0.out.trans (hb.mono (by simp)))
                have hz1 := B1.out.size
                obtain ⟨q0, q1, q2, q3, q4⟩ : w1.cell? ⟨w.heap.size, 0, none⟩ = some (.int .i64 q.ven) ∧ w1.cell? ⟨w.heap.size, 1, none⟩ = some (.int .i64 q.num) ∧ w1.cell? ⟨w.heap.size, 2, none⟩ = some (.int .i64 q.ord) ∧ w1.cell? ⟨w.heap.size, 3, none⟩ = some (.int .i64 q.cop) ∧ w1.cell? ⟨w.heap.size, 4, none⟩ = some (.int .i64 q.amt) := by
                  have h := X0.out.below hb (by simp)
                  exact ⟨h.cell 0, h.cell 1, h.cell 2, h.cell 3, h.cell 4⟩
                have hqz : w.heap.size < w1.heap.size := by have := hb.size; simp at this; omega
                clear hb
                have hcc : ∀ o, w1.cell? ⟨b, o, none⟩ = w.cell? ⟨b, o, none⟩ := fun o => B1.out.cell (p := ⟨b, o, none⟩) hbB
                rw [← hcc] at c0 c1 c2 c3 c4 c5 c6 c7 c8 c9
                clear hcc
                have hbB1 : b < w1.heap.size := by omega
                have hne : b ≠ w.heap.size := by omega
                have y1 : winB q.num 1 99999 = true := by rw [winB_iff]; omega
                have y2 : winB q.amt 1 100000000 = false := by simp only [winB, Bool.and_eq_false_iff, decide_eq_false_iff_not]; omega
                go_wp2_with (first | (go_at_call 129; with_reducible refine (owin_any q.num 1 99999 _).mono ?_; rintro e w2 ⟨rfl, rfl⟩; rw [y1]) | (go_at_call 129; with_reducible refine (owin_any q.amt 1 100000000 _).mono ?_; rintro e w2 ⟨rfl, rfl⟩; rw [y2]))
                go_ret2
                exact ResF.nil (B1.out.alloc hz1 _)
              · skip
                by_cases k7 : ¬ q.cop ≤ x.rcv - x.bil
                · have e1 : billO xs q = (12, []) := by unfold billO; exact opO_err h1 h4 (by unfold billE; rw [if_pos (Decidable.not_not.1 k1), if_pos (by omega), if_neg k7]) (by decide)
                  rw [e1]
                  have b1 : (x.ven != q.ven) = false := by simpa using k1
                  have hw1 : IntKind.i64.wrap (x.rcv - x.bil) = x.rcv - x.bil := by rw [IntKind.wrap_i64]; omega
                  have o7 : x.rcv - x.bil < q.cop := by omega
                  clear hf hsl hs h1 h2 h3 h4 e1 hm hpt hy
                  unfold blV
                  go_enter Tryz.func74, Tryz.ntmps74
                  go_wp2_with fail
                  refine HF.out.mono ?_
                  rintro e w1 ⟨rfl, hb⟩
                  have B1 := hide (B0.out.trans (hb.mono (by simp)))
                  have hz1 := B1.out.size
                  obtain ⟨q0, q1, q2, q3, q4⟩ : w1.cell? ⟨w.heap.size, 0, none⟩ = some (.int .i64 q.ven) ∧ w1.cell? ⟨w.heap.size, 1, none⟩ = some (.int .i64 q.num) ∧ w1.cell? ⟨w.heap.size, 2, none⟩ = some (.int .i64 q.ord) ∧ w1.cell? ⟨w.heap.size, 3, none⟩ = some (.int .i64 q.cop) ∧ w1.cell? ⟨w.heap.size, 4, none⟩ = some (.int .i64 q.amt) := by
                    have h := X0.out.below hb (by simp)
                    exact ⟨h.cell 0, h.cell 1, h.cell 2, h.cell 3, h.cell 4⟩
                  have hqz : w.heap.size < w1.heap.size := by have := hb.size; simp at this; omega
                  clear hb
                  have hcc : ∀ o, w1.cell? ⟨b, o, none⟩ = w.cell? ⟨b, o, none⟩ := fun o => B1.out.cell (p := ⟨b, o, none⟩) hbB
                  rw [← hcc] at c0 c1 c2 c3 c4 c5 c6 c7 c8 c9
                  clear hcc
                  have hbB1 : b < w1.heap.size := by omega
                  have hne : b ≠ w.heap.size := by omega
                  have y1 : winB q.num 1 99999 = true := by rw [winB_iff]; omega
                  have y2 : winB q.amt 1 100000000 = true := by rw [winB_iff]; omega
                  go_wp2_with (first | (go_at_call 129; with_reducible refine (owin_any q.num 1 99999 _).mono ?_; rintro e w2 ⟨rfl, rfl⟩; rw [y1]) | (go_at_call 129; with_reducible refine (owin_any q.amt 1 100000000 _).mono ?_; rintro e w2 ⟨rfl, rfl⟩; rw [y2]))
                  go_ret2
                  exact ResF.nil (B1.out.alloc hz1 _)
                · skip
                  by_cases k8 : ¬ x.paid + q.amt ≤ 100000000
                  · have e1 : billO xs q = (2, []) := by unfold billO; exact opO_err h1 h4 (by unfold billE; rw [if_pos (Decidable.not_not.1 k1), if_pos (by omega), if_pos (by omega), if_neg k8]) (by decide)
                    rw [e1]
                    have b1 : (x.ven != q.ven) = false := by simpa using k1
                    have hw1 : IntKind.i64.wrap (x.rcv - x.bil) = x.rcv - x.bil := by rw [IntKind.wrap_i64]; omega
                    have hw2 : IntKind.i64.wrap (x.paid + q.amt) = x.paid + q.amt := by rw [IntKind.wrap_i64]; omega
                    have hw3 : IntKind.i64.wrap (100000000 - x.paid) = 100000000 - x.paid := by rw [IntKind.wrap_i64]; omega
                    have o7 : ¬ x.rcv - x.bil < q.cop := by omega
                    have o8 : 100000000 < x.paid + q.amt := by omega
                    have o9 : 100000000 - x.paid < q.amt := by omega
                    clear hf hsl hs h1 h2 h3 h4 e1 hm hpt hy
                    unfold blV
                    go_enter Tryz.func74, Tryz.ntmps74
                    go_wp2_with fail
                    refine HF.out.mono ?_
                    rintro e w1 ⟨rfl, hb⟩
                    have B1 := hide (B0.out.trans (hb.mono (by simp)))
                    have hz1 := B1.out.size
                    obtain ⟨q0, q1, q2, q3, q4⟩ : w1.cell? ⟨w.heap.size, 0, none⟩ = some (.int .i64 q.ven) ∧ w1.cell? ⟨w.heap.size, 1, none⟩ = some (.int .i64 q.num) ∧ w1.cell? ⟨w.heap.size, 2, none⟩ = some (.int .i64 q.ord) ∧ w1.cell? ⟨w.heap.size, 3, none⟩ = some (.int .i64 q.cop) ∧ w1.cell? ⟨w.heap.size, 4, none⟩ = some (.int .i64 q.amt) := by
                      have h := X0.out.below hb (by simp)
                      exact ⟨h.cell 0, h.cell 1, h.cell 2, h.cell 3, h.cell 4⟩
                    have hqz : w.heap.size < w1.heap.size := by have := hb.size; simp at this; omega
                    clear hb
                    have hcc : ∀ o, w1.cell? ⟨b, o, none⟩ = w.cell? ⟨b, o, none⟩ := fun o => B1.out.cell (p := ⟨b, o, none⟩) hbB
                    rw [← hcc] at c0 c1 c2 c3 c4 c5 c6 c7 c8 c9
                    clear hcc
                    have hbB1 : b < w1.heap.size := by omega
                    have hne : b ≠ w.heap.size := by omega
                    have y1 : winB q.num 1 99999 = true := by rw [winB_iff]; omega
                    have y2 : winB q.amt 1 100000000 = true := by rw [winB_iff]; omega
                    go_wp2_with (first | (go_at_call 129; with_reducible refine (owin_any q.num 1 99999 _).mono ?_; rintro e w2 ⟨rfl, rfl⟩; rw [y1]) | (go_at_call 129; with_reducible refine (owin_any q.amt 1 100000000 _).mono ?_; rintro e w2 ⟨rfl, rfl⟩; rw [y2]))
                    go_ret2
                    exact ResF.nil (B1.out.alloc hz1 _)
                  · skip
                    have e1 : billO xs q = (0, xs.set i (billF q x)) := by unfold billO; exact opO_ok h1 h4 (by unfold billE; rw [if_pos (Decidable.not_not.1 k1), if_pos (by omega), if_pos (by omega), if_pos (by omega)])
                    rw [e1]
                    have b1 : (x.ven != q.ven) = false := by simpa using k1
                    have hw1 : IntKind.i64.wrap (x.rcv - x.bil) = x.rcv - x.bil := by rw [IntKind.wrap_i64]; omega
                    have hw2 : IntKind.i64.wrap (x.paid + q.amt) = x.paid + q.amt := by rw [IntKind.wrap_i64]; omega
                    have hw3 : IntKind.i64.wrap (100000000 - x.paid) = 100000000 - x.paid := by rw [IntKind.wrap_i64]; omega
                    have hw4 : IntKind.i64.wrap (x.bil + q.cop) = x.bil + q.cop := by rw [IntKind.wrap_i64]; omega
                    have o7 : ¬ x.rcv - x.bil < q.cop := by omega
                    have o8 : ¬ 100000000 < x.paid + q.amt := by omega
                    have o9 : ¬ 100000000 - x.paid < q.amt := by omega
                    by_cases hc : x.bil + q.cop = x.cop
                    · have hfv : odV (billF q x) = .agg #[.int .i64 x.id, .int .i64 x.rcd, .int .i64 x.ven, .int .i64 x.cop, .int .i64 x.pri, .int .i64 x.rcv, .int .i64 (x.bil + q.cop), .int .i64 (x.paid + q.amt), .int .i64 2, .slice x.shA x.shn x.shc] := by unfold odV billF; rw [if_pos hc]
                      have hcb : (x.bil + q.cop == x.cop) = true := by simpa using hc
                      have hp := fun W hW => hpt W (billF q x) hW
                      rw [hfv] at hp
                      have hyl : (xs.set i (billF q x)).length = xs.length := List.length_set
                      generalize xs.set i (billF q x) = ys at hp hyl ⊢
                      have HP := hide hp
                      have HYL := hide hyl
                      clear hf hsl hs h1 h2 h3 h4 e1 hm hp hyl hfv hpt hy hc
                      unfold blV
                      go_enter Tryz.func74, Tryz.ntmps74
                      go_wp2_with fail
                      refine HF.out.mono ?_
                      rintro e w1 ⟨rfl, hb⟩
                      have B1 := hide (B0.out.trans (hb.mono (by simp)))
                      have hz1 := B1.out.size
                      obtain ⟨q0, q1, q2, q3, q4⟩ : w1.cell? ⟨w.heap.size, 0, none⟩ = some (.int .i64 q.ven) ∧ w1.cell? ⟨w.heap.size, 1, none⟩ = some (.int .i64 q.num) ∧ w1.cell? ⟨w.heap.size, 2, none⟩ = some (.int .i64 q.ord) ∧ w1.cell? ⟨w.heap.size, 3, none⟩ = some (.int .i64 q.cop) ∧ w1.cell? ⟨w.heap.size, 4, none⟩ = some (.int .i64 q.amt) := by
                        have h := X0.out.below hb (by simp)
                        exact ⟨h.cell 0, h.cell 1, h.cell 2, h.cell 3, h.cell 4⟩
                      have hqz : w.heap.size < w1.heap.size := by have := hb.size; simp at this; omega
                      clear hb HF
                      have hcc : ∀ o, w1.cell? ⟨b, o, none⟩ = w.cell? ⟨b, o, none⟩ := fun o => B1.out.cell (p := ⟨b, o, none⟩) hbB
                      rw [← hcc] at c0 c1 c2 c3 c4 c5 c6 c7 c8 c9
                      clear hcc
                      have hbB1 : b < w1.heap.size := by omega
                      have hne : b ≠ w.heap.size := by omega
                      have y1 : winB q.num 1 99999 = true := by rw [winB_iff]; omega
                      have y2 : winB q.amt 1 100000000 = true := by rw [winB_iff]; omega
                      go_wp2_with (first | (go_at_call 129; with_reducible refine (owin_any q.num 1 99999 _).mono ?_; rintro e w2 ⟨rfl, rfl⟩; rw [y1]) | (go_at_call 129; with_reducible refine (owin_any q.amt 1 100000000 _).mono ?_; rintro e w2 ⟨rfl, rfl⟩; rw [y2]))
                      refine (HP.out _ (by first | exact B1.out.alloc hz1 _ | exact (below_drewN B1.out _).alloc hz1 _)).mono ?_
                      rintro e w3 ⟨v, rfl, hown, hb3⟩
                      have B3 := hide ((by first | exact B1.out.alloc hz1 _ | exact (below_drewN B1.out _).alloc hz1 _ : Below w.heap.size w _).trans (hb3.mono (by first | (simp; done) | (simp; omega))))
                      have HO3 := hide hown
                      clear hown hb3
                      go_wp2
                      go_ret2
                      exact ⟨_, rfl, own_base HO3.out (by first | exact B1.out.size | (simp; exact B1.out.size) | (simp; omega)), B3.out⟩
                    · have hfv : odV (billF q x) = .agg #[.int .i64 x.id, .int .i64 x.rcd, .int .i64 x.ven, .int .i64 x.cop, .int .i64 x.pri, .int .i64 x.rcv, .int .i64 (x.bil + q.cop), .int .i64 (x.paid + q.amt), .int .i64 x.st, .slice x.shA x.shn x.shc] := by unfold odV billF; rw [if_neg hc]
                      have hcb : (x.bil + q.cop == x.cop) = false := by simpa using hc
                      have hp := fun W hW => hpt W (billF q x) hW
                      rw [hfv] at hp
                      have hyl : (xs.set i (billF q x)).length = xs.length := List.length_set
                      generalize xs.set i (billF q x) = ys at hp hyl ⊢
                      have HP := hide hp
                      have HYL := hide hyl
                      clear hf hsl hs h1 h2 h3 h4 e1 hm hp hyl hfv hpt hy hc
                      unfold blV
                      go_enter Tryz.func74, Tryz.ntmps74
                      go_wp2_with fail
                      refine HF.out.mono ?_
                      rintro e w1 ⟨rfl, hb⟩
                      have B1 := hide (B0.out.trans (hb.mono (by simp)))
                      have hz1 := B1.out.size
                      obtain ⟨q0, q1, q2, q3, q4⟩ : w1.cell? ⟨w.heap.size, 0, none⟩ = some (.int .i64 q.ven) ∧ w1.cell? ⟨w.heap.size, 1, none⟩ = some (.int .i64 q.num) ∧ w1.cell? ⟨w.heap.size, 2, none⟩ = some (.int .i64 q.ord) ∧ w1.cell? ⟨w.heap.size, 3, none⟩ = some (.int .i64 q.cop) ∧ w1.cell? ⟨w.heap.size, 4, none⟩ = some (.int .i64 q.amt) := by
                        have h := X0.out.below hb (by simp)
                        exact ⟨h.cell 0, h.cell 1, h.cell 2, h.cell 3, h.cell 4⟩
                      have hqz : w.heap.size < w1.heap.size := by have := hb.size; simp at this; omega
                      clear hb HF
                      have hcc : ∀ o, w1.cell? ⟨b, o, none⟩ = w.cell? ⟨b, o, none⟩ := fun o => B1.out.cell (p := ⟨b, o, none⟩) hbB
                      rw [← hcc] at c0 c1 c2 c3 c4 c5 c6 c7 c8 c9
                      clear hcc
                      have hbB1 : b < w1.heap.size := by omega
                      have hne : b ≠ w.heap.size := by omega
                      have y1 : winB q.num 1 99999 = true := by rw [winB_iff]; omega
                      have y2 : winB q.amt 1 100000000 = true := by rw [winB_iff]; omega
                      go_wp2_with (first | (go_at_call 129; with_reducible refine (owin_any q.num 1 99999 _).mono ?_; rintro e w2 ⟨rfl, rfl⟩; rw [y1]) | (go_at_call 129; with_reducible refine (owin_any q.amt 1 100000000 _).mono ?_; rintro e w2 ⟨rfl, rfl⟩; rw [y2]))
                      refine (HP.out _ (by first | exact B1.out.alloc hz1 _ | exact (below_drewN B1.out _).alloc hz1 _)).mono ?_
                      rintro e w3 ⟨v, rfl, hown, hb3⟩
                      have B3 := hide ((by first | exact B1.out.alloc hz1 _ | exact (below_drewN B1.out _).alloc hz1 _ : Below w.heap.size w _).trans (hb3.mono (by first | (simp; done) | (simp; omega))))
                      have HO3 := hide hown
                      clear hown hb3
                      go_wp2
                      go_ret2
                      exact ⟨_, rfl, own_base HO3.out (by first | exact B1.out.size | (simp; exact B1.out.size) | (simp; omega)), B3.out⟩

theorem obill_any (A : Option Addr) (n c : Nat) (xs : List Od) (q : Bl) (w : World) (hs : Ods w w.heap.size A n c xs) (hn : n ≤ 1000) (hm : ∀ y ∈ xs, OdM y) :
    Calls Tryz.prog 74 #[.slice A n c, blV q] w (ResO w (billO xs q)) :=
  (obillF_any A n c xs q w hs hn hm).mono fun _ _ h => h.o (opO_len (by rw [hs.len]; exact hn))

end Go.Proofs.YtbhndfphegflhaaGreat
