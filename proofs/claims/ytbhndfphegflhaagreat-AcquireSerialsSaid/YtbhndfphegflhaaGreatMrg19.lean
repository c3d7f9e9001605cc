/- Texts laid together by merge.py: AqB, AqH. -/
import Derived.Test.YtbhndfphegflhaaGreatMrg18
import Derived.Test.YtbhndfphegflhaaGreatMrg6
import Derived.Test.YtbhndfphegflhaaGreatMrg2
import Derived.Test.YtbhndfphegflhaaGreatMrg1
import Derived.StillTailTactics
import Derived.RangeFuncOwn
set_option linter.unusedSimpArgs false
set_option linter.unusedVariables false
/- Walks: billsRight of the reference: what is shown first; the plain parts. -/
namespace Go.Proofs.YtbhndfphegflhaaGreat
open Go.RowKit

theorem okBl_split {os : List Od} {P : List Bl} {b : Bl} {o : Od} {g : Bool} (h : getO os b.ord = (o, g)) :
    okBl os P b = (g && (o.ven == b.ven) && (decide (1 ≤ b.cop) && decide (b.cop ≤ 100000000)) && (decide (1 ≤ b.amt) && decide (b.amt ≤ 100000000)) && (decide (1 ≤ b.num) && decide (b.num ≤ 99999)) && !(P.any (samB b))) := by
  unfold okBl; rw [h]; rfl
theorem samN_step {x z : Bl} {xs : List Bl} {k : Nat} (h : xs[k]? = some z) (ha : ∀ u ∈ xs.take k, samB x u = false) (hz : samB x z = false) : ∀ u ∈ xs.take (k + 1), samB x u = false := by
  intro u hu
  rw [take_step h] at hu
  rcases List.mem_append.1 hu with hu | hu
  · exact ha u hu
  · rw [List.mem_singleton.1 hu]; exact hz
/-- The numbers of a bill that fits. -/
structure BlM (b : Bl) : Prop where
  cop : 1 ≤ b.cop ∧ b.cop ≤ 100000000
  amt : 1 ≤ b.amt ∧ b.amt ≤ 100000000
theorem okBls_M {os : List Od} : ∀ (bs P : List Bl), okBls os P bs = true → ∀ b ∈ bs, BlM b
  | [], _, _, b, hb => by simp at hb
  | c :: r, P, h, b, hb => by
    rw [okBls, Bool.and_eq_true] at h
    rcases List.mem_cons.1 hb with rfl | hb
    · have h1 := h.1
      unfold okBl winB at h1
      simp only [Bool.and_eq_true, decide_eq_true_eq] at h1
      exact ⟨h1.1.1.1.2, h1.1.1.2⟩
    · exact okBls_M r _ h.2 b hb
theorem sumB_bd (g : Bl → Int) : ∀ (bs : List Bl) (id : Int), (∀ b ∈ bs, 1 ≤ g b ∧ g b ≤ 100000000) → 0 ≤ sumB g bs id ∧ sumB g bs id ≤ 100000000 * bs.length
  | [], _, _ => by simp [sumB]
  | b :: r, id, h => by
    have h1 := h b (by simp)
    have h2 := sumB_bd g r id (fun c hc => h c (by simp [hc]))
    rw [sumB, List.length_cons]
    split <;> omega
theorem okOB_step {bs : List Bl} {x : Od} {xs : List Od} {k : Nat} (h : xs[k]? = some x) (ha : ∀ u ∈ xs.take k, okOB bs u = true) (hz : okOB bs x = true) : ∀ u ∈ xs.take (k + 1), okOB bs u = true := by
  intro u hu
  rw [take_step h] at hu
  rcases List.mem_append.1 hu with hu | hu
  · exact ha u hu
  · rw [List.mem_singleton.1 hu]; exact hz
end Go.Proofs.YtbhndfphegflhaaGreat

/- Walks: parts and Reserved of the program. -/
namespace Go.Proofs.YtbhndfphegflhaaGreat
open Go.RowKit Go.Maps

theorem shsOk_ids : ∀ (xs P : List Sh), shsOk P xs = true → ∀ y ∈ xs, 1 ≤ y.fund ∧ y.fund ≤ 9999
  | [], _, _, y, hy => by simp at hy
  | x :: r, P, h, y, hy => by
    rw [shsOk, Bool.and_eq_true, Bool.and_eq_true, Bool.and_eq_true] at h
    rcases List.mem_cons.1 hy with rfl | hy
    · exact winB_iff.1 h.1.1.1
    · exact shsOk_ids r _ h.2 y hy
theorem shsOk_new : ∀ (xs P : List Sh), shsOk P xs = true → ∀ (i : Nat) (x : Sh), xs[i]? = some x → ∀ y ∈ P ++ xs.take i, ¬ y.fund = x.fund
  | [], _, _, i, x, hx, y, hy => by simp at hx
  | z :: r, P, h, 0, x, hx, y, hy => by
    simp at hx; subst hx
    rw [shsOk, Bool.and_eq_true, Bool.and_eq_true, Bool.and_eq_true] at h
    have h2 := h.1.2
    rcases ix_cases (fun y : Sh => y.fund == z.fund) P with ⟨e1, e2⟩ | ⟨j, u, e1, e2, e3, _⟩
    · have hy' : y ∈ P := by simpa using hy
      have := e2 y hy'
      simpa using this
    · rw [e1] at h2; simp at h2
  | z :: r, P, h, i + 1, x, hx, y, hy => by
    rw [shsOk, Bool.and_eq_true, Bool.and_eq_true, Bool.and_eq_true] at h
    refine shsOk_new r (P ++ [z]) h.2 i x (by simpa using hx) y ?_
    rw [List.take_succ_cons] at hy
    rw [List.append_assoc]
    exact hy
theorem sharesV_ok {l : List Sh} (h : sharesV l = true) : shsOk [] l = true := by
  unfold sharesV at h
  rw [Bool.and_eq_true] at h
  exact h.2
theorem prtL_put {l : List Sh} {vs : List Int} (h : sharesV l = true) {k : Nat} {x : Sh} {v : Int} (hx : l[k]? = some x) (hv : vs[k]? = some v) (y : Int) :
    prtL ((l.zip vs).take (k + 1)) y = if y = x.fund then v else prtL ((l.zip vs).take k) y := by
  rw [zip_step hx hv, prtL_snoc]
  by_cases e : y = x.fund
  · subst e
    rw [if_pos rfl, if_pos rfl, prtL_out _ _ (fun p hp => ?_)]
    · omega
    · have hp1 : p.1 ∈ l.take k := by
        obtain ⟨i, hi⟩ := List.getElem?_of_mem hp
        rw [List.getElem?_take] at hi
        split at hi
        · rename_i hik
          have := (List.getElem?_zip_eq_some.1 hi).1
          exact List.mem_of_getElem? (show (l.take k)[i]? = some p.1 by rw [List.getElem?_take, if_pos hik]; exact this)
        · cases hi
      have := shsOk_new l [] (sharesV_ok h) k x hx p.1 (by simpa using hp1)
      exact fun he => this he
  · rw [if_neg e, if_neg (fun h => e h.symm)]; omega
theorem Sl.keepv {α : Type} {enc : α → List Value} {k : Nat} {w w' : World} {B n c : Nat} {A : Option Addr} {xs : List α} (h : Sl enc k w B A n c xs) (hk : ∀ (p : Addr) (v : Value), w.cell? p = some v → w'.cell? p = some v) : Sl enc k w' B A n c xs :=
  ⟨h.len, h.le, h.big, h.nl, fun h0 => by
    obtain ⟨b, off, hA, hb, hc⟩ := h.cells h0
    exact ⟨b, off, hA, hb, fun i x hx j u hu => hk _ _ (hc i x hx j u hu)⟩⟩
theorem MapI.isMap {P : Program} {k : TypeId} {w : World} {b n : Nat} {z : Value} {f : Int → Value} (h : MapI P k w b n z f) : ∀ r, some b = some r → ∃ o : Obj, w.heap[r]? = some o ∧ o.isCells = false := by
  intro r hr
  cases hr
  obtain ⟨D, ⟨es, cl, hb, _⟩, _⟩ := h
  exact ⟨_, hb, rfl⟩
theorem zero_int' (w : World) : (zeroValue 3).run Tryz.prog w = .ok (.int .i64 0) w := by kernel_rfl

set_option maxRecDepth 100000 in
set_option maxHeartbeats 2000000 in
theorem aparts_any (o : Od) (am : Int) (w : World) (hs : OdS w w.heap.size o) (hv : sharesV o.sh = true) :
    Calls Tryz.prog 62 #[odV o, .int .i64 am] w fun e w' => ∃ b, e = .returned (.map (some b)) ∧ w.heap.size ≤ b ∧ MapI Tryz.prog 3 w' b 4 (.int .i64 0) (fun y => .int .i64 (partO o am y)) ∧ Below w.heap.size w w' := by
  have B0 := hide (((Below.refl w.heap.size w).alloc (Nat.le_refl _) (.cells (odC o) 35)).alloc (by simp) (.map #[] 0))
  have X0 := hide ((Box.new w 35 (odC o)).alloc (.map #[] 0))
  have M0 := hide (MapI.made Tryz.prog 3 (w.alloc (.cells (odC o) 35)) (.int .i64 0))
  rw [World.size_alloc] at M0
  have HSp := hide (osplit_any o am _ ((hs.below B0.out).more B0.out.size) hv)
  obtain ⟨⟨v1, v2⟩, _⟩ := sharesV_W hv
  have hlen := hs.len
  have hbig := hs.big
  have hn4 : o.shn ≤ 4 := by omega
  have HS := hide hs
  have HV := hide hv
  have hmm := @run_makeMap Tryz.prog
  by_cases ht : mnyS am = true
  · have HP := hide (fun id => partO_zip (o := o) id ht)
    have HLS := hide (show (shareF am (wsO o)).length = o.shn by rw [shareF_len, wsO, List.length_map, hlen])
    have e1 : splitO o am = (0, shareF am (wsO o)) := by unfold splitO; rw [if_pos ht]
    rw [e1] at HSp
    obtain ⟨l, hl⟩ : ∃ l, shareF am (wsO o) = l := ⟨_, rfl⟩
    rw [hl] at HSp HLS HP
    have HLEN := hide hlen
    clear ht e1 hl hv hs v1 v2 hlen
    unfold odV at HSp ⊢
    go_enter Tryz.func62, Tryz.ntmps62
    go_wp2_with fail
    refine HSp.out.mono ?_
    rintro e w1 ⟨v, rfl, ho, hb⟩
    obtain ⟨A1, c1, hv, hsl⟩ := Ino_sl ho (by show l.length ≤ _; have := HLS.out; omega)
    subst hv
    have hll : l.length = o.shn := HLS.out
    rw [hll] at hsl ⊢
    have HSL := hide hsl
    have B1 := hide (B0.out.trans (hb.mono B0.out.size))
    have X1 := hide (X0.out.below hb (by simp; omega))
    have M1 := hide (M0.out.below hb (by simp))
    have q9 := X1.out.cell 9
    simp at q9
    clear ho hb hsl HSp hll
    go_wp2
    go_loopw [31] (fun s31 wr => ∃ k : Nat, k ≤ o.shn ∧ s31 = .int .i64 k ∧ MapI Tryz.prog 3 wr (w.heap.size + 1) k (.int .i64 0) (fun y => .int .i64 (prtL ((o.sh.zip l).take k) y)) ∧ Below w.heap.size w wr ∧ Is wr wr.heap.size A1 o.shn c1 l) (fun s31 _ => o.shn - (intOf s31).toNat)
    case atStart => exact ⟨0, Nat.zero_le _, rfl, M1.out, B1.out, HSL.out⟩
    case round =>
      obtain ⟨k, hk, rfl, hm, hb, hil⟩ := hrel
      have HM := hide hm
      have HB := hide hb
      have HIL := hide hil
      clear hm hb hil
      by_cases hlt : k < o.shn
      · have hkz : (k : Int) < (o.shn : Int) := by omega
        obtain ⟨b, off, y, hA, hbB, hy, c0, c1'⟩ := Shs_at (HS.out.below HB.out) hlt
        have HA := hide hA
        have hwf := wf64 (show I64 y.fund by
          have := shsOk_ids _ _ (sharesV_ok HV.out) y (List.mem_of_getElem? hy)
          unfold I64; omega)
        have HWF := hide hwf
        have HY := hide hy
        rw [hA]
        clear hy hwf hA
        go_wp2_with fail
        obtain ⟨W2, hW2⟩ : ∃ W2, W2 = wr.alloc (.cells (shC y) 86) := ⟨_, rfl⟩
        have Y2 := Box.new wr 86 (shC y)
        have M2 := hide (HM.out.alloc (.cells (shC y) 86))
        have B2 := hide (HB.out.alloc HB.out.size (.cells (shC y) 86))
        have I2 := hide (Sl.more (B' := (wr.alloc (.cells (shC y) 86)).heap.size) (HIL.out.alloc (Nat.le_refl _) (.cells (shC y) 86)) (by simp))
        rw [← hW2] at Y2 M2 B2 I2 ⊢
        obtain ⟨b', off', u, hA', hbB', hu, d0⟩ := Is_at I2.out hlt
        have HU := hide hu
        have l0 := Y2.cell 0
        simp at l0
        subst hA'
        clear hu Y2 hW2 c0 c1'
        go_still_tail 7, (by kernel_rfl)
        change wpList _ _ _ _ _ W2.drew
        obtain ⟨W3, hW3⟩ : ∃ W3, W3 = W2.drew := ⟨_, rfl⟩
        have M3 := hide (M2.out.drewN 1)
        have B3 := hide B2.out.drew
        have I3 := hide I2.out.drew
        rw [show W2.drewN 1 = W2.drew from rfl] at M3
        rw [← hW3] at M3 B3 I3 ⊢
        have hz3 : W3.heap.size = W2.heap.size := by rw [hW3]; rfl
        rw [← hz3] at I3
        clear hW3 l0 d0 hz3 M2 B2 I2
        go_wp2_with (at_mapUpdate; go_must (refine wpList_updateI _ rfl _ _ _ 89 rfl 3 3 Tryz.underlying3 Tryz.underlying89 (.int .i64 0) (w.heap.size + 1) k _ rfl M3.out (by unfold maxLen; omega) _ _ rfl rfl HWF.out ?_))
        intro w5 hm1 hg1
        have HM1 := hide hm1
        have hmlt := hm1.lt
        have hb1 := hide (B3.out.grown hg1 B3.out.size (fun j hj => by cases hj; omega))
        have hi1 := hide ((I3.out.keepv (fun p v hv => cell_kept hv hg1 M3.out.isMap)).more (show W3.heap.size ≤ w5.heap.size from hg1.size))
        go_wp2
        go_roundw
        case rel =>
          refine ⟨k + 1, by omega, by go_num, HM1.out.congr (fun z _ => ?_), hb1.out, hi1.out⟩
          rw [prtL_put HV.out HY.out HU.out]
          by_cases e : z = y.fund <;> simp [e]
        case measure => simp [intOf]; omega
      · have hkz : ¬ (k : Int) < (o.shn : Int) := by omega
        go_wp2
        go_ret
        refine ⟨_, rfl, by omega, (HM.out.mono (by omega)).congr (fun y _ => ?_), HB.out⟩
        rw [HP.out, List.take_of_length_le (by rw [List.length_zip, HLS.out]; omega)]
  · have HP := hide (fun id => partO_bad (o := o) id ht)
    have e1 : splitO o am = (2, []) := by unfold splitO; rw [if_neg ht]
    rw [e1] at HSp
    clear ht e1 hv hs v1 v2 hlen
    unfold odV at HSp ⊢
    go_enter Tryz.func62, Tryz.ntmps62
    go_wp2_with fail
    refine HSp.out.mono ?_
    rintro e w1 ⟨v, rfl, ho, hb⟩
    have B1 := hide (B0.out.trans (hb.mono B0.out.size))
    have M1 := hide (M0.out.below hb (by simp))
    clear ho hb HSp
    go_wp2
    go_ret
    exact ⟨_, rfl, by omega, (M1.out.mono (by omega)).congr (fun y _ => by rw [HP.out]), B1.out⟩

set_option maxRecDepth 100000 in
set_option maxHeartbeats 4000000 in
theorem prsvA_any (a : Aq) (id : Int) (w : World) (hs : Ods w w.heap.size a.oA a.on a.oc a.o) (hss : ∀ x ∈ a.o, OdS w w.heap.size x) (hv : VldO a.o) (hid : I64 id) :
    Calls Tryz.prog 39 #[aqV a, .int .i64 id] w fun e w' => e = .returned (.int .i64 (rsvA a.o id)) ∧ Below w.heap.size w w' := by
  have Z0 := hide (Below.refl (w.heap.size + 1) (w.alloc (.cells (aqC a) 27)))
  have B0 := hide ((Below.refl w.heap.size w).alloc (Nat.le_refl _) (.cells (aqC a) 27))
  have X0 := hide (Box.new w 27 (aqC a))
  have hlen := hs.len
  have hbig := hs.big
  have h64 : a.on ≤ 64 := by have := hv.len; omega
  have HWF := hide (wf64 hid)
  have HS := hide hs
  have HSS := hide hss
  have HV := hide hv
  have HLEN := hide hlen
  clear hs hss hv hlen hid
  unfold aqV
  go_enter Tryz.func39, Tryz.ntmps39
  go_wp2
  go_loopw [5, 11] (fun s5 s11 wr => ∃ k : Nat, k ≤ a.on ∧ s11 = .int .i64 k ∧ s5 = .int .i64 (rsvA (a.o.take k) id) ∧ Below (w.heap.size + 1) (w.alloc (.cells (aqC a) 27)) wr) (fun _ s11 _ => a.on - (intOf s11).toNat)
  case atStart => exact ⟨0, Nat.zero_le _, rfl, rfl, Z0.out⟩
  case round =>
    obtain ⟨k, hk, rfl, rfl, hb⟩ := hrel
    have Z1 := hide hb
    have hz1 : w.heap.size + 1 ≤ wr.heap.size := by have := hb.size; simpa using this
    have B1 := hide (B0.out.trans (hb.mono (by omega)))
    clear hb
    obtain ⟨sm, hsm⟩ : ∃ sm, rsvA (a.o.take k) id = sm := ⟨_, rfl⟩
    have hbs : 0 ≤ sm ∧ sm ≤ 400000000064 * 64 := by
      have h := rsvA_bd (os := a.o.take k) (fun o ho => HV.out.sh o (List.mem_of_mem_take ho)) id
      rw [hsm, List.length_take] at h
      omega
    have HSM := hide hsm
    rw [hsm]
    clear hsm
    by_cases hlt : k < a.on
    · obtain ⟨b, off, x, hA, hbB, hx, c0, c1, c2, c3, c4, c5, c6, c7, c8, c9⟩ := Ods_at (HS.out.below B1.out) hlt
      have hkz : (k : Int) < (a.on : Int) := by omega
      have hm := List.mem_of_getElem? hx
      have hsv := HV.out.sh x hm
      have HRS := hide (fun W => oresv_any x W (.inl (HV.out.M x hm)))
      have HPT := hide (fun am W (hW : Below w.heap.size w W) => aparts_any x am W (((HSS.out x hm).below hW).more hW.size) hsv)
      have hpb := partO_bd hsv (resvO x) id
      have HST := hide (show rsvA (a.o.take (k + 1)) id = sm + partO x (resvO x) id by rw [take_step hx, rsv_snoc, HSM.out])
      obtain ⟨rv, hrv⟩ : ∃ rv, resvO x = rv := ⟨_, rfl⟩
      rw [hrv] at HRS hpb HST
      have HPT2 := hide (fun W hW => HPT.out rv W hW)
      clear HPT
      rw [hA]
      have e1 : IntKind.i64.wrap (sm + partO x rv id) = sm + partO x rv id := by rw [IntKind.wrap_i64]; omega
      have hpb' := hide hpb
      unfold odV at HRS HPT2
      clear hx hm hsv hrv hA hpb
      go_wp2_with fail
      obtain ⟨W2, hW2⟩ : ∃ W2, W2 = wr.alloc (.cells (odC x) 35) := ⟨_, rfl⟩
      have Y2 := Box.new wr 35 (odC x)
      have B2 := hide (B1.out.alloc B1.out.size (.cells (odC x) 35))
      have Z2 := hide (Z1.out.alloc hz1 (.cells (odC x) 35))
      rw [← hW2] at Y2 B2 Z2 ⊢
      clear hW2
      have l0 := Y2.cell 0
      have l1 := Y2.cell 1
      have l2 := Y2.cell 2
      have l3 := Y2.cell 3
      have l4 := Y2.cell 4
      have l5 := Y2.cell 5
      have l6 := Y2.cell 6
      have l7 := Y2.cell 7
      have l8 := Y2.cell 8
      have l9 := Y2.cell 9
      simp at l0 l1 l2 l3 l4 l5 l6 l7 l8 l9
      have hlt2 := Y2.lt
      have H0 := hide (Below.refl W2.heap.size W2).drew
      have HKS := hide (fun W (h : Hid (Below W2.heap.size W2 W)) =>
        And.intro h (And.intro ((h.out.cell (p := ⟨wr.heap.size, 0, none⟩) hlt2).trans l0) (And.intro ((h.out.cell (p := ⟨wr.heap.size, 1, none⟩) hlt2).trans l1) (And.intro ((h.out.cell (p := ⟨wr.heap.size, 2, none⟩) hlt2).trans l2) (And.intro ((h.out.cell (p := ⟨wr.heap.size, 3, none⟩) hlt2).trans l3) (And.intro ((h.out.cell (p := ⟨wr.heap.size, 4, none⟩) hlt2).trans l4) (And.intro ((h.out.cell (p := ⟨wr.heap.size, 5, none⟩) hlt2).trans l5) (And.intro ((h.out.cell (p := ⟨wr.heap.size, 6, none⟩) hlt2).trans l6) (And.intro ((h.out.cell (p := ⟨wr.heap.size, 7, none⟩) hlt2).trans l7) (And.intro ((h.out.cell (p := ⟨wr.heap.size, 8, none⟩) hlt2).trans l8) ((h.out.cell (p := ⟨wr.heap.size, 9, none⟩) hlt2).trans l9)))))))))))
      have HRS2 := hide (fun W (h : Hid (Below W2.heap.size W2 W)) => HRS.out W)
      have HPT3 := hide (fun W (h : Hid (Below W2.heap.size W2 W)) => HPT2.out W (B2.out.trans (h.out.mono B2.out.size)))
      go_region_held3 (fun w' => Hid (Below W2.heap.size W2 w') ∧ w'.cell? ⟨wr.heap.size, 0, none⟩ = some (.int .i64 x.id) ∧ w'.cell? ⟨wr.heap.size, 1, none⟩ = some (.int .i64 x.rcd) ∧ w'.cell? ⟨wr.heap.size, 2, none⟩ = some (.int .i64 x.ven) ∧ w'.cell? ⟨wr.heap.size, 3, none⟩ = some (.int .i64 x.cop) ∧ w'.cell? ⟨wr.heap.size, 4, none⟩ = some (.int .i64 x.pri) ∧ w'.cell? ⟨wr.heap.size, 5, none⟩ = some (.int .i64 x.rcv) ∧ w'.cell? ⟨wr.heap.size, 6, none⟩ = some (.int .i64 x.bil) ∧ w'.cell? ⟨wr.heap.size, 7, none⟩ = some (.int .i64 x.paid) ∧ w'.cell? ⟨wr.heap.size, 8, none⟩ = some (.int .i64 x.st) ∧ w'.cell? ⟨wr.heap.size, 9, none⟩ = some (.slice x.shA x.shn x.shc))
        (first | exact HKS.out _ H0 | exact HKS.out _ hS3 | exact HKS.out _ hS4)
        (first
          | (go_at_call 29; refine (HRS2.out _ H0).mono ?_; rintro e w3 ⟨rfl, hb3⟩; have hS3 := hbel_call H0 hb3)
          | (go_at_call 62; refine (HPT3.out _ hS3).mono ?_; rintro e w4 ⟨g, rfl, hg, hM, hb4⟩; have hS4 := hbel_call hS3 hb4; have HM4 := hide hM; have hlk := hM.lookup (t := 89) (e := 3) Tryz.underlying3 Tryz.underlying89 (zero_int' _) HWF.out))
      all_goals
        have Z4 := hide (Z2.out.trans (hS4.out.mono (Nat.le_trans hz1 (Nat.le_of_lt hlt2))))
        go_wp2
        go_roundw
        case rel => exact ⟨k + 1, by omega, by go_num, by rw [HST.out], Z4.out⟩
        case measure => simp [intOf]; omega
    · have hkz : ¬ (k : Int) < (a.on : Int) := by omega
      have HR := hide (show rsvA a.o id = sm by rw [← HSM.out, List.take_of_length_le (by have := HLEN.out; omega)])
      go_wp2
      go_ret
      exact ⟨ret_int HR.out.symm, B1.out⟩
end Go.Proofs.YtbhndfphegflhaaGreat
