/- Texts laid together by merge.py: AqKw. -/
import Derived.Test.YtbhndfphegflhaaGreatMrg47
import Derived.Test.YtbhndfphegflhaaGreatMrg44
import Derived.Deep.CutRange
import Derived.Deep.RegionHeld3
import Derived.Deep.MidRow
set_option linter.unusedSimpArgs false
set_option linter.unusedVariables false
/- The law AcquireKeeps. Printed by gen_aq_kw.py. -/
namespace Go.Proofs.YtbhndfphegflhaaGreat
open Go.RowKit

theorem hbel_set6 {w W : World} (h : Hid (Below w.heap.size w W)) (u0 u1 u2 u3 u4 u5 : Value) :
    Hid (Below w.heap.size w ((((((W.setCell ⟨w.heap.size, 0, none⟩ u0).setCell ⟨w.heap.size, 1, none⟩ u1).setCell ⟨w.heap.size, 2, none⟩ u2).setCell ⟨w.heap.size, 3, none⟩ u3).setCell ⟨w.heap.size, 4, none⟩ u4).setCell ⟨w.heap.size, 5, none⟩ u5)) := below_aq h.out (Nat.le_refl _) _ _ _ _ _ _
theorem box_set6 {w : World} {g : Nat} {t : TypeId} {c0 c1 c2 c3 c4 c5 : Value} (h : Box w g t #[c0, c1, c2, c3, c4, c5]) (u0 u1 u2 u3 u4 u5 : Value) :
    Box ((((((w.setCell ⟨g, 0, none⟩ u0).setCell ⟨g, 1, none⟩ u1).setCell ⟨g, 2, none⟩ u2).setCell ⟨g, 3, none⟩ u3).setCell ⟨g, 4, none⟩ u4).setCell ⟨g, 5, none⟩ u5) g t #[u0, u1, u2, u3, u4, u5] := by
  have := (((((h.set_ 0 u0).set_ 1 u1).set_ 2 u2).set_ 3 u3).set_ 4 u4).set_ 5 u5
  simpa using this
theorem Dds_at {w : World} {B : Nat} {A : Option Addr} {n c : Nat} {xs : List Dd} (h : Dds w B A n c xs) {k : Nat} (hk : k < n) :
    ∃ b off x, A = some ⟨b, off, none⟩ ∧ b < B ∧ xs[k]? = some x ∧ ∀ j u, (ddE x)[j]? = some u → w.cell? ⟨b, off + k * 18 + j, none⟩ = some u := by
  obtain ⟨b, off, x, hA, hb, hx, hc⟩ := h.at_ hk
  exact ⟨b, off, x, hA, hb, hx, fun j u hu => by have := hc j u hu; first | exact this | simpa using this⟩
set_option maxRecDepth 100000 in
set_option maxHeartbeats 16000000 in
theorem acquireKeeps_any (a : Aq) (A : Option Addr) (n c : Nat) (ds : List Dd) (w : World) (ho : AqO w a) (hd : DdO w A n c ds) :
    Calls Tryz.prog 9 #[aqV a, .slice A n c] w fun e w' => e = .returned (.bool true) ∧ Below w.heap.size w w' := by
  have B0 := hide ((Below.refl w.heap.size w).alloc (Nat.le_refl _) (.cells (aqC a) 27))
  have X0 := hide (Box.new w 27 (aqC a))
  have HFIT := hide (fit_any a _ (ho.below B0.out))
  have HO := hide ho
  have HD := hide hd
  clear ho hd
  unfold aqV
  unfold aqV at HFIT
  go_enter Tryz.func9, Tryz.ntmps9
  go_wp2_with fail
  refine HFIT.out.mono ?_
  rintro e w1 ⟨q, rfl, hq, hb⟩
  have HQ := hide hq
  have B1 := hide (B0.out.trans (hb.mono B0.out.size))
  have X1 := hide (X0.out.below hb X0.out.lt)
  clear hq hb HFIT
  cases q with
  | false =>
    have HAL := hide (aalive_any w1)
    go_wp2_with fail
    refine HAL.out.mono ?_
    rintro e wz ⟨rfl, hb⟩
    have BZ := hide (B1.out.trans (hb.mono B1.out.size))
    clear hb HAL
    go_wp2
    go_ret
    exact ⟨rfl, BZ.out⟩
  | true =>
  by_cases h10 : 10 < n
  · have h10' : (10 : Int) < (n : Int) := by omega
    have HAL := hide (aalive_any w1)
    go_wp2_with fail
    refine HAL.out.mono ?_
    rintro e wz ⟨rfl, hb⟩
    have BZ := hide (B1.out.trans (hb.mono B1.out.size))
    clear hb HAL
    go_wp2
    go_ret
    exact ⟨rfl, BZ.out⟩
  have h10' : ¬ (10 : Int) < (n : Int) := by omega
  have hn : n ≤ 10 := by omega
  obtain ⟨hsm, hok⟩ := HQ.out rfl
  have HP0 := hide (okP_iff.1 hok)
  have HON := hide (show a.on ≤ 10 from hsm.on)
  have HS0 := hide (HO.out.st hsm)
  have HDS := hide (HD.out.s hn)
  have HDB := hide (HD.out.b hn)
  have HDO := hide (HD.out.o hn)
  have hbig := HDS.out.big
  have hlen := HDS.out.len
  have HLEN := hide hlen
  clear HO HD HQ hsm hok h10 hlen
  go_wp2
  clear h10'
  go_loopw [5] (fun s5 wr => ∃ k : Nat, k ≤ n ∧ s5 = .int .i64 k ∧ (∀ u ∈ ds.take k, decide (u.od.shn ≤ 8) = true) ∧ wr = w1) (fun s5 _ => n - (intOf s5).toNat)
  case atStart => exact ⟨0, Nat.zero_le _, rfl, by simp, rfl⟩
  case round =>
    obtain ⟨k, hk, rfl, ha, rfl⟩ := hrel
    have HAK := hide ha
    clear ha
    by_cases hlt : k < n
    · have hkz : (k : Int) < (n : Int) := by omega
      obtain ⟨b, off, x, rfl, hbB, hx, hc⟩ := Dds_at (HDS.out.below B1.out) hlt
      have HX := hide hx
      have c12 := hc 12 _ rfl
      clear hx hc
      by_cases h8 : x.od.shn ≤ 8
      · have h8' : ¬ (8 : Int) < (x.od.shn : Int) := by omega
        have HN := hide (allT_step HX.out HAK.out (decide_eq_true h8))
        clear h8
        go_wp2
        go_roundw
        case rel => exact ⟨k + 1, by omega, by go_num, HN.out, by first | rfl | trivial⟩
        case measure => simp [intOf]; omega
      · have h8' : (8 : Int) < (x.od.shn : Int) := by omega
        clear h8
        have HAL := hide (aalive_any wr)
        go_wp2_with fail
        refine HAL.out.mono ?_
        rintro e wz ⟨rfl, hb⟩
        have BZ := hide (B1.out.trans (hb.mono B1.out.size))
        clear hb HAL
        go_wp2
        go_ret
        exact ⟨rfl, BZ.out⟩
    · have hkz : ¬ (k : Int) < (n : Int) := by omega
      have HSH := hide (show ∀ x ∈ ds, x.od.shn ≤ 8 from fun x hx => of_decide_eq_true (HAK.out x (by rwa [List.take_of_length_le (by have := HLEN.out; omega)])))
      go_wp2
      clear hkz hlt HAK
      go_loopw [6, 7, 8, 9, 10] (fun s6 _ _ _ _ wk => ∃ (k : Nat) (z : Aq), k ≤ n ∧ s6 = .int .i64 k ∧ Box wk w.heap.size 27 (aqC z) ∧ AqS wk wk.heap.size z ∧ OkP (aqP z) ∧ z.on ≤ 10 + k ∧ (∀ u ∈ z.s, u ∈ a.s) ∧ Below w.heap.size w wk) (fun s6 _ _ _ _ _ => n - (intOf s6).toNat)
      case atStart => exact ⟨0, a, Nat.zero_le _, rfl, X1.out, (HS0.out.below B1.out).more B1.out.size, HP0.out, HON.out, fun _ h => h, B1.out⟩
      case round =>
        clear X1 B1 hk
        obtain ⟨k, z, hk, rfl, hX, hS, hP, hO, hss, hb⟩ := hrel
        have HX := hide hX
        have HS := hide hS
        have HP := hide hP
        have HZO := hide hO
        have HSS := hide hss
        have BW := hide hb
        clear hX hS hP hO hss hb
        by_cases hlt : k < n
        · have hkz : (k : Int) < (n : Int) := by omega
          obtain ⟨b, off, x, rfl, hbB, hx, hc⟩ := Dds_at ((HDS.out.below BW.out).below (Below.refl w.heap.size _).drew) hlt
          have hxm := List.mem_of_getElem? hx
          obtain ⟨r, hr⟩ : ∃ r, dooA (aqP z) x = r := ⟨_, rfl⟩
          have HC := hide (fun W (hW : Below wr.heap.size wr W) => do_any x z W ((HS.out.below hW).more hW.size) (((HDO.out x hxm (HSH.out x hxm)).below (BW.out.trans (hW.mono BW.out.size))).more (Nat.le_trans BW.out.size hW.size)) HP.out (by have := HZO.out; omega) (HDB.out x hxm))
          rw [hr] at HC
          have HKP := hide (show r.1 = 0 → OkP r.2 from fun h => by rw [← hr] at h ⊢; exact doo_keeps HP.out h)
          have HLN := hide (show r.1 = 0 → r.2.o.length ≤ z.o.length + 1 from fun h => by rw [← hr] at h ⊢; exact doo_len HP.out h)
          have HRS := hide (show ∀ u ∈ r.2.s, u ∈ z.s from fun u hu => by rw [← hr] at hu; exact doo_s u hu)
          unfold ResA ddV aqV at HC
          have HCC := hide hc
          have x0 := HX.out.drew.cell 0
          have x1 := HX.out.drew.cell 1
          have x2 := HX.out.drew.cell 2
          have x3 := HX.out.drew.cell 3
          have x4 := HX.out.drew.cell 4
          have x5 := HX.out.drew.cell 5
          simp at x0 x1 x2 x3 x4 x5
          have hbW : b < wr.heap.size := Nat.lt_of_lt_of_le hbB BW.out.size
          have hxW : w.heap.size < wr.heap.size := HX.out.lt
          clear hx hc hr hxm
          obtain ⟨N, hN⟩ : ∃ N : Nat, N = 18 := ⟨_, rfl⟩
          obtain ⟨T, hT⟩ : ∃ T : Nat, T = 63 := ⟨_, rfl⟩
          have hag : ∀ W, (isAgg T).run Tryz.prog W = .ok true W := fun W => by rw [hT, Tryz.isAgg63]
          have hso : ∀ W, (sizeOf T).run Tryz.prog W = .ok N W := fun W => by rw [hT, hN, Tryz.sizeOf63]
          have HLD := hide (fun W (h : Hid (Below wr.heap.size wr W)) => show ((loadCells ⟨b, off + k * 18, none⟩ N).run Tryz.prog W = .ok #[.int .i64 x.kd, .int .i64 x.a, .int .i64 x.b, .int .i64 x.od.id, .int .i64 x.od.rcd, .int .i64 x.od.ven, .int .i64 x.od.cop, .int .i64 x.od.pri, .int .i64 x.od.rcv, .int .i64 x.od.bil, .int .i64 x.od.paid, .int .i64 x.od.st, .slice x.od.shA x.od.shn x.od.shc, .int .i64 x.bl.ven, .int .i64 x.bl.num, .int .i64 x.bl.ord, .int .i64 x.bl.cop, .int .i64 x.bl.amt] W ∧ (loadCellsFrom ⟨b, off + k * 18, none⟩ 0 N #[]).run Tryz.prog W = .ok #[.int .i64 x.kd, .int .i64 x.a, .int .i64 x.b, .int .i64 x.od.id, .int .i64 x.od.rcd, .int .i64 x.od.ven, .int .i64 x.od.cop, .int .i64 x.od.pri, .int .i64 x.od.rcv, .int .i64 x.od.bil, .int .i64 x.od.paid, .int .i64 x.od.st, .slice x.od.shA x.od.shn x.od.shc, .int .i64 x.bl.ven, .int .i64 x.bl.num, .int .i64 x.bl.ord, .int .i64 x.bl.cop, .int .i64 x.bl.amt] W) by
            have hl : (loadCells ⟨b, off + k * 18, none⟩ (ddE x).length).run Tryz.prog W = .ok (ddE x).toArray W := run_loadCells_list W ⟨b, off + k * 18, none⟩ (ddE x) (fun j u hu => by rw [Addr.add_mid]; exact (h.out.cell (p := ⟨b, off + k * 18 + j, none⟩) hbW).trans (HCC.out j u hu))
            rw [hN]
            exact ⟨hl, hl⟩)
          have HT := hide hT
          clear hN hT
          go_upto_region 11 with fail
          have HTK := hide (fun (w' : World) (hb : Below (wr.alloc (.cells #[.int .i64 0, .slice none 0 0, .slice none 0 0, .slice none 0 0, .slice none 0 0, .int .i64 0] 27)).drew.heap.size (wr.alloc (.cells #[.int .i64 0, .slice none 0 0, .slice none 0 0, .slice none 0 0, .slice none 0 0, .int .i64 0] 27)).drew w') => Box.below (Box.new wr 27 #[.int .i64 0, .slice none 0 0, .slice none 0 0, .slice none 0 0, .slice none 0 0, .int .i64 0]).drew hb (show wr.heap.size < (wr.alloc (.cells #[.int .i64 0, .slice none 0 0, .slice none 0 0, .slice none 0 0, .slice none 0 0, .int .i64 0] 27)).heap.size by simp))
          go_cut [7, 8] from 41 to 92 (fun s7 s8 wx => ∃ (y : Aq) (g : Nat), s7 = .pointer (some ⟨g, 0, none⟩) ∧ s8 = .int .i64 r.1 ∧ Box wx g 27 (aqC y) ∧ w.heap.size < g ∧ Box wx w.heap.size 27 (aqC z) ∧ AqS wx wx.heap.size y ∧ AqS wx wx.heap.size z ∧ aqP y = r.2 ∧ Below w.heap.size w wx)
          case first =>
            rw [show (Op.load 63 (Operand.tmp 44)) = Op.load T (Operand.tmp 44) by rw [HT.out]]
            have H0 := hide (Below.refl wr.heap.size wr).drew
            have H0a := hide (((Below.refl wr.heap.size wr).alloc (Nat.le_refl _) (.cells #[.int .i64 0, .slice none 0 0, .slice none 0 0, .slice none 0 0, .slice none 0 0, .int .i64 0] 27)).drew)
            have HKS := hide (fun W (h : Hid (Below wr.heap.size wr W)) => (And.intro h (And.intro (HLD.out W h) (And.intro ((h.out.cell (p := ⟨w.heap.size, 0, none⟩) hxW).trans x0) (And.intro ((h.out.cell (p := ⟨w.heap.size, 1, none⟩) hxW).trans x1) (And.intro ((h.out.cell (p := ⟨w.heap.size, 2, none⟩) hxW).trans x2) (And.intro ((h.out.cell (p := ⟨w.heap.size, 3, none⟩) hxW).trans x3) (And.intro ((h.out.cell (p := ⟨w.heap.size, 4, none⟩) hxW).trans x4) ((h.out.cell (p := ⟨w.heap.size, 5, none⟩) hxW).trans x5)))))))))
            go_region_held3 (fun w' => Hid (Below wr.heap.size wr w') ∧ ((loadCells ⟨b, off + k * 18, none⟩ N).run Tryz.prog w' = .ok #[.int .i64 x.kd, .int .i64 x.a, .int .i64 x.b, .int .i64 x.od.id, .int .i64 x.od.rcd, .int .i64 x.od.ven, .int .i64 x.od.cop, .int .i64 x.od.pri, .int .i64 x.od.rcv, .int .i64 x.od.bil, .int .i64 x.od.paid, .int .i64 x.od.st, .slice x.od.shA x.od.shn x.od.shc, .int .i64 x.bl.ven, .int .i64 x.bl.num, .int .i64 x.bl.ord, .int .i64 x.bl.cop, .int .i64 x.bl.amt] w' ∧ (loadCellsFrom ⟨b, off + k * 18, none⟩ 0 N #[]).run Tryz.prog w' = .ok #[.int .i64 x.kd, .int .i64 x.a, .int .i64 x.b, .int .i64 x.od.id, .int .i64 x.od.rcd, .int .i64 x.od.ven, .int .i64 x.od.cop, .int .i64 x.od.pri, .int .i64 x.od.rcv, .int .i64 x.od.bil, .int .i64 x.od.paid, .int .i64 x.od.st, .slice x.od.shA x.od.shn x.od.shc, .int .i64 x.bl.ven, .int .i64 x.bl.num, .int .i64 x.bl.ord, .int .i64 x.bl.cop, .int .i64 x.bl.amt] w') ∧ w'.cell? ⟨w.heap.size, 0, none⟩ = some (.int .i64 z.yr) ∧ w'.cell? ⟨w.heap.size, 1, none⟩ = some (.slice z.fA z.fn z.fc) ∧ w'.cell? ⟨w.heap.size, 2, none⟩ = some (.slice z.oA z.on z.oc) ∧ w'.cell? ⟨w.heap.size, 3, none⟩ = some (.slice z.bA z.bn z.bc) ∧ w'.cell? ⟨w.heap.size, 4, none⟩ = some (.slice z.sA z.sn z.sc) ∧ w'.cell? ⟨w.heap.size, 5, none⟩ = some (.int .i64 z.nx))
              (first | with_reducible exact HKS.out _ H0 | with_reducible exact HKS.out _ H0a | with_reducible exact HKS.out _ hS1 | with_reducible exact HKS.out _ (hbel_alloc hS1 _) | with_reducible exact HKS.out _ (hbel_set6 hS1 _ _ _ _ _ _))
              (first
                | (go_at_call 41; with_reducible refine (HC.out _ H0.out).mono ?_; rintro e w2 ⟨y, rfl, hy, hp, hb⟩; have hS1 := hbel_call H0 hb)
                | (go_at_call 41; with_reducible refine (HC.out _ H0a.out).mono ?_; rintro e w2 ⟨y, rfl, hy, hp, hb⟩; have hS1 := hbel_call H0a hb; have hT := HTK.out _ hb; have t0 := hT.cell 0; have t1 := hT.cell 1; have t2 := hT.cell 2; have t3 := hT.cell 3; have t4 := hT.cell 4; have t5 := hT.cell 5; simp at t0 t1 t2 t3 t4 t5; have tf := fun j => hT.frz j))
            · have HB2 := hide hS1.out
              have HY := hide hy
              have HYP := hide hp
              clear hy hp hb hS1
              go_wp2_with fail
              go_meet
              case rel =>
                have hlt2 : w.heap.size < w2.heap.size := Nat.lt_of_lt_of_le HX.out.lt HB2.out.size
                refine ⟨y, w2.heap.size, rfl, rfl, Box.new w2 27 (aqC y), hlt2, (HX.out.below HB2.out HX.out.lt).alloc _, ?_, ?_, HYP.out, (BW.out.trans (HB2.out.mono BW.out.size)).alloc (Nat.le_of_lt hlt2) _⟩
                · exact (HY.out.below ((Below.refl w2.heap.size w2).alloc (Nat.le_refl _) _)).more (by simp)
                · exact (HS.out.below (HB2.out.alloc HB2.out.size _)).more (by have := HB2.out.size; simp; omega)
            · have HB2 := hide hS1.out
              have HY := hide hy
              have HYP := hide hp
              have HTB := hide hT
              clear hy hp hb hS1 hT t0 t1 t2 t3 t4 t5 tf
              go_wp2_with fail
              go_meet
              case rel =>
                have hB := below_aq (BW.out.trans (HB2.out.mono BW.out.size)) BW.out.size (.int .i64 y.yr) (.slice y.fA y.fn y.fc) (.slice y.oA y.on y.oc) (.slice y.bA y.bn y.bc) (.slice y.sA y.sn y.sc) (.int .i64 y.nx)
                refine ⟨y, wr.heap.size, rfl, rfl, box_set6 HTB.out _ _ _ _ _ _, HX.out.lt, ?_, ?_, ?_, HYP.out, hB⟩
                · have hne : w.heap.size ≠ wr.heap.size := by have := HX.out.lt; omega
                  exact ((((((HX.out.below HB2.out HX.out.lt).far (p := ⟨wr.heap.size, 0, none⟩) hne _).far (p := ⟨wr.heap.size, 1, none⟩) hne _).far (p := ⟨wr.heap.size, 2, none⟩) hne _).far (p := ⟨wr.heap.size, 3, none⟩) hne _).far (p := ⟨wr.heap.size, 4, none⟩) hne _).far (p := ⟨wr.heap.size, 5, none⟩) hne _
                · exact AqS.put (w0 := w) (y := aq0) HY.out HTB.out (fun u hu => HS0.out.ss u (HSS.out u (HRS.out u (by rw [← HYP.out]; exact hu)))) _ _ _ _ _ _ hB
                · exact AqS.put (w0 := w) (y := aq0) ((HS.out.below HB2.out).more HB2.out.size) HTB.out (fun u hu => HS0.out.ss u (HSS.out u hu)) _ _ _ _ _ _ hB
          case rest =>
            obtain ⟨y, g, rfl, rfl, hXg, hgl, hX0, hSy, hSz, hPy, hbw⟩ := hcut
            have XG := hide hXg
            have X0 := hide hX0
            have SY := hide hSy
            have SZ := hide hSz
            have PY := hide hPy
            have BC := hide hbw
            clear hXg hX0 hSy hSz hPy hbw HX HS BW HC HTK HLD HCC x0 x1 x2 x3 x4 x5 hag hso HT hbW hxW
            by_cases he : r.1 = 0
            · have heb : (r.1 != 0) = false := by simp [he]
              have HOK := hide (show OkP (aqP y) by rw [PY.out]; exact HKP.out he)
              have HLE := hide (show y.on ≤ z.on + 1 by
                have h1 := HLN.out he
                have h2 := SY.out.o.len
                have h3 := SZ.out.o.len
                rw [← PY.out] at h1
                have h4 : (aqP y).o = y.o := rfl
                rw [h4] at h1
                omega)
              have HSU := hide (show ∀ u ∈ y.s, u ∈ a.s from fun u hu => HSS.out u (HRS.out u (by rw [← PY.out]; exact hu)))
              have HQ := hide (okP_iff.2 HOK.out)
              have HPR := hide (fun W (hW : Below wc.heap.size wc W) => prights_any y W ((SY.out.below hW).more hW.size))
              have HRR := hide (fun W (hW : Below wc.heap.size wc W) => rrightA_any y W ((SY.out.below hW).more hW.size))
              rw [HQ.out] at HPR HRR
              unfold aqV at HPR HRR
              have t0 := XG.out.cell 0
              have t1 := XG.out.cell 1
              have t2 := XG.out.cell 2
              have t3 := XG.out.cell 3
              have t4 := XG.out.cell 4
              have t5 := XG.out.cell 5
              simp at t0 t1 t2 t3 t4 t5
              clear he
              go_wp2_with (first
                | (go_at_call 16; refine (HPR.out _ (Below.refl _ _)).mono ?_; rintro e w3 ⟨rfl, hb3⟩; have hS3 := hide hb3; have hT3 := XG.out.below hb3 XG.out.lt; have v0 := hT3.cell 0; have v1 := hT3.cell 1; have v2 := hT3.cell 2; have v3 := hT3.cell 3; have v4 := hT3.cell 4; have v5 := hT3.cell 5; simp at v0 v1 v2 v3 v4 v5)
                | (go_at_call 17; refine (HRR.out _ hS3.out).mono ?_; rintro e w4 ⟨rfl, hb4⟩))
              have W4B := hide (hS3.out.trans (hb4.mono hS3.out.size))
              clear t0 t1 t2 t3 t4 t5 v0 v1 v2 v3 v4 v5 hT3 hb3 hb4 hS3 HPR HRR
              have hyb := SY.out.f.big
              have XG4 := hide (XG.out.below W4B.out XG.out.lt)
              go_loopw [9, 10] (fun s9 _ wq => ∃ j : Nat, j ≤ y.fn ∧ s9 = .int .i64 j ∧ Below wc.heap.size wc wq) (fun s9 _ _ => y.fn - (intOf s9).toNat)
              case atStart => exact ⟨0, Nat.zero_le _, rfl, W4B.out⟩
              case round =>
                obtain ⟨j, hj, rfl, hbq⟩ := hrel
                have WQ := hide hbq
                have XQ := hide (XG.out.below hbq XG.out.lt)
                clear hbq
                have g1 := XQ.out.cell 1
                simp at g1
                by_cases hlj : j < y.fn
                · have hjz : (j : Int) < (y.fn : Int) := by omega
                  obtain ⟨b', off', f, hA, hbB', hf, f0, f1, f2, f3, f4⟩ := Fs_at ((SY.out.f.below WQ.out)) hlj
                  have HOF := hide (ok_fund HOK.out (f := f) (List.mem_of_getElem? hf))
                  have hid := (HOK.out.f.W f (List.mem_of_getElem? hf)).id
                  rw [hA] at g1
                  have HRS := hide (fun W (hW : Below wc.heap.size wc W) => prsvA_any y f.id W ((SY.out.o.below hW).more hW.size) (fun x hx => ((SY.out.os x hx).below hW).more hW.size) HOK.out.o hid)
                  rw [show rsvA y.o f.id = f.enc from HOF.out.1.symm] at HRS
                  have HFR := hide (fun W (hW : Below wc.heap.size wc W) => pfree_any y.fA y.fn y.fc y.f f.id W ((SY.out.f.below hW).more hW.size) HOK.out.f.M)
                  obtain ⟨fv, hfv⟩ : ∃ fv, freeF (getF y.f f.id).1 = fv := ⟨_, rfl⟩
                  rw [hfv] at HFR
                  have hfv0 : ¬ fv < 0 := by have h := HOF.out.2.2; have h5 : (aqP y).f = y.f := rfl; rw [h5, hfv] at h; omega
                  have hen0 : ¬ f.enc < 0 := by have h := HOF.out.2.1; omega
                  unfold aqV at HRS
                  rw [hA] at HRS HFR
                  have HAF := hide hA
                  have FB := hide (Box.new wr 57 (fuC f))
                  have XF := hide (XQ.out.alloc (.cells (fuC f) 57))
                  have WF := hide (WQ.out.alloc WQ.out.size (.cells (fuC f) 57))
                  clear hf hfv hid hA
                  go_upto_region 19 with fail
                  obtain ⟨wf, hwf⟩ : ∃ wf, wf = wr.alloc (.cells (fuC f) 57) := ⟨_, rfl⟩
                  rw [← hwf] at FB XF WF ⊢
                  clear hwf g1 f0 f1 f2 f3 f4
                  have p0 := FB.out.cell 0
                  have p3 := FB.out.cell 3
                  have q0 := XF.out.cell 0
                  have q1 := XF.out.cell 1
                  have q2 := XF.out.cell 2
                  have q3 := XF.out.cell 3
                  have q4 := XF.out.cell 4
                  have q5 := XF.out.cell 5
                  simp at p0 p3 q0 q1 q2 q3 q4 q5
                  rw [HAF.out] at q1
                  have gp0 := Grn.cell p0
                  have gp3 := Grn.cell p3
                  have gq0 := Grn.cell q0
                  have gq1 := Grn.cell q1
                  have gq2 := Grn.cell q2
                  have gq3 := Grn.cell q3
                  have gq4 := Grn.cell q4
                  have gq5 := Grn.cell q5
                  clear p0 p3 q0 q1 q2 q3 q4 q5
                  refine wp_region_grn (by kernel_rfl) (by kernel_rfl) ?_
                  repeat (go_big_quiet_step (first | (go_at_call 39; exact Calls_grn (HRS.out _ (WF.out.trans ((Grn.h _).mono WF.out.size)))) | (go_at_call 34; exact Calls_grn (HFR.out _ (WF.out.trans ((Grn.h _).mono WF.out.size))))))
                  refine wpQuiet_nil ?_
                  rintro _ ⟨q, rfl⟩
                  have hbq2 := WF.out.trans (q.h.mono WF.out.size)
                  clear gp0 gp3 gq0 gq1 gq2 gq3 gq4 gq5
                  go_wp2
                  go_roundw
                  case rel => exact ⟨j + 1, by omega, by go_num, hbq2⟩
                  case measure => simp [intOf]; omega
                · have hjz : ¬ (j : Int) < (y.fn : Int) := by omega
                  have X0Q := hide (X0.out.below WQ.out X0.out.lt)
                  have HB := hide (below_aq (BC.out.trans (WQ.out.mono BC.out.size)) (Nat.le_refl _) (.int .i64 y.yr) (.slice y.fA y.fn y.fc) (.slice y.oA y.on y.oc) (.slice y.bA y.bn y.bc) (.slice y.sA y.sn y.sc) (.int .i64 y.nx))
                  clear g1
                  have p0 := XQ.out.cell 0
                  have p1 := XQ.out.cell 1
                  have p2 := XQ.out.cell 2
                  have p3 := XQ.out.cell 3
                  have p4 := XQ.out.cell 4
                  have p5 := XQ.out.cell 5
                  have q0 := X0Q.out.cell 0
                  have q1 := X0Q.out.cell 1
                  have q2 := X0Q.out.cell 2
                  have q3 := X0Q.out.cell 3
                  have q4 := X0Q.out.cell 4
                  have q5 := X0Q.out.cell 5
                  simp at p0 p1 p2 p3 p4 p5 q0 q1 q2 q3 q4 q5
                  have fr := fun j => X0Q.out.frz j
                  have hgw : g ≠ w.heap.size := by omega
                  go_wp2
                  go_roundw
                  case rel => exact ⟨k + 1, y, by omega, by go_num, box_set6 X0Q.out _ _ _ _ _ _, AqS.put (w0 := w) (y := z) ((SY.out.below WQ.out).more WQ.out.size) X0Q.out (fun u hu => HS0.out.ss u (HSU.out u hu)) _ _ _ _ _ _ HB.out, HOK.out, by have := HLE.out; have := HZO.out; omega, HSU.out, HB.out⟩
                  case measure => simp [intOf]; omega
            · have heb : (r.1 != 0) = true := by simpa using he
              clear he
              go_wp2
              go_roundw
              case rel => exact ⟨k + 1, z, by omega, by go_num, X0.out, SZ.out, HP.out, by have := HZO.out; omega, HSS.out, BC.out⟩
              case measure => simp [intOf]; omega
        · have hkz : ¬ (k : Int) < (n : Int) := by omega
          clear HX HS HP
          have HAL := hide (aalive_any wr)
          go_wp2_with fail
          refine HAL.out.mono ?_
          rintro e wz ⟨rfl, hb⟩
          have BZ := hide (BW.out.trans (hb.mono BW.out.size))
          clear hb HAL
          go_wp2
          go_ret
          exact ⟨rfl, BZ.out⟩
end Go.Proofs.YtbhndfphegflhaaGreat
