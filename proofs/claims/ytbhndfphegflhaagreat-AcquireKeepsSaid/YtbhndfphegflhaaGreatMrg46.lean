/- Texts laid together by merge.py: AqKd. -/
import Derived.Test.YtbhndfphegflhaaGreatMrg45
import Derived.Test.YtbhndfphegflhaaGreatMrg40
import Derived.Test.YtbhndfphegflhaaGreatMrg41
import Derived.Test.YtbhndfphegflhaaGreatMrg26
import Derived.Test.YtbhndfphegflhaaGreatMrg23
import Derived.Deep.Cut
set_option linter.unusedSimpArgs false
set_option linter.unusedVariables false
/- The operations of AcquireKeeps: a slice of them; Do. Printed by gen_aq_kd.py. -/
namespace Go.Proofs.YtbhndfphegflhaaGreat
open Go.RowKit

def ddE (x : Dd) : List Value := [.int .i64 x.kd, .int .i64 x.a, .int .i64 x.b, .int .i64 x.od.id, .int .i64 x.od.rcd, .int .i64 x.od.ven, .int .i64 x.od.cop, .int .i64 x.od.pri, .int .i64 x.od.rcv, .int .i64 x.od.bil, .int .i64 x.od.paid, .int .i64 x.od.st, .slice x.od.shA x.od.shn x.od.shc, .int .i64 x.bl.ven, .int .i64 x.bl.num, .int .i64 x.bl.ord, .int .i64 x.bl.cop, .int .i64 x.bl.amt]
def ddV (x : Dd) : Value := .agg #[.int .i64 x.kd, .int .i64 x.a, .int .i64 x.b, .int .i64 x.od.id, .int .i64 x.od.rcd, .int .i64 x.od.ven, .int .i64 x.od.cop, .int .i64 x.od.pri, .int .i64 x.od.rcv, .int .i64 x.od.bil, .int .i64 x.od.paid, .int .i64 x.od.st, .slice x.od.shA x.od.shn x.od.shc, .int .i64 x.bl.ven, .int .i64 x.bl.num, .int .i64 x.bl.ord, .int .i64 x.bl.cop, .int .i64 x.bl.amt]
abbrev ddC (x : Dd) : Array Value := #[.int .i64 x.kd, .int .i64 x.a, .int .i64 x.b, .int .i64 x.od.id, .int .i64 x.od.rcd, .int .i64 x.od.ven, .int .i64 x.od.cop, .int .i64 x.od.pri, .int .i64 x.od.rcv, .int .i64 x.od.bil, .int .i64 x.od.paid, .int .i64 x.od.st, .slice x.od.shA x.od.shn x.od.shc, .int .i64 x.bl.ven, .int .i64 x.bl.num, .int .i64 x.bl.ord, .int .i64 x.bl.cop, .int .i64 x.bl.amt]
theorem ddE_len (x : Dd) : (ddE x).length = 18 := rfl
abbrev Dds (w : World) (B : Nat) (A : Option Addr) (n c : Nat) (xs : List Dd) : Prop := Sl ddE 18 w B A n c xs
theorem doo_s {p : Pa} {d : Dd} : ∀ u ∈ (dooA p d).2.s, u ∈ p.s := by
  intro u hu
  unfold dooA ordA rcvA bilA stpA budA clsA withF withOr folA at hu
  (repeat' split at hu) <;> first | exact hu | (cases hu)

set_option maxRecDepth 100000 in
set_option maxHeartbeats 8000000 in
theorem do_any (d : Dd) (a : Aq) (w : World) (hs : AqS w w.heap.size a) (hod : OdS w w.heap.size d.od) (hp : OkP (aqP a)) (hon : a.on ≤ 60) (hb64 : I64 d.b) :
    Calls Tryz.prog 41 #[ddV d, aqV a] w (ResA w (dooA (aqP a) d)) := by
  have B0 := hide ((((Below.refl w.heap.size w).alloc (Nat.le_refl _) (.cells (ddC d) 63)).alloc (by simp) (.cells (aqC a) 27)).alloc (by simp; omega) (.cells #[.int .i64 0, .slice none 0 0, .slice none 0 0, .slice none 0 0, .slice none 0 0, .int .i64 0] 27))
  have D0 := hide (((Box.new w 63 (ddC d)).alloc (.cells (aqC a) 27)).alloc (.cells #[.int .i64 0, .slice none 0 0, .slice none 0 0, .slice none 0 0, .slice none 0 0, .int .i64 0] 27))
  have X0 := hide ((Box.new (w.alloc (.cells (ddC d) 63)) 27 (aqC a)).alloc (.cells #[.int .i64 0, .slice none 0 0, .slice none 0 0, .slice none 0 0, .slice none 0 0, .int .i64 0] 27))
  have R0 := hide (Box.new ((w.alloc (.cells (ddC d) 63)).alloc (.cells (aqC a) 27)) 27 #[.int .i64 0, .slice none 0 0, .slice none 0 0, .slice none 0 0, .slice none 0 0, .int .i64 0])
  rw [World.size_alloc] at X0 R0
  rw [World.size_alloc] at R0
  have HCS := hide (doo_s (p := aqP a) (d := d))
  have HS := hide hs
  have HM := hide (show ∀ f ∈ a.f, FuM f from hp.f.M)
  have HV := hide (show VldO a.o from hp.o)
  have HFN := hide (show a.fn ≤ 1000 by have h1 := hp.f.len; have h2 := hs.f.len; have h3 : (aqP a).f = a.f := rfl; rw [h3] at h1; omega)
  have HNX := hide (show 1 ≤ a.nx from hp.nx.1)
  have HYR := hide (show 0 ≤ a.yr by have h := hp.yr.1; have h3 : (aqP a).yr = a.yr := rfl; rw [h3] at h; omega)
  have HOD := hide hod
  have HON := hide hon
  have HB64 := hide hb64
  have HDR := hide (show dooA (aqP a) d = if d.kd = 0 then ordA (aqP a) d.od else if d.kd = 1 then rcvA (aqP a) d.a d.b else if d.kd = 2 then bilA (aqP a) d.bl else if d.kd = 3 then stpA (aqP a) d.a else if d.kd = 4 then budA (aqP a) d.a d.b else if d.kd = 5 then clsA (aqP a) else (21, aqP a) from rfl)
  obtain ⟨r, hr⟩ : ∃ r, dooA (aqP a) d = r := ⟨_, rfl⟩
  rw [hr] at HDR HCS ⊢
  clear hs hp hod hon hb64 hr
  obtain ⟨W0, hW0⟩ : ∃ W0, W0 = ((w.alloc (.cells (ddC d) 63)).alloc (.cells (aqC a) 27)).alloc (.cells #[.int .i64 0, .slice none 0 0, .slice none 0 0, .slice none 0 0, .slice none 0 0, .int .i64 0] 27) := ⟨_, rfl⟩
  rw [← hW0] at B0 D0 X0 R0
  by_cases h0 : d.kd = 0
  · have hk := h0
    have HR := hide (show r = ordA (aqP a) d.od by rw [HDR.out]; simp [hk])
    have t0 : (d.kd == 0) = true := by simp [hk]
    clear hk h0
    have S0 := hide ((HS.out.below B0.out).more B0.out.size)
    have HC := hide (pord_any a d.od W0 S0.out HFN.out HM.out HON.out ((HOD.out.below B0.out).more B0.out.size) HNX.out)
    rw [← HR.out] at HC
    unfold aqV at HC
    unfold odV at HC
    unfold ddV aqV
    go_enter Tryz.func41, Tryz.ntmps41
    go_upto_region 1 with fail
    rw [← hW0]
    clear hW0
    have d0 := D0.out.cell 0
    have d1 := D0.out.cell 1
    have d2 := D0.out.cell 2
    have d3 := D0.out.cell 3
    have d4 := D0.out.cell 4
    have d5 := D0.out.cell 5
    have d6 := D0.out.cell 6
    have d7 := D0.out.cell 7
    have d8 := D0.out.cell 8
    have d9 := D0.out.cell 9
    have d10 := D0.out.cell 10
    have d11 := D0.out.cell 11
    have d12 := D0.out.cell 12
    have d13 := D0.out.cell 13
    have d14 := D0.out.cell 14
    have d15 := D0.out.cell 15
    have d16 := D0.out.cell 16
    have d17 := D0.out.cell 17
    simp at d0 d1 d2 d3 d4 d5 d6 d7 d8 d9 d10 d11 d12 d13 d14 d15 d16 d17
    have x0 := X0.out.cell 0
    have x1 := X0.out.cell 1
    have x2 := X0.out.cell 2
    have x3 := X0.out.cell 3
    have x4 := X0.out.cell 4
    have x5 := X0.out.cell 5
    simp at x0 x1 x2 x3 x4 x5
    go_wp2_with fail
    refine HC.out.mono ?_
    rintro e w2 ⟨z, rfl, hz, hp, hb⟩
    have B2 := hide (B0.out.trans (hb.mono B0.out.size))
    have R2 := hide (R0.out.below hb R0.out.lt)
    have HZ := hide hz
    have HP := hide hp
    clear hz hp hb HC d0 d1 d2 d3 d4 d5 d6 d7 d8 d9 d10 d11 d12 d13 d14 d15 d16 d17 x0 x1 x2 x3 x4 x5
    obtain ⟨nn, hnn⟩ : ∃ nn, (if r.1 = 0 then a.nx else 0) = nn := ⟨_, rfl⟩
    rw [hnn]
    clear hnn
    have B2 := hide (B2.out.alloc B2.out.size (.cells (aqC z) 27))
    have R2 := hide (R2.out.alloc (.cells (aqC z) 27))
    have HZ := hide ((HZ.out.below ((Below.refl w2.heap.size w2).alloc (Nat.le_refl _) (.cells (aqC z) 27))).more (show w2.heap.size ≤ (w2.alloc (.cells (aqC z) 27)).heap.size by simp))
    unfold aqV
    have r0 := R2.out.cell 0
    have r1 := R2.out.cell 1
    have r2 := R2.out.cell 2
    have r3 := R2.out.cell 3
    have r4 := R2.out.cell 4
    have r5 := R2.out.cell 5
    simp at r0 r1 r2 r3 r4 r5
    have fr := fun j => R2.out.frz j
    go_wp2
    refine bodyPost_ret (v := .tuple #[aqV z, .int .i64 r.1]) (by simp [results, Tryz.results41, go_sem, r0, r1, r2, r3, r4, r5, aqV]) rfl ?_
    have hB := below_aq B2.out (show w.heap.size ≤ w.heap.size + 1 + 1 by omega) (.int .i64 z.yr) (.slice z.fA z.fn z.fc) (.slice z.oA z.on z.oc) (.slice z.bA z.bn z.bc) (.slice z.sA z.sn z.sc) (.int .i64 z.nx)
    exact ⟨_, rfl, AqS.put (w0 := w) (y := aq0) HZ.out R2.out (fun u hu => HS.out.ss u (HCS.out u (by rw [← HP.out]; exact hu))) (.int .i64 z.yr) (.slice z.fA z.fn z.fc) (.slice z.oA z.on z.oc) (.slice z.bA z.bn z.bc) (.slice z.sA z.sn z.sc) (.int .i64 z.nx) hB, HP.out, hB⟩
  by_cases h1 : d.kd = 1
  · have hk := h1
    have HR := hide (show r = rcvA (aqP a) d.a d.b by rw [HDR.out]; simp [hk])
    have t0 : (d.kd == 0) = false := by simp [hk]
    have t1 : (d.kd == 1) = true := by simp [hk]
    clear hk h1
    have S0 := hide ((HS.out.below B0.out).more B0.out.size)
    have HC := hide (prcvA_any a d.a d.b W0 S0.out HV.out)
    rw [← HR.out] at HC
    unfold aqV at HC

    unfold ddV aqV
    go_enter Tryz.func41, Tryz.ntmps41
    go_upto_region 1 with fail
    rw [← hW0]
    clear hW0
    have d0 := D0.out.cell 0
    have d1 := D0.out.cell 1
    have d2 := D0.out.cell 2
    have d3 := D0.out.cell 3
    have d4 := D0.out.cell 4
    have d5 := D0.out.cell 5
    have d6 := D0.out.cell 6
    have d7 := D0.out.cell 7
    have d8 := D0.out.cell 8
    have d9 := D0.out.cell 9
    have d10 := D0.out.cell 10
    have d11 := D0.out.cell 11
    have d12 := D0.out.cell 12
    have d13 := D0.out.cell 13
    have d14 := D0.out.cell 14
    have d15 := D0.out.cell 15
    have d16 := D0.out.cell 16
    have d17 := D0.out.cell 17
    simp at d0 d1 d2 d3 d4 d5 d6 d7 d8 d9 d10 d11 d12 d13 d14 d15 d16 d17
    have x0 := X0.out.cell 0
    have x1 := X0.out.cell 1
    have x2 := X0.out.cell 2
    have x3 := X0.out.cell 3
    have x4 := X0.out.cell 4
    have x5 := X0.out.cell 5
    simp at x0 x1 x2 x3 x4 x5
    go_wp2_with fail
    refine HC.out.mono ?_
    rintro e w2 ⟨z, rfl, hz, hp, hb⟩
    have B2 := hide (B0.out.trans (hb.mono B0.out.size))
    have R2 := hide (R0.out.below hb R0.out.lt)
    have HZ := hide hz
    have HP := hide hp
    clear hz hp hb HC d0 d1 d2 d3 d4 d5 d6 d7 d8 d9 d10 d11 d12 d13 d14 d15 d16 d17 x0 x1 x2 x3 x4 x5
    unfold aqV
    have r0 := R2.out.cell 0
    have r1 := R2.out.cell 1
    have r2 := R2.out.cell 2
    have r3 := R2.out.cell 3
    have r4 := R2.out.cell 4
    have r5 := R2.out.cell 5
    simp at r0 r1 r2 r3 r4 r5
    have fr := fun j => R2.out.frz j
    go_wp2
    refine bodyPost_ret (v := .tuple #[aqV z, .int .i64 r.1]) (by simp [results, Tryz.results41, go_sem, r0, r1, r2, r3, r4, r5, aqV]) rfl ?_
    have hB := below_aq B2.out (show w.heap.size ≤ w.heap.size + 1 + 1 by omega) (.int .i64 z.yr) (.slice z.fA z.fn z.fc) (.slice z.oA z.on z.oc) (.slice z.bA z.bn z.bc) (.slice z.sA z.sn z.sc) (.int .i64 z.nx)
    exact ⟨_, rfl, AqS.put (w0 := w) (y := aq0) HZ.out R2.out (fun u hu => HS.out.ss u (HCS.out u (by rw [← HP.out]; exact hu))) (.int .i64 z.yr) (.slice z.fA z.fn z.fc) (.slice z.oA z.on z.oc) (.slice z.bA z.bn z.bc) (.slice z.sA z.sn z.sc) (.int .i64 z.nx) hB, HP.out, hB⟩
  by_cases h2 : d.kd = 2
  · have hk := h2
    have HR := hide (show r = bilA (aqP a) d.bl by rw [HDR.out]; simp [hk])
    have t0 : (d.kd == 0) = false := by simp [hk]
    have t1 : (d.kd == 1) = false := by simp [hk]
    have t2 : (d.kd == 2) = true := by simp [hk]
    clear hk h2
    have S0 := hide ((HS.out.below B0.out).more B0.out.size)
    have HC := hide (pbil_any a d.bl W0 S0.out HFN.out HM.out HV.out)
    rw [← HR.out] at HC
    unfold aqV at HC
    unfold blV at HC
    unfold ddV aqV
    go_enter Tryz.func41, Tryz.ntmps41
    go_upto_region 1 with fail
    rw [← hW0]
    clear hW0
    have d0 := D0.out.cell 0
    have d1 := D0.out.cell 1
    have d2 := D0.out.cell 2
    have d3 := D0.out.cell 3
    have d4 := D0.out.cell 4
    have d5 := D0.out.cell 5
    have d6 := D0.out.cell 6
    have d7 := D0.out.cell 7
    have d8 := D0.out.cell 8
    have d9 := D0.out.cell 9
    have d10 := D0.out.cell 10
    have d11 := D0.out.cell 11
    have d12 := D0.out.cell 12
    have d13 := D0.out.cell 13
    have d14 := D0.out.cell 14
    have d15 := D0.out.cell 15
    have d16 := D0.out.cell 16
    have d17 := D0.out.cell 17
    simp at d0 d1 d2 d3 d4 d5 d6 d7 d8 d9 d10 d11 d12 d13 d14 d15 d16 d17
    have x0 := X0.out.cell 0
    have x1 := X0.out.cell 1
    have x2 := X0.out.cell 2
    have x3 := X0.out.cell 3
    have x4 := X0.out.cell 4
    have x5 := X0.out.cell 5
    simp at x0 x1 x2 x3 x4 x5
    go_wp2_with fail
    refine HC.out.mono ?_
    rintro e w2 ⟨z, rfl, hz, hp, hb⟩
    have B2 := hide (B0.out.trans (hb.mono B0.out.size))
    have R2 := hide (R0.out.below hb R0.out.lt)
    have HZ := hide hz
    have HP := hide hp
    clear hz hp hb HC d0 d1 d2 d3 d4 d5 d6 d7 d8 d9 d10 d11 d12 d13 d14 d15 d16 d17 x0 x1 x2 x3 x4 x5
    unfold aqV
    have r0 := R2.out.cell 0
    have r1 := R2.out.cell 1
    have r2 := R2.out.cell 2
    have r3 := R2.out.cell 3
    have r4 := R2.out.cell 4
    have r5 := R2.out.cell 5
    simp at r0 r1 r2 r3 r4 r5
    have fr := fun j => R2.out.frz j
    go_wp2
    refine bodyPost_ret (v := .tuple #[aqV z, .int .i64 r.1]) (by simp [results, Tryz.results41, go_sem, r0, r1, r2, r3, r4, r5, aqV]) rfl ?_
    have hB := below_aq B2.out (show w.heap.size ≤ w.heap.size + 1 + 1 by omega) (.int .i64 z.yr) (.slice z.fA z.fn z.fc) (.slice z.oA z.on z.oc) (.slice z.bA z.bn z.bc) (.slice z.sA z.sn z.sc) (.int .i64 z.nx)
    exact ⟨_, rfl, AqS.put (w0 := w) (y := aq0) HZ.out R2.out (fun u hu => HS.out.ss u (HCS.out u (by rw [← HP.out]; exact hu))) (.int .i64 z.yr) (.slice z.fA z.fn z.fc) (.slice z.oA z.on z.oc) (.slice z.bA z.bn z.bc) (.slice z.sA z.sn z.sc) (.int .i64 z.nx) hB, HP.out, hB⟩
  by_cases h3 : d.kd = 3
  · have hk := h3
    have HR := hide (show r = stpA (aqP a) d.a by rw [HDR.out]; simp [hk])
    have t0 : (d.kd == 0) = false := by simp [hk]
    have t1 : (d.kd == 1) = false := by simp [hk]
    have t2 : (d.kd == 2) = false := by simp [hk]
    have t3 : (d.kd == 3) = true := by simp [hk]
    clear hk h3
    have S0 := hide ((HS.out.below B0.out).more B0.out.size)
    have HC := hide (pstp_any a d.a W0 S0.out HFN.out HM.out HV.out)
    rw [← HR.out] at HC
    unfold aqV at HC

    unfold ddV aqV
    go_enter Tryz.func41, Tryz.ntmps41
    go_upto_region 1 with fail
    rw [← hW0]
    clear hW0
    have d0 := D0.out.cell 0
    have d1 := D0.out.cell 1
    have d2 := D0.out.cell 2
    have d3 := D0.out.cell 3
    have d4 := D0.out.cell 4
    have d5 := D0.out.cell 5
    have d6 := D0.out.cell 6
    have d7 := D0.out.cell 7
    have d8 := D0.out.cell 8
    have d9 := D0.out.cell 9
    have d10 := D0.out.cell 10
    have d11 := D0.out.cell 11
    have d12 := D0.out.cell 12
    have d13 := D0.out.cell 13
    have d14 := D0.out.cell 14
    have d15 := D0.out.cell 15
    have d16 := D0.out.cell 16
    have d17 := D0.out.cell 17
    simp at d0 d1 d2 d3 d4 d5 d6 d7 d8 d9 d10 d11 d12 d13 d14 d15 d16 d17
    have x0 := X0.out.cell 0
    have x1 := X0.out.cell 1
    have x2 := X0.out.cell 2
    have x3 := X0.out.cell 3
    have x4 := X0.out.cell 4
    have x5 := X0.out.cell 5
    simp at x0 x1 x2 x3 x4 x5
    go_wp2_with fail
    refine HC.out.mono ?_
    rintro e w2 ⟨z, rfl, hz, hp, hb⟩
    have B2 := hide (B0.out.trans (hb.mono B0.out.size))
    have R2 := hide (R0.out.below hb R0.out.lt)
    have HZ := hide hz
    have HP := hide hp
    clear hz hp hb HC d0 d1 d2 d3 d4 d5 d6 d7 d8 d9 d10 d11 d12 d13 d14 d15 d16 d17 x0 x1 x2 x3 x4 x5
    unfold aqV
    have r0 := R2.out.cell 0
    have r1 := R2.out.cell 1
    have r2 := R2.out.cell 2
    have r3 := R2.out.cell 3
    have r4 := R2.out.cell 4
    have r5 := R2.out.cell 5
    simp at r0 r1 r2 r3 r4 r5
    have fr := fun j => R2.out.frz j
    go_wp2
    refine bodyPost_ret (v := .tuple #[aqV z, .int .i64 r.1]) (by simp [results, Tryz.results41, go_sem, r0, r1, r2, r3, r4, r5, aqV]) rfl ?_
    have hB := below_aq B2.out (show w.heap.size ≤ w.heap.size + 1 + 1 by omega) (.int .i64 z.yr) (.slice z.fA z.fn z.fc) (.slice z.oA z.on z.oc) (.slice z.bA z.bn z.bc) (.slice z.sA z.sn z.sc) (.int .i64 z.nx)
    exact ⟨_, rfl, AqS.put (w0 := w) (y := aq0) HZ.out R2.out (fun u hu => HS.out.ss u (HCS.out u (by rw [← HP.out]; exact hu))) (.int .i64 z.yr) (.slice z.fA z.fn z.fc) (.slice z.oA z.on z.oc) (.slice z.bA z.bn z.bc) (.slice z.sA z.sn z.sc) (.int .i64 z.nx) hB, HP.out, hB⟩
  by_cases h4 : d.kd = 4
  · have hk := h4
    have HR := hide (show r = budA (aqP a) d.a d.b by rw [HDR.out]; simp [hk])
    have t0 : (d.kd == 0) = false := by simp [hk]
    have t1 : (d.kd == 1) = false := by simp [hk]
    have t2 : (d.kd == 2) = false := by simp [hk]
    have t3 : (d.kd == 3) = false := by simp [hk]
    have t4 : (d.kd == 4) = true := by simp [hk]
    clear hk h4
    have S0 := hide ((HS.out.below B0.out).more B0.out.size)
    have HC := hide (pbudA_any a d.a d.b W0 S0.out HFN.out HM.out HB64.out)
    rw [← HR.out] at HC
    unfold aqV at HC

    unfold ddV aqV
    go_enter Tryz.func41, Tryz.ntmps41
    go_upto_region 1 with fail
    rw [← hW0]
    clear hW0
    have d0 := D0.out.cell 0
    have d1 := D0.out.cell 1
    have d2 := D0.out.cell 2
    have d3 := D0.out.cell 3
    have d4 := D0.out.cell 4
    have d5 := D0.out.cell 5
    have d6 := D0.out.cell 6
    have d7 := D0.out.cell 7
    have d8 := D0.out.cell 8
    have d9 := D0.out.cell 9
    have d10 := D0.out.cell 10
    have d11 := D0.out.cell 11
    have d12 := D0.out.cell 12
    have d13 := D0.out.cell 13
    have d14 := D0.out.cell 14
    have d15 := D0.out.cell 15
    have d16 := D0.out.cell 16
    have d17 := D0.out.cell 17
    simp at d0 d1 d2 d3 d4 d5 d6 d7 d8 d9 d10 d11 d12 d13 d14 d15 d16 d17
    have x0 := X0.out.cell 0
    have x1 := X0.out.cell 1
    have x2 := X0.out.cell 2
    have x3 := X0.out.cell 3
    have x4 := X0.out.cell 4
    have x5 := X0.out.cell 5
    simp at x0 x1 x2 x3 x4 x5
    go_wp2_with fail
    refine HC.out.mono ?_
    rintro e w2 ⟨z, rfl, hz, hp, hb⟩
    have B2 := hide (B0.out.trans (hb.mono B0.out.size))
    have R2 := hide (R0.out.below hb R0.out.lt)
    have HZ := hide hz
    have HP := hide hp
    clear hz hp hb HC d0 d1 d2 d3 d4 d5 d6 d7 d8 d9 d10 d11 d12 d13 d14 d15 d16 d17 x0 x1 x2 x3 x4 x5
    unfold aqV
    have r0 := R2.out.cell 0
    have r1 := R2.out.cell 1
    have r2 := R2.out.cell 2
    have r3 := R2.out.cell 3
    have r4 := R2.out.cell 4
    have r5 := R2.out.cell 5
    simp at r0 r1 r2 r3 r4 r5
    have fr := fun j => R2.out.frz j
    go_wp2
    refine bodyPost_ret (v := .tuple #[aqV z, .int .i64 r.1]) (by simp [results, Tryz.results41, go_sem, r0, r1, r2, r3, r4, r5, aqV]) rfl ?_
    have hB := below_aq B2.out (show w.heap.size ≤ w.heap.size + 1 + 1 by omega) (.int .i64 z.yr) (.slice z.fA z.fn z.fc) (.slice z.oA z.on z.oc) (.slice z.bA z.bn z.bc) (.slice z.sA z.sn z.sc) (.int .i64 z.nx)
    exact ⟨_, rfl, AqS.put (w0 := w) (y := aq0) HZ.out R2.out (fun u hu => HS.out.ss u (HCS.out u (by rw [← HP.out]; exact hu))) (.int .i64 z.yr) (.slice z.fA z.fn z.fc) (.slice z.oA z.on z.oc) (.slice z.bA z.bn z.bc) (.slice z.sA z.sn z.sc) (.int .i64 z.nx) hB, HP.out, hB⟩
  by_cases h5 : d.kd = 5
  · have hk := h5
    have HR := hide (show r = clsA (aqP a) by rw [HDR.out]; simp [hk])
    have t0 : (d.kd == 0) = false := by simp [hk]
    have t1 : (d.kd == 1) = false := by simp [hk]
    have t2 : (d.kd == 2) = false := by simp [hk]
    have t3 : (d.kd == 3) = false := by simp [hk]
    have t4 : (d.kd == 4) = false := by simp [hk]
    have t5 : (d.kd == 5) = true := by simp [hk]
    clear hk h5
    have S0 := hide ((HS.out.below B0.out).more B0.out.size)
    have HC := hide (pclsA_any a W0 S0.out HFN.out HM.out HYR.out)
    rw [← HR.out] at HC
    unfold aqV at HC

    unfold ddV aqV
    go_enter Tryz.func41, Tryz.ntmps41
    go_upto_region 1 with fail
    rw [← hW0]
    clear hW0
    have d0 := D0.out.cell 0
    have d1 := D0.out.cell 1
    have d2 := D0.out.cell 2
    have d3 := D0.out.cell 3
    have d4 := D0.out.cell 4
    have d5 := D0.out.cell 5
    have d6 := D0.out.cell 6
    have d7 := D0.out.cell 7
    have d8 := D0.out.cell 8
    have d9 := D0.out.cell 9
    have d10 := D0.out.cell 10
    have d11 := D0.out.cell 11
    have d12 := D0.out.cell 12
    have d13 := D0.out.cell 13
    have d14 := D0.out.cell 14
    have d15 := D0.out.cell 15
    have d16 := D0.out.cell 16
    have d17 := D0.out.cell 17
    simp at d0 d1 d2 d3 d4 d5 d6 d7 d8 d9 d10 d11 d12 d13 d14 d15 d16 d17
    have x0 := X0.out.cell 0
    have x1 := X0.out.cell 1
    have x2 := X0.out.cell 2
    have x3 := X0.out.cell 3
    have x4 := X0.out.cell 4
    have x5 := X0.out.cell 5
    simp at x0 x1 x2 x3 x4 x5
    go_wp2_with fail
    refine HC.out.mono ?_
    rintro e w2 ⟨z, rfl, hz, hp, hb⟩
    have B2 := hide (B0.out.trans (hb.mono B0.out.size))
    have R2 := hide (R0.out.below hb R0.out.lt)
    have HZ := hide hz
    have HP := hide hp
    clear hz hp hb HC d0 d1 d2 d3 d4 d5 d6 d7 d8 d9 d10 d11 d12 d13 d14 d15 d16 d17 x0 x1 x2 x3 x4 x5
    unfold aqV
    have r0 := R2.out.cell 0
    have r1 := R2.out.cell 1
    have r2 := R2.out.cell 2
    have r3 := R2.out.cell 3
    have r4 := R2.out.cell 4
    have r5 := R2.out.cell 5
    simp at r0 r1 r2 r3 r4 r5
    have fr := fun j => R2.out.frz j
    go_wp2
    refine bodyPost_ret (v := .tuple #[aqV z, .int .i64 r.1]) (by simp [results, Tryz.results41, go_sem, r0, r1, r2, r3, r4, r5, aqV]) rfl ?_
    have hB := below_aq B2.out (show w.heap.size ≤ w.heap.size + 1 + 1 by omega) (.int .i64 z.yr) (.slice z.fA z.fn z.fc) (.slice z.oA z.on z.oc) (.slice z.bA z.bn z.bc) (.slice z.sA z.sn z.sc) (.int .i64 z.nx)
    exact ⟨_, rfl, AqS.put (w0 := w) (y := aq0) HZ.out R2.out (fun u hu => HS.out.ss u (HCS.out u (by rw [← HP.out]; exact hu))) (.int .i64 z.yr) (.slice z.fA z.fn z.fc) (.slice z.oA z.on z.oc) (.slice z.bA z.bn z.bc) (.slice z.sA z.sn z.sc) (.int .i64 z.nx) hB, HP.out, hB⟩
  have HR := hide (show r = (21, aqP a) by rw [HDR.out]; simp [h0, h1, h2, h3, h4, h5])
  have t0 : (d.kd == 0) = false := by simpa using h0
  have t1 : (d.kd == 1) = false := by simpa using h1
  have t2 : (d.kd == 2) = false := by simpa using h2
  have t3 : (d.kd == 3) = false := by simpa using h3
  have t4 : (d.kd == 4) = false := by simpa using h4
  have t5 : (d.kd == 5) = false := by simpa using h5
  clear h0 h1 h2 h3 h4 h5
  unfold ddV aqV
  go_enter Tryz.func41, Tryz.ntmps41
  go_upto_region 1 with fail
  rw [← hW0]
  clear hW0
  have d0 := D0.out.cell 0
  have d1 := D0.out.cell 1
  have d2 := D0.out.cell 2
  have d3 := D0.out.cell 3
  have d4 := D0.out.cell 4
  have d5 := D0.out.cell 5
  have d6 := D0.out.cell 6
  have d7 := D0.out.cell 7
  have d8 := D0.out.cell 8
  have d9 := D0.out.cell 9
  have d10 := D0.out.cell 10
  have d11 := D0.out.cell 11
  have d12 := D0.out.cell 12
  have d13 := D0.out.cell 13
  have d14 := D0.out.cell 14
  have d15 := D0.out.cell 15
  have d16 := D0.out.cell 16
  have d17 := D0.out.cell 17
  simp at d0 d1 d2 d3 d4 d5 d6 d7 d8 d9 d10 d11 d12 d13 d14 d15 d16 d17
  have x0 := X0.out.cell 0
  have x1 := X0.out.cell 1
  have x2 := X0.out.cell 2
  have x3 := X0.out.cell 3
  have x4 := X0.out.cell 4
  have x5 := X0.out.cell 5
  simp at x0 x1 x2 x3 x4 x5
  have B2 := B0
  have R2 := R0
  have HZ := hide ((HS.out.below B0.out).more B0.out.size)
  have HP := hide (show aqP a = r.2 by rw [HR.out])
  have HE := hide (show r.1 = 21 by rw [HR.out])
  obtain ⟨z, hz⟩ : ∃ z, z = a := ⟨_, rfl⟩
  have r0 := R2.out.cell 0
  have r1 := R2.out.cell 1
  have r2 := R2.out.cell 2
  have r3 := R2.out.cell 3
  have r4 := R2.out.cell 4
  have r5 := R2.out.cell 5
  simp at r0 r1 r2 r3 r4 r5
  have fr := fun j => R2.out.frz j
  go_wp2
  rw [← hz] at HZ HP ⊢
  rw [← HE.out]
  refine bodyPost_ret (v := .tuple #[aqV z, .int .i64 r.1]) (by simp [results, Tryz.results41, go_sem, r0, r1, r2, r3, r4, r5, aqV]) rfl ?_
  have hB := below_aq B2.out (show w.heap.size ≤ w.heap.size + 1 + 1 by omega) (.int .i64 z.yr) (.slice z.fA z.fn z.fc) (.slice z.oA z.on z.oc) (.slice z.bA z.bn z.bc) (.slice z.sA z.sn z.sc) (.int .i64 z.nx)
  exact ⟨_, rfl, AqS.put (w0 := w) (y := aq0) HZ.out R2.out (fun u hu => HS.out.ss u (HCS.out u (by rw [← HP.out]; exact hu))) (.int .i64 z.yr) (.slice z.fA z.fn z.fc) (.slice z.oA z.on z.oc) (.slice z.bA z.bn z.bc) (.slice z.sA z.sn z.sc) (.int .i64 z.nx) hB, HP.out, hB⟩
end Go.Proofs.YtbhndfphegflhaaGreat
