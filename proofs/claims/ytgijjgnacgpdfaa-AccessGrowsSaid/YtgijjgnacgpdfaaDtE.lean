/- Walks: the reference's Parts and Months. -/
import Derived.Test.YtgijjgnacgpdfaaDtC
import Derived.Test.YtgijjgnacgpdfaaDtD
namespace Go.Proofs.Ytgijjgnacgpdfaa
open Go.RowKit

set_option maxRecDepth 100000 in
set_option maxHeartbeats 2000000 in
theorem rparts_any (day y m d : Int) (w : World) (hp : PartsOf day y m d) (h1 : 0 ≤ day) (h2 : day ≤ 109572) :
    Calls Try.prog 31 #[.int .i64 day] w fun e w' => e = .returned (.tuple #[.int .i64 y, .int .i64 m, .int .i64 d, .int .i64 0]) ∧ Below w.heap.size w w' := by
  have hk := ris_any day w
  rw [show (decide (0 ≤ day) && decide (day ≤ 109572)) = true by simp [h1, h2]] at hk
  have HK := hide hk
  obtain ⟨Y, rfl⟩ : ∃ Y : Nat, y = 1900 + (Y : Int) := ⟨(y - 1900).toNat, by have := hp.y1; omega⟩
  obtain ⟨M, rfl⟩ : ∃ M : Nat, m = (M : Int) := ⟨m.toNat, by have := hp.m1; omega⟩
  have hY : Y ≤ 299 := by have := hp.y2; omega
  have hM1 : 1 ≤ M := by have := hp.m1; omega
  have hM2 : M ≤ 12 := by have := hp.m2; omega
  have hyl : ny Y ≤ day := by have := hp.yl; rwa [show ((1900 : Int) + (Y : Int) - 1900).toNat = Y from by omega] at this
  have hyu : day < ny (Y + 1) := by have := hp.yu; rwa [show ((1900 : Int) + (Y : Int) - 1900).toNat = Y from by omega] at this
  have hml : bef (1900 + Y) M ≤ day - ny Y := by have := hp.ml; rwa [show ((1900 : Int) + (Y : Int) - 1900).toNat = Y from by omega] at this
  have hmu : day - ny Y < bef (1900 + Y) (M + 1) := by have := hp.mu; rwa [show ((1900 : Int) + (Y : Int) - 1900).toNat = Y from by omega] at this
  have hd : d = day - ny Y - bef (1900 + Y) M + 1 := by have := hp.d; rwa [show ((1900 : Int) + (Y : Int) - 1900).toNat = Y from by omega] at this
  have hbe : ∀ j : Int, 1 ≤ j → j ≤ 12 → 0 ≤ bef (1900 + Y) j ∧ bef (1900 + Y) j ≤ 366 := by
    intro j j1 j2
    have e1 := bef_mono (y := 1900 + Y) (by omega) (by omega) (m := 1) (m' := j) (by omega) j1 (by omega)
    have e2 := bef_mono (y := 1900 + Y) (by omega) (by omega) (m := j) (m' := 13) j1 (by omega) (by omega)
    have e3 := lpn_01 (1900 + Y)
    rw [bef_1] at e1
    rw [bef_13] at e2
    omega
  have HYL := hide hyl
  have HYU := hide hyu
  have HML := hide hml
  have HMU := hide hmu
  have HD := hide hd
  have HBE := hide hbe
  clear hk hp hyl hyu hml hmu hd hbe
  go_enter Try.func31, Try.ntmps31
  go_wp2_with fail
  refine HK.out.mono ?_
  rintro e w1 ⟨rfl, hb⟩
  have HB := hide hb
  clear hb HK
  go_wp2
  go_loopw [0, 6] (fun r i wr => ∃ k : Nat, k ≤ Y ∧ i = .int .i64 (1900 + (k : Int)) ∧ r = .int .i64 (day - ny k) ∧ Below w.heap.size w wr) (fun _ i _ => Y - (intOf i - 1900).toNat)
  case atStart => exact ⟨0, Nat.zero_le _, rfl, by simp [ny], HB.out⟩
  case round =>
    obtain ⟨k, hk, rfl, rfl, hbl⟩ := hrel
    have HBL := hide hbl
    have hnb := ny_bound k
    have hlb := lpn_01 (1900 + (k : Int))
    have hnst : ny (k + 1) = ny k + 365 + lpn (1900 + (k : Int)) := rfl
    have hle : ny k ≤ day := by have := ny_mono (a := k) (b := Y) hk; have := HYL.out; omega
    have hy := ryear_any (1900 + (k : Int)) wr (by omega) (by omega)
    clear hbl HB
    by_cases hlt : k < Y
    · have hge : ny k + 365 + lpn (1900 + (k : Int)) ≤ day := by have := ny_mono (a := k + 1) (b := Y) hlt; have := HYL.out; omega
      have hy2 := fun W => ryear_any (1900 + (k : Int)) W (by omega) (by omega)
      have HST := hide hnst
      clear hnst
      generalize lpn (1900 + (k : Int)) = q at hy hy2 HST hlb hge
      generalize ny k = P at HST hnb hle hge ⊢
      obtain ⟨q1, q2⟩ := hlb
      obtain ⟨q3, q4⟩ := hnb
      have q5 : 0 ≤ P := by omega
      have q6 : P ≤ 200000 := by omega
      have q7 : 365 + q ≤ day - P := by omega
      have HY := hide hy
      have HY2 := hide hy2
      clear hy hy2 q3 q4 hge
      go_wp2_with fail
      refine HY.out.mono ?_
      rintro e w2 ⟨rfl, hb⟩
      have HBL2 := hide (HBL.out.trans (hb.mono HBL.out.size))
      clear hb
      go_wp2_with fail
      refine (HY2.out _).mono ?_
      rintro e w3 ⟨rfl, hb⟩
      have HBL3 := hide (HBL2.out.trans (hb.mono HBL2.out.size))
      clear hb
      go_wp2
      go_roundw
      case rel => exact ⟨k + 1, by omega, by go_num, by rw [HST.out]; congr 1; omega, HBL3.out⟩
      case measure => simp [intOf]; omega
    · obtain rfl : k = Y := by omega
      have hlt2 : day < ny k + 365 + lpn (1900 + (k : Int)) := by have := HYU.out; omega
      clear hnst hlt hk HYU HYL
      generalize lpn (1900 + (k : Int)) = q at hy hlb hlt2
      generalize ny k = P at hnb hle hlt2 HML HMU HD ⊢
      obtain ⟨q1, q2⟩ := hlb
      obtain ⟨q3, q4⟩ := hnb
      have q5 : 0 ≤ P := by omega
      have q6 : P ≤ 200000 := by omega
      have q7 : day - P < 365 + q := by omega
      have HY := hide hy
      clear hy q3 q4 hlt2
      go_wp2_with fail
      refine HY.out.mono ?_
      rintro e w2 ⟨rfl, hb⟩
      have HBL2 := hide (HBL.out.trans (hb.mono HBL.out.size))
      clear hb HBL HY
      go_wp2
      go_loopw [0, 7] (fun r i wr => ∃ j : Nat, 1 ≤ j ∧ j ≤ M ∧ i = .int .i64 (j : Int) ∧ r = .int .i64 (day - P - bef (1900 + k) j) ∧ Below w.heap.size w wr) (fun _ i _ => M - (intOf i).toNat)
      case atStart => exact ⟨1, Nat.le_refl _, hM1, rfl, by rw [show ((1 : Nat) : Int) = 1 from rfl, bef_1, Int.sub_zero], HBL2.out⟩
      case round =>
        obtain ⟨j, hj1, hj, rfl, rfl, hbl⟩ := hrel
        have HBL3 := hide hbl
        have hbb := HBE.out j (by omega) (by omega)
        obtain ⟨bb1, bb2⟩ := hbb
        have hst := bef_step (y := 1900 + (k : Int)) (m := j) (by omega) (by omega) (by omega) (by omega)
        have hb := ml_bound (1900 + (k : Int)) j
        have hl := rlen_any (1900 + (k : Int)) j wr
        have hl2 := fun W => rlen_any (1900 + (k : Int)) j W
        obtain ⟨c1, c2⟩ := hb
        clear hbl HBL2
        by_cases hlj : j < M
        · have hge : bef (1900 + (k : Int)) j + ml (1900 + (k : Int)) j ≤ day - P := by
            have e1 := bef_mono (y := 1900 + (k : Int)) (by omega) (by omega) (m := (j : Int) + 1) (m' := M) (by omega) (by omega) (by omega)
            have := HML.out
            omega
          have HST := hide hst
          generalize ml (1900 + (k : Int)) j = L2 at hl hl2 HST c1 c2 hge
          generalize bef (1900 + (k : Int)) j = B at HST bb1 bb2 hge ⊢
          have HL := hide hl
          have HL2 := hide hl2
          have hge2 : L2 ≤ day - P - B := by omega
          clear hl hl2 hst hge
          go_wp2_with fail
          refine HL.out.mono ?_
          rintro e w3 ⟨rfl, hb⟩
          have HBL4 := hide (HBL3.out.trans (hb.mono HBL3.out.size))
          clear hb
          go_wp2_with fail
          refine (HL2.out _).mono ?_
          rintro e w4 ⟨rfl, hb⟩
          have HBL5 := hide (HBL4.out.trans (hb.mono HBL4.out.size))
          clear hb
          go_wp2
          go_roundw
          case rel => exact ⟨j + 1, by omega, by omega, by go_num, by rw [show ((j + 1 : Nat) : Int) = (j : Int) + 1 from by omega, HST.out]; congr 1; omega, HBL5.out⟩
          case measure => simp [intOf]; omega
        · obtain rfl : j = M := by omega
          have hlt3 : day - P < bef (1900 + (k : Int)) j + ml (1900 + (k : Int)) j := by have := HMU.out; omega
          have hge3 := HML.out
          clear hst hl2 HML HMU
          generalize ml (1900 + (k : Int)) j = L2 at hl c1 c2 hlt3
          generalize bef (1900 + (k : Int)) j = B at bb1 bb2 hlt3 hge3 HD ⊢
          have HL := hide hl
          have hge2 : day - P - B < L2 := by omega
          have hge4 : 0 ≤ day - P - B := by omega
          clear hl hlt3 hge3
          go_wp2_with fail
          refine HL.out.mono ?_
          rintro e w3 ⟨rfl, hb⟩
          have HBL4 := hide (HBL3.out.trans (hb.mono HBL3.out.size))
          clear hb
          go_wp2
          rw [HD.out]
          exact bodyPost_ret (by simp [results, Try.results31, go_sem]) rfl ⟨rfl, HBL4.out⟩
end Go.Proofs.Ytgijjgnacgpdfaa
