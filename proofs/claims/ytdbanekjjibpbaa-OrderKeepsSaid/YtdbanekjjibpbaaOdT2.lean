/- Walks: the law OrderReserves. Printed by gen_od_res.py. -/
import Derived.Test.YtdbanekjjibpbaaOdT1
namespace Go.Proofs.Ytdbanekjjibpbaa
open Go.RowKit

theorem getO_od {xs : List Od} (id : Int) {w : World} {B : Nat} (h : ∀ x ∈ xs, OdS w B x) : OdS w B (getO xs id).1 := by
  rcases getO_cases xs id with ⟨_, h2, _⟩ | ⟨i, x, _, h2, _, h4, _⟩
  · rw [h2]; exact Sl.none_
  · rw [h4]; exact h x (List.mem_of_getElem? h2)

set_option maxRecDepth 100000 in
set_option maxHeartbeats 4000000 in
theorem orderReserves_any (A : Option Addr) (n c : Nat) (xs : List Od) (id t : Int) (w : World) (hs : Ods w w.heap.size A n c xs) (hss : ∀ x ∈ xs, x.shn ≤ 8 → OdS w w.heap.size x) :
    LawO 5 #[.slice A n c, .int .i64 id, .int .i64 t] w := by
  unfold LawO
  obtain rfl := hs.len
  have hbig := hs.big
  have hle := hs.le
  have hsl : ∀ W, Below w.heap.size w W → Ods W W.heap.size A xs.length c xs := fun W hW => (hs.below hW).more hW.size
  have HV := hide (fun W (hW : Below w.heap.size w W) => valid_any A _ c xs W (hsl W hW) (fun x hx h8 => ((hss x hx h8).below hW).more hW.size))
  have B0 := hide (Below.refl w.heap.size w)
  cases hv : validO xs with
  | false =>
    rw [hv] at HV
    clear hv hs hss hsl
    go_enter Try.func5, Try.ntmps5
    go_wp2_with fail
    refine (oalive_any _).mono ?_
    rintro e w1 ⟨rfl, hb⟩
    have B1 := hide (B0.out.trans (hb.mono (Nat.le_trans (by simp) B0.out.size)))
    clear hb 
    go_wp2_with fail
    refine (HV.out _ B1.out).mono ?_
    rintro e w2 ⟨rfl, hb⟩
    have B2 := hide (B1.out.trans (hb.mono (Nat.le_trans (by simp) B1.out.size)))
    clear hb B1
    clear HV
    go_wp2
    go_ret
    exact ⟨rfl, B2.out⟩
  | true =>
    rw [hv] at HV
    obtain ⟨hV, h60, h8⟩ := validO_of hv
    have hSS := fun W (hW : Below w.heap.size w W) y hy => ((hss y hy (h8 y hy)).below hW).more hW.size
    have h1 := fun W (hW : Below w.heap.size w W) => oget_any A _ c xs id W (hsl W hW)
    have h2 := fun W (hW : Below w.heap.size w W) => rget_any A _ c xs id W (hsl W hW)
    have h3 := fun W (hW : Below w.heap.size w W) => sameOrder_any (getO xs id).1 W (getO_od id (hSS W hW))
    have HSS := hide (fun W (hW : Below w.heap.size w W) y (hy : y ∈ xs) => hSS W hW y hy)
    have HVL := hide hV
    have HSL := hide hsl
    generalize getO xs id = r at h1 h2 h3
    obtain ⟨y, q⟩ := r
    unfold odV at h1 h2 h3
    simp only at h1 h2 h3
    have G1 := hide h1
    have G2 := hide h2
    have G3 := hide h3
    clear hv hs hss hsl hV h8 hSS h1 h2 h3
    go_enter Try.func5, Try.ntmps5
    go_wp2_with fail
    refine (oalive_any _).mono ?_
    rintro e w1 ⟨rfl, hb⟩
    have B1 := hide (B0.out.trans (hb.mono (Nat.le_trans (by simp) B0.out.size)))
    clear hb 
    go_wp2_with fail
    refine (HV.out _ B1.out).mono ?_
    rintro e w2 ⟨rfl, hb⟩
    have B2 := hide (B1.out.trans (hb.mono (Nat.le_trans (by simp) B1.out.size)))
    clear hb B1
    clear HV
    go_wp2_with fail
    refine (G1.out _ B2.out).mono ?_
    rintro e w3 ⟨rfl, hb⟩
    have B3 := hide (B2.out.trans (hb.mono (Nat.le_trans (by simp) B2.out.size)))
    clear hb B2
    have HX1 := hide (Box.new w3 37 (odC y))
    obtain ⟨g1, hg⟩ : ∃ g, g = w3.heap.size := ⟨_, rfl⟩
    have HG1 := hide hg
    clear hg
    have B4 := hide (B3.out.alloc (Nat.le_trans (by simp) B3.out.size) (.cells (odC y) 37))
    clear B3
    have Z1_4 := hide (Below.refl (w3.heap.size + 1) (w3.alloc (.cells (odC y) 37)))
    go_wp2_with fail
    refine (G2.out _ B4.out).mono ?_
    rintro e w5 ⟨rfl, hb⟩
    have B5 := hide (B4.out.trans (hb.mono (Nat.le_trans (by simp) B4.out.size)))
    have Z1_5 := hide (Z1_4.out.trans (hb.mono (Nat.le_trans (by simp) Z1_4.out.size)))
    clear hb B4 Z1_4
    have HX2 := hide (Box.new w5 37 (odC y))
    obtain ⟨g2, hg⟩ : ∃ g, g = w5.heap.size := ⟨_, rfl⟩
    have HG2 := hide hg
    clear hg
    have B6 := hide (B5.out.alloc (Nat.le_trans (by simp) B5.out.size) (.cells (odC y) 37))
    have Z1_6 := hide (Z1_5.out.alloc (Nat.le_trans (by simp) Z1_5.out.size) (.cells (odC y) 37))
    clear B5 Z1_5
    have Z2_6 := hide (Below.refl (w5.heap.size + 1) (w5.alloc (.cells (odC y) 37)))
    have hbx := HX1.out.below Z1_6.out (by omega)
    have q0 := hbx.cell 0
    have q1 := hbx.cell 1
    have q2 := hbx.cell 2
    have q3 := hbx.cell 3
    have q4 := hbx.cell 4
    have q5 := hbx.cell 5
    have q6 := hbx.cell 6
    have q7 := hbx.cell 7
    have q8 := hbx.cell 8
    have q9 := hbx.cell 9
    simp at q0 q1 q2 q3 q4 q5 q6 q7 q8 q9
    clear hbx
    have hbx := HX2.out.below Z2_6.out (by omega)
    have p0 := hbx.cell 0
    have p1 := hbx.cell 1
    have p2 := hbx.cell 2
    have p3 := hbx.cell 3
    have p4 := hbx.cell 4
    have p5 := hbx.cell 5
    have p6 := hbx.cell 6
    have p7 := hbx.cell 7
    have p8 := hbx.cell 8
    have p9 := hbx.cell 9
    simp at p0 p1 p2 p3 p4 p5 p6 p7 p8 p9
    clear hbx
    go_wp2_with fail
    refine (G3.out _ B6.out).mono ?_
    rintro e w7 ⟨rfl, hb⟩
    have B7 := hide (B6.out.trans (hb.mono (Nat.le_trans (by simp) B6.out.size)))
    clear hb B6
    clear q0 p0 q1 p1 q2 p2 q3 p3 q4 p4 q5 p5 q6 p6 q7 p7 q8 p8 q9 p9 G1 G2 G3 HX1 HX2
    go_wp2
    go_loopw [11] (fun i wr => ∃ k : Nat, k ≤ xs.length ∧ i = .int .i64 k ∧ Below w.heap.size w wr) (fun i _ => xs.length - (intOf i).toNat)
    case atStart => exact ⟨0, Nat.zero_le _, rfl, B7.out⟩
    case round =>
      obtain ⟨k, hk, rfl, hb⟩ := hrel
      clear B7
      have B0 := hide hb
      clear hb
      by_cases hlt : k < xs.length
      · obtain ⟨b, off, x, rfl, hbB, hx, c0, c1, c2, c3, c4, c5, c6, c7, c8, c9⟩ := Ods_at (HSL.out wr B0.out) hlt
        have hxm := List.mem_of_getElem? hx
        have hM := HVL.out.M x hxm
        have hsv := HVL.out.sh x hxm
        have h1 := fun W (hW : Below w.heap.size w W) => osplit_any x t W (HSS.out W hW x hxm) hsv
        have h2 := fun W (hW : Below w.heap.size w W) => rsplit_any x t W (HSS.out W hW x hxm) hsv
        have hlr : (splitO x t).2.length ≤ 140737488355328 := by
          obtain ⟨⟨_, v2⟩, _⟩ := sharesV_W hsv
          unfold splitO
          split
          · simp only; rw [shareF_len]; simp [wsO]; omega
          · simp
        have h4 := fun W => oresv_any x W (.inl hM)
        have h5 := fun W => rresv_any x W hM
        generalize splitO x t = r at h1 h2 hlr
        generalize resvO x = rv at h4 h5
        unfold odV at h1 h2 h4 h5
        have H1 := hide h1
        have H2 := hide h2
        have H4 := hide h4
        have H5 := hide h5
        have HLR := hide hlr
        have hkz : (k : Int) < (xs.length : Int) := by omega
        clear hx hxm hM hsv h1 h2 h4 h5 hlr
        have hbR : b < wr.heap.size := hbB
        go_wp2_with fail
        refine (H1.out _ B0.out).mono ?_
        rintro e w1 ⟨v1, rfl, hown, hb⟩
        have B1 := hide (B0.out.trans (hb.mono B0.out.size))
        obtain ⟨A1, cc1, hv1, hsl1⟩ := Ino_sl hown HLR.out
        subst hv1
        have S1 := hide hsl1
        have c0 := (hb.cell (p := ⟨b, off + k * 10, none⟩) hbR).trans c0
        have c1 := (hb.cell (p := ⟨b, off + k * 10 + 1, none⟩) hbR).trans c1
        have c2 := (hb.cell (p := ⟨b, off + k * 10 + 2, none⟩) hbR).trans c2
        have c3 := (hb.cell (p := ⟨b, off + k * 10 + 3, none⟩) hbR).trans c3
        have c4 := (hb.cell (p := ⟨b, off + k * 10 + 4, none⟩) hbR).trans c4
        have c5 := (hb.cell (p := ⟨b, off + k * 10 + 5, none⟩) hbR).trans c5
        have c6 := (hb.cell (p := ⟨b, off + k * 10 + 6, none⟩) hbR).trans c6
        have c7 := (hb.cell (p := ⟨b, off + k * 10 + 7, none⟩) hbR).trans c7
        have c8 := (hb.cell (p := ⟨b, off + k * 10 + 8, none⟩) hbR).trans c8
        have c9 := (hb.cell (p := ⟨b, off + k * 10 + 9, none⟩) hbR).trans c9
        have hbR : b < w1.heap.size := Nat.lt_of_lt_of_le hbR hb.size
        clear hown hsl1 hb
        go_wp2_with fail
        refine (H2.out _ B1.out).mono ?_
        rintro e w2 ⟨v2, rfl, hown, hb⟩
        have B2 := hide (B1.out.trans (hb.mono B1.out.size))
        obtain ⟨A2, c2', hv2, hsl2⟩ := Ino_sl hown HLR.out
        subst hv2
        have S2 := hide hsl2
        have S3 := hide ((S1.out.below hb).more hb.size)
        have c0 := (hb.cell (p := ⟨b, off + k * 10, none⟩) hbR).trans c0
        have c1 := (hb.cell (p := ⟨b, off + k * 10 + 1, none⟩) hbR).trans c1
        have c2 := (hb.cell (p := ⟨b, off + k * 10 + 2, none⟩) hbR).trans c2
        have c3 := (hb.cell (p := ⟨b, off + k * 10 + 3, none⟩) hbR).trans c3
        have c4 := (hb.cell (p := ⟨b, off + k * 10 + 4, none⟩) hbR).trans c4
        have c5 := (hb.cell (p := ⟨b, off + k * 10 + 5, none⟩) hbR).trans c5
        have c6 := (hb.cell (p := ⟨b, off + k * 10 + 6, none⟩) hbR).trans c6
        have c7 := (hb.cell (p := ⟨b, off + k * 10 + 7, none⟩) hbR).trans c7
        have c8 := (hb.cell (p := ⟨b, off + k * 10 + 8, none⟩) hbR).trans c8
        have c9 := (hb.cell (p := ⟨b, off + k * 10 + 9, none⟩) hbR).trans c9
        have HI := hide (fun (p : Grn w2) => ints_any A1 A2 r.2.length cc1 r.2.length c2' r.2 r.2 p.W ((S3.out.below p.h).more p.h.size) ((S2.out.below p.h).more p.h.size))
        rw [decide_eq_true rfl] at HI
        clear hown hsl2 hb
        have f0 := Grn.cell c0
        have f1 := Grn.cell c1
        have f2 := Grn.cell c2
        have f3 := Grn.cell c3
        have f4 := Grn.cell c4
        have f5 := Grn.cell c5
        have f6 := Grn.cell c6
        have f7 := Grn.cell c7
        have f8 := Grn.cell c8
        have f9 := Grn.cell c9
        go_wp2_with fail
        refine wp_region_grn (by kernel_rfl) (by kernel_rfl) ?_
        repeat (go_big_quiet_step (first | (go_at_call 24; exact Calls_grn (HI.out _)) | (go_at_call 25; exact Calls_grn (H4.out _)) | (go_at_call 26; exact Calls_grn (H5.out _))))
        refine wpQuiet_nil ?_
        rintro _ ⟨p, rfl⟩
        have B3 := hide (B2.out.trans (p.h.mono B2.out.size))
        obtain ⟨w3, hw3⟩ : ∃ w3, w3 = p.W := ⟨_, rfl⟩
        rw [← hw3] at B3 ⊢
        clear hw3 c0 c1 c2 c3 c4 c5 c6 c7 c8 c9 f0 f1 f2 f3 f4 f5 f6 f7 f8 f9
        go_wp2
        go_roundw
        case rel => exact ⟨k + 1, by omega, by go_num, B3.out⟩
        case measure => simp [intOf]; omega
      · go_wp2
        go_ret
        exact ⟨rfl, B0.out⟩
end Go.Proofs.Ytdbanekjjibpbaa
