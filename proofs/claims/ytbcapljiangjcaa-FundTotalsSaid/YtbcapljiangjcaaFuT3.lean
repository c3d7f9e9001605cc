/- Walks: the law FundTotals. -/
import Derived.Test.YtbcapljiangjcaaFuT2
namespace Go.Proofs.Ytbcapljiangjcaa
open Go.RowKit Go.Maps

theorem sumC_bound {xs : List Fu} {id : Int} {M : Int} (hM : ∀ c ∈ xs, (0 ≤ (totP xs c.id).budget ∧ (totP xs c.id).budget ≤ M) ∧ (0 ≤ (totP xs c.id).enc ∧ (totP xs c.id).enc ≤ M) ∧ (0 ≤ (totP xs c.id).spent ∧ (totP xs c.id).spent ≤ M)) :
    ∀ (ys : List Fu) (t : Fu) (L : Int), (∀ y ∈ ys, y ∈ xs) → (0 ≤ t.budget ∧ t.budget ≤ L) → (0 ≤ t.enc ∧ t.enc ≤ L) → (0 ≤ t.spent ∧ t.spent ≤ L) → 0 ≤ M →
    (0 ≤ (sumC xs id t ys).budget ∧ (sumC xs id t ys).budget ≤ L + ys.length * M) ∧ (0 ≤ (sumC xs id t ys).enc ∧ (sumC xs id t ys).enc ≤ L + ys.length * M) ∧ (0 ≤ (sumC xs id t ys).spent ∧ (sumC xs id t ys).spent ≤ L + ys.length * M)
  | [], t, L, _, h1, h2, h3, _ => by simpa [sumC] using ⟨h1, h2, h3⟩
  | x :: r, t, L, hs, h1, h2, h3, h0 => by
    obtain ⟨⟨a1, a2⟩, ⟨a3, a4⟩, a5, a6⟩ := hM x (hs x (by simp))
    have hr := fun y hy => hs y (List.mem_cons_of_mem x hy)
    have e : L + ((x :: r).length : Int) * M = (L + M) + (r.length : Int) * M := by
      rw [List.length_cons, Int.natCast_add, Int.add_mul]; omega
    rw [sumC, List.foldl_cons, e]
    by_cases hp : x.parent = id
    · rw [if_pos hp]
      refine sumC_bound hM r (addF t (totP xs x.id)) (L + M) hr ?_ ?_ ?_ h0 <;> (unfold addF; constructor <;> (simp only; omega))
    · rw [if_neg hp]
      exact sumC_bound hM r t (L + M) hr ⟨h1.1, by omega⟩ ⟨h2.1, by omega⟩ ⟨h3.1, by omega⟩ h0

theorem tot_bound {xs : List Fu} (h : Vld xs) (c : Fu) :
    (0 ≤ (totP xs c.id).budget ∧ (totP xs c.id).budget ≤ 3200000000) ∧ (0 ≤ (totP xs c.id).enc ∧ (totP xs c.id).enc ≤ 3200000000) ∧ (0 ≤ (totP xs c.id).spent ∧ (totP xs c.id).spent ≤ 3200000000) := by
  rw [tot_eq h.T h.cyc]
  unfold totR
  split
  · exact totA_bound _ 3200000000 xs _ 0 h.M ⟨by simp, by simp⟩ ⟨by simp, by simp⟩ ⟨by simp, by simp⟩ (by have := h.len; omega)
  · exact ⟨⟨by decide, by decide⟩, ⟨by decide, by decide⟩, by decide, by decide⟩

set_option maxRecDepth 100000 in
set_option maxHeartbeats 2000000 in
theorem fundTotals_any (A : Option Addr) (n c : Nat) (xs : List Fu) (w : World) (hs : Fs w w.heap.size A n c xs) :
    Law 5 #[.slice A n c] w := by
  unfold Law
  obtain rfl := hs.len
  have hsl : ∀ W, Below w.heap.size w W → Fs W W.heap.size A xs.length c xs := fun W hW => (hs.below hW).more hW.size
  have HSL := hide hsl
  have hs0 : ∀ W, Below w.heap.size w W → Fs W w.heap.size A xs.length c xs := fun W hW => hs.below hW
  have HS0 := hide hs0
  have B0 := hide (Below.refl w.heap.size w)
  have hgd := fu_guard
  clear hs hsl hs0
  go_enter Try.func5, Try.ntmps5
  go_wp2_with fail
  refine (alive_any _).mono ?_
  rintro e w1 ⟨rfl, hb⟩
  have B1 := hide (B0.out.trans hb)
  clear hb
  have hv := valid_any A xs.length c xs w1 (HSL.out _ B1.out)
  generalize hq : (rightR xs == 0) = q at hv
  have HV := hide hv
  have HQ := hide hq
  clear hv hq
  cases q with
  | false =>
    go_wp2_with fail
    refine HV.out.mono ?_
    rintro e w2 ⟨rfl, hb⟩
    have B2 := hide (B1.out.trans (hb.mono B1.out.size))
    clear hb
    go_wp2
    go_ret
    exact ⟨rfl, B2.out⟩
  | true =>
    have hvl : Vld xs := vld_of (by simpa using HQ.out)
    have HVL := hide hvl
    have hl32 : xs.length ≤ 32 := hvl.len
    clear hvl HQ
    go_wp2_with fail
    refine HV.out.mono ?_
    rintro e w2 ⟨rfl, hb⟩
    have B2 := hide (B1.out.trans (hb.mono B1.out.size))
    clear hb HV B0 B1
    go_wp2
    go_loopw [3] (fun i wr => ∃ k : Nat, k ≤ xs.length ∧ i = .int .i64 k ∧ Below w.heap.size w wr) (fun i _ => xs.length - (intOf i).toNat)
    case atStart => exact ⟨0, Nat.zero_le _, rfl, B2.out⟩
    case round =>
      obtain ⟨k, hk, rfl, hbl⟩ := hrel
      have BL := hide hbl
      clear hbl B2
      by_cases hlt : k < xs.length
      · obtain ⟨b, off, x, rfl, hbB, hx, c0, c1, c2, c3, c4⟩ := Fs_at (HS0.out _ BL.out) hlt
        have hkk : (k : Int) < (xs.length : Int) := by omega
        have HX := hide hx
        have hxm := HVL.out.M x (List.mem_of_getElem? hx)
        obtain ⟨x1, x2⟩ := hxm.b
        obtain ⟨x3, x4⟩ := hxm.e
        obtain ⟨x5, x6⟩ := hxm.s
        clear hx hxm
        go_wp2
        clear c0 c1 c2 c3 c4
        go_loopw [5] (fun j wr2 => ∃ m : Nat, m ≤ xs.length ∧ j = .int .i64 m ∧ Below w.heap.size w wr2 ∧ Box wr2 wr.heap.size 26 (fuA (sumC xs x.id x (xs.take m)))) (fun j _ => xs.length - (intOf j).toNat)
        case atStart =>
          refine ⟨0, Nat.zero_le _, rfl, BL.out.alloc BL.out.size _, ?_⟩
          exact Box.new wr 26 (fuA x)
        case round =>
          obtain ⟨m, hm, rfl, hbl, hbx⟩ := hrel
          have B3 := hide hbl
          have HBX := hide hbx
          have hgz := hbx.lt
          clear hbl
          obtain ⟨b', off', x', hA, hbB', hx', c0, c1, c2, c3, c4⟩ := Fs_at (HS0.out _ B3.out) hlt
          cases hA
          obtain rfl : x' = x := by have := HX.out; rw [hx'] at this; exact Option.some.inj this
          clear hx'
          by_cases hlm : m < xs.length
          · obtain ⟨b', off', y, hA, hbB'', hy, d0, d1, d2, d3, d4⟩ := Fs_at (HS0.out _ B3.out) hlm
            cases hA
            have hmm : (m : Int) < (xs.length : Int) := by omega
            have HY := hide hy
            have HST := hide (sumC_step (xs := xs) (id := x'.id) (t := x') hy)
            have hbd := sumC_bound (xs := xs) (id := x'.id) (M := 3200000000) (fun c _ => tot_bound HVL.out c) (xs.take m) x' 100000000 (fun y hy => List.mem_of_mem_take hy) ⟨x1, x2⟩ ⟨x3, x4⟩ ⟨x5, x6⟩ (by omega)
            have hlen : ((xs.take m).length : Int) ≤ 32 := by rw [List.length_take]; omega
            have hbd' : ∀ z : Int, z ≤ 100000000 + ((xs.take m).length : Int) * 3200000000 → z ≤ 200000000000 := by intro z hz; omega
            obtain ⟨⟨t1, t2⟩, ⟨t3, t4⟩, t5, t6⟩ := hbd
            replace t2 := hbd' _ t2
            replace t4 := hbd' _ t4
            replace t6 := hbd' _ t6
            clear hy hbd' hlen
            generalize sumC xs x'.id x' (xs.take m) = t at *
            by_cases hp : y.parent = x'.id
            · have hpb : (y.parent == x'.id) = true := by simpa using hp
              have HP := hide hp
              clear hp
              have hc := fun N => ptotal_any (some ⟨b, off, none⟩) xs.length c xs y.id (wr.drewN N) (HSL.out _ (below_drewN B3.out N)) (by omega) HVL.out.M HVL.out.W
              have hb5 := tot_bound HVL.out y
              have HIDP := hide (tot_field HVL.out.T HVL.out.cyc (List.mem_of_getElem? HY.out)).1
              generalize totP xs y.id = T at hc HST hb5 HIDP
              obtain ⟨⟨u1, u2⟩, ⟨u3, u4⟩, u5, u6⟩ := hb5
              unfold fuV at hc
              have HC := hide hc
              clear hc hbx
              go_wp2
              go_quiet (fail)
              go_wp2_with fail
              refine (HC.out _).mono ?_
              rintro e w3 ⟨rfl, hb⟩
              have B4 := hide (((below_drewN B3.out _)).trans (hb.mono ((below_drewN B3.out _)).size))
              have hbx3 := (HBX.out.drewN _).below hb (by have := HBX.out.lt; simpa using this)
              have HB3 := hide hbx3
              obtain ⟨⟨e0, e1, e2, e3, e4⟩, hfz⟩ := box5 hbx3
              have hz3 := hbx3.lt
              clear hb hbx3 HC
              go_wp2
              go_roundw
              case rel =>
                refine ⟨m + 1, by omega, by go_num, ?_, ?_⟩
                · exact Below.alloc (Below.setCell (Below.setCell (Below.setCell B4.out (by exact BL.out.size) _) (by exact BL.out.size) _) (by exact BL.out.size) _) (by simpa using B4.out.size) _
                · rw [HST.out, if_pos HP.out]
                  exact (((HB3.out.set_ 2 _).set_ 3 _).set_ 4 _).alloc _
              case measure => simp [intOf]; omega
            · have hpb : (y.parent == x'.id) = false := by simpa using hp
              have HP := hide hp
              clear hp hbx
              go_wp2
              go_quiet (fail)
              go_wp2
              go_roundw
              case rel => exact ⟨m + 1, by omega, by go_num, (below_drewN B3.out _), by rw [HST.out, if_neg HP.out]; exact HBX.out.drewN _⟩
              case measure => simp [intOf]; omega
          · obtain rfl : m = xs.length := by omega
            rw [List.take_of_length_le (Nat.le_refl _), ← total_sum HVL.out.T HVL.out.cyc (List.mem_of_getElem? HX.out)] at hbx
            have hf := fun (p : Grn wr) => ptotal_any (some ⟨b, off, none⟩) xs.length c xs x'.id p.W (HSL.out _ (B3.out.trans (p.h.mono B3.out.size))) (by omega) HVL.out.M HVL.out.W
            generalize totP xs x'.id = T at hbx hf
            unfold fuV at hf
            have HF := hide hf
            obtain ⟨⟨e0, e1, e2, e3, e4⟩, hfz⟩ := box5 hbx
            have f0 := Grn.cell c0
            have g0 := Grn.cell e0
            have g1 := Grn.cell e1
            have g2 := Grn.cell e2
            have g3 := Grn.cell e3
            have g4 := Grn.cell e4
            have hne := fu_neq T T
            rw [decide_eq_true rfl] at hne
            simp only [Bool.not_true] at hne
            unfold fuV at hne
            clear hf hbx HBX
            go_wp2_with fail
            refine wp_region_grn (by kernel_rfl) (by kernel_rfl) ?_
            repeat (go_big_quiet_step ((go_at_call 17; exact Calls_grn (HF.out _))))
            refine wpQuiet_nil ?_
            rintro _ ⟨p, rfl⟩
            go_wp2
            go_roundw
            case rel => exact ⟨k + 1, by omega, by go_num, B3.out.trans (p.h.mono B3.out.size)⟩
            case measure => simp [intOf]; omega
      · go_wp2
        go_ret
        exact ⟨rfl, BL.out⟩
end Go.Proofs.Ytbcapljiangjcaa
