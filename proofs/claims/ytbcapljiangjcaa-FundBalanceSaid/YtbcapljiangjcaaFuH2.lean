/- Walks: Transfer. -/
import Derived.Test.YtbcapljiangjcaaFuH
namespace Go.Proofs.Ytbcapljiangjcaa
open Go.RowKit


set_option maxHeartbeats 800000 in
theorem ptr_any (A : Option Addr) (n c : Nat) (xs : List Fu) (fr to am : Int) (w : World) (hs : Fs w w.heap.size A n c xs) (hn : n ≤ 1000) (hm : ∀ x ∈ xs, FuM x) (ham : I64 am) :
    Calls Try.prog 21 #[.slice A n c, .int .i64 fr, .int .i64 to, .int .i64 am] w fun e w' => ∃ v, e = .returned (.tuple #[v, .int .i64 (trR xs fr to am).1]) ∧ Fo w' w.heap.size v (trR xs fr to am).2 ∧ Below w.heap.size w w' := by
  obtain rfl := hs.len
  have hbig := hs.big
  have hle := hs.le
  have HS := hide hs
  have HM := hide hm
  have hp := place_any A xs.length c xs fr w hs
  have hq := fun (w1 : World) (hb : Below w.heap.size w w1) => place_any A xs.length c xs to w1 ((HS.out.below hb).more hb.size)
  have hf := fun (w1 : World) (hb : Below w.heap.size w w1) => pfree_any A xs.length c xs fr w1 ((HS.out.below hb).more hb.size) HM.out
  have hbu := fun (w1 : World) (hb : Below w.heap.size w w1) => pbud_any A xs.length c xs to am w1 ((HS.out.below hb).more hb.size) hn HM.out ham
  clear hs hm
  rcases getF_at (xs := xs) (id := fr) with ⟨h1, h2⟩ | ⟨i, x, h1, h2, h3, h4⟩
  · have he : trR xs fr to am = (9, []) := by simp [trR, h1]
    rw [he]
    rw [h1] at hp
    have HP := hide hp
    clear hp hq h1 h2 he hf hbu
    go_enter Try.func21, Try.ntmps21
    go_wp2_with fail
    refine HP.out.mono ?_
    rintro e w1 ⟨rfl, hb⟩
    go_wp2
    go_ret2
    exact ⟨_, rfl, World.ownsRow_nil _ _ _ _, hb⟩
  · rcases getF_at (xs := xs) (id := to) with ⟨k1, k2⟩ | ⟨k, y, k1, k2, k3, k4⟩
    · have he : trR xs fr to am = (9, []) := by simp [trR, k1]
      rw [he]
      rw [h1] at hp
      rw [k1] at hq
      have HP := hide hp
      have HQ := hide hq
      clear hp hq h1 h2 h3 h4 k1 k2 he hf hbu
      go_enter Try.func21, Try.ntmps21
      go_wp2_with fail
      refine HP.out.mono ?_
      rintro e w1 ⟨rfl, hb⟩
      go_wp2_with fail
      refine (HQ.out _ hb).mono ?_
      rintro e w2 ⟨rfl, hb2⟩
      go_wp2
      go_ret2
      exact ⟨_, rfl, World.ownsRow_nil _ _ _ _, hb.trans (hb2.mono hb.size)⟩
    · have hi : i < xs.length := (List.getElem?_eq_some_iff.1 h2).1
      have hk : k < xs.length := (List.getElem?_eq_some_iff.1 k2).1
      have hx : FuM x := HM.out x (List.mem_of_getElem? h2)
      have hy : FuM y := HM.out y (List.mem_of_getElem? k2)
      have hik := id_idx h1 h2 h3 k1 k2 k3
      have n1 : ¬ ((i : Int) < 0 ∨ (k : Int) < 0) := by omega
      rw [h1] at hp
      rw [k1] at hq
      rw [h4] at hf
      simp only at hf
      have HP := hide hp
      have HQ := hide hq
      have HX := hide h2
      have HY := hide k2
      have HF := hide hf
      have HK := hide (And.intro k1 k4)
      have HI := hide h1
      clear hp hq hf
      by_cases hft : fr = to
      · have he : trR xs fr to am = (1, []) := by unfold trR; rw [h1, k1, if_neg n1, if_pos hft]
        have hft' : (fr == to) = true := by simpa using hft
        rw [he]
        clear h1 h2 h3 h4 k1 k2 k3 k4 he hik hft hbu
        go_enter Try.func21, Try.ntmps21
        go_wp2_with fail
        refine HP.out.mono ?_
        rintro e w1 ⟨rfl, hb⟩
        go_wp2_with fail
        refine (HQ.out _ hb).mono ?_
        rintro e w2 ⟨rfl, hb2⟩
        go_wp2
        go_ret2
        exact ⟨_, rfl, World.ownsRow_nil _ _ _ _, hb.trans (hb2.mono hb.size)⟩
      · have hft' : (fr == to) = false := by simpa using hft
        have hne : i ≠ k := fun h => hft (hik.1 h)
        have hm1 := mright_any am
        by_cases h5 : mny am = true
        · rw [h5] at hm1
          have h5' : 0 ≤ am ∧ am ≤ 100000000 := by simpa [mny] using h5
          obtain ⟨p1, p2⟩ := h5'
          have M1 := hide hm1
          by_cases h6 : freeF x < am
          · have he : trR xs fr to am = (17, []) := by unfold trR; rw [h1, k1, if_neg n1, if_neg hft, h4, h5, if_neg (by decide), if_pos h6]
            rw [he]
            clear h1 h2 h3 h4 k1 k2 k3 k4 he hik hft hm1 h5 hbu
            go_enter Try.func21, Try.ntmps21
            go_wp2_with fail
            refine HP.out.mono ?_
            rintro e w1 ⟨rfl, hb⟩
            go_wp2_with fail
            refine (HQ.out _ hb).mono ?_
            rintro e w2 ⟨rfl, hb2⟩
            go_wp2_with fail
            refine (M1.out _).mono ?_
            rintro e w3 ⟨rfl, rfl⟩
            go_wp2_with fail
            refine (HF.out _ (hb.trans (hb2.mono hb.size))).mono ?_
            rintro e w3 ⟨rfl, hb3⟩
            go_wp2
            go_ret2
            exact ⟨_, rfl, World.ownsRow_nil _ _ _ _, (hb.trans (hb2.mono hb.size)).trans (hb3.mono (by have := hb.size; have := hb2.size; omega))⟩
          · by_cases h7 : mny (y.budget + am) = true
            · have hF1 : budF am y = (0, chg am 0 0 y) := by simp [budF, h5, h7, chg]
              have hch : chR (budF am) xs to = (0, xs.set k (chg am 0 0 y)) := by rw [chR_ok k1 k4 (by simp [hF1]), hF1]
              have he : trR xs fr to am = (0, (xs.set i (chg (-am) 0 0 x)).set k (chg am 0 0 y)) := by
                unfold trR; rw [h1, k1, if_neg n1, if_neg hft, h4, k4, h5, if_neg (by decide), if_neg h6, h7, if_neg (by decide)]; rfl
              rw [hch] at hbu
              rw [he, List.set_comm _ _ hne]
              have HB := hide hbu
              have hl : (xs.set k (chg am 0 0 y)).length = xs.length := List.length_set
              have hat : atF (xs.set k (chg am 0 0 y)) fr = i := (atF_set (y := chg am 0 0 y) HY.out rfl fr).trans h1
              have hgx : (xs.set k (chg am 0 0 y))[i]? = some x := (List.getElem?_set_ne hne.symm).trans h2
              obtain ⟨x1, x2⟩ := hx.b
              have HL := hide hl
              have HAT := hide hat
              have HGX := hide hgx
              clear h1 h2 h3 h4 k1 k2 k3 k4 he hik hft hm1 h5 h7 hch hl hF1 hbu hat hgx
              go_enter Try.func21, Try.ntmps21
              go_wp2_with fail
              refine HP.out.mono ?_
              rintro e w1 ⟨rfl, hb⟩
              go_wp2_with fail
              refine (HQ.out _ hb).mono ?_
              rintro e w2 ⟨rfl, hb2⟩
              go_wp2_with fail
              refine (M1.out _).mono ?_
              rintro e w3 ⟨rfl, rfl⟩
              have hb12 := hb.trans (hb2.mono hb.size)
              go_wp2_with fail
              refine (HF.out _ hb12).mono ?_
              rintro e w3 ⟨rfl, hb3⟩
              have hb13 := hb12.trans (hb3.mono hb12.size)
              go_wp2_with fail
              refine (HB.out _ hb13).mono ?_
              rintro e w4 ⟨v, rfl, hown, hb4⟩
              have hz4 := hb4.size
              have hz3 := hb13.size
              have hown' := hown
              unfold Fo at hown'
              rw [HL.out] at hown'
              obtain ⟨g, cap, hv, hgb, hgl⟩ := hown'.form (by omega)
              subst hv
              have hsl := Sl.of_own fuE_len hown' HL.out (by omega)
              have hpl := place_any _ _ cap _ fr w4 hsl
              rw [HAT.out] at hpl
              have HPL := hide hpl
              have hr : Rw w4 w3.heap.size g xs.length cap _ := ⟨hown', HL.out⟩
              have HR := hide hr
              clear hpl hsl hown hr hown'
              go_wp2_with fail
              refine HPL.out.mono ?_
              rintro e w5 ⟨rfl, hb5⟩
              have hr5 := Rw_below HR.out hb5
              obtain ⟨⟨c0, c1, c2, c3, c4⟩, hfz⟩ := Rw_cells hr5 HGX.out
              have HR5 := hide hr5
              clear hr5 c0 c1 c3 c4
              go_wp2
              go_ret2
              refine ⟨_, rfl, ?_, (hb13.trans (hb4.mono hz3)).trans ((hb5.mono (by omega)).setCell (Nat.le_trans hz3 hgb) _)⟩
              have r1 := Rw_set (j := 2) (y := chg (-am) 0 0 x) (u := .int .i64 (x.budget - am)) HR5.out HGX.out (by omega) (by simp [fuE, chg]; omega)
              unfold Fo
              rw [r1.2]
              exact own_base r1.1 hz3
            · have h7' : mny (y.budget + am) = false := by simpa using h7
              have hF1 : (budF am y).1 = 2 := by simp [budF, h5, h7']
              have hch : chR (budF am) xs to = (2, []) := by rw [chR_err k1 k4 (by simp [hF1]), hF1]
              have he : trR xs fr to am = (2, []) := by
                unfold trR; rw [h1, k1, if_neg n1, if_neg hft, h4, k4, h5, if_neg (by decide), if_neg h6, h7', if_pos rfl]
              rw [hch] at hbu
              rw [he]
              have HB := hide hbu
              clear h1 h2 h3 h4 k1 k2 k3 k4 he hik hft hm1 h5 h7 h7' hch hF1 hbu
              go_enter Try.func21, Try.ntmps21
              go_wp2_with fail
              refine HP.out.mono ?_
              rintro e w1 ⟨rfl, hb⟩
              go_wp2_with fail
              refine (HQ.out _ hb).mono ?_
              rintro e w2 ⟨rfl, hb2⟩
              go_wp2_with fail
              refine (M1.out _).mono ?_
              rintro e w3 ⟨rfl, rfl⟩
              have hb12 := hb.trans (hb2.mono hb.size)
              go_wp2_with fail
              refine (HF.out _ hb12).mono ?_
              rintro e w3 ⟨rfl, hb3⟩
              have hb13 := hb12.trans (hb3.mono hb12.size)
              go_wp2_with fail
              refine (HB.out _ hb13).mono ?_
              rintro e w4 ⟨v, rfl, hown, hb4⟩
              go_wp2
              go_ret2
              exact ⟨_, rfl, World.ownsRow_nil _ _ _ _, hb13.trans (hb4.mono hb13.size)⟩
        · have h5' : mny am = false := by simpa using h5
          rw [h5'] at hm1
          have he : trR xs fr to am = (2, []) := by unfold trR; rw [h1, k1, if_neg n1, if_neg hft, h5', if_pos rfl]
          rw [he]
          have M1 := hide hm1
          clear h1 h2 h3 h4 k1 k2 k3 k4 he hik hft hm1 h5 h5' hbu
          go_enter Try.func21, Try.ntmps21
          go_wp2_with fail
          refine HP.out.mono ?_
          rintro e w1 ⟨rfl, hb⟩
          go_wp2_with fail
          refine (HQ.out _ hb).mono ?_
          rintro e w2 ⟨rfl, hb2⟩
          go_wp2_with fail
          refine (M1.out _).mono ?_
          rintro e w3 ⟨rfl, rfl⟩
          go_wp2
          go_ret2
          exact ⟨_, rfl, World.ownsRow_nil _ _ _ _, hb.trans (hb2.mono hb.size)⟩
end Go.Proofs.Ytbcapljiangjcaa
