/- Walks: Transfer, and the reference's. -/
import Derived.Test.YtbcapljiangjcaaFuG
namespace Go.Proofs.Ytbcapljiangjcaa
open Go.RowKit

theorem idxP_map {α : Type} (p : α → Bool) : ∀ (xs ys : List α) (k : Int), xs.map p = ys.map p → idxP p xs k = idxP p ys k
  | [], [], _, _ => rfl
  | [], _ :: _, _, h => by simp at h
  | _ :: _, [], _, h => by simp at h
  | x :: r, y :: s, k, h => by
    simp only [List.map_cons, List.cons.injEq] at h
    rw [idxP, idxP, h.1, idxP_map p r s (k + 1) h.2]
theorem atF_set {xs : List Fu} {k : Nat} {x y : Fu} (hx : xs[k]? = some x) (he : y.id = x.id) (id : Int) : atF (xs.set k y) id = atF xs id := by
  unfold atF ix
  apply idxP_map
  rw [List.map_set, he]
  exact set_same (by rw [List.getElem?_map, hx]; rfl)

/-- What Transfer makes of a list: the error code, and the list. -/
def trR (xs : List Fu) (fr to am : Int) : Int × List Fu :=
  if atF xs fr < 0 ∨ atF xs to < 0 then (9, []) else if fr = to then (1, []) else if mny am = false then (2, []) else if freeF (getF xs fr).1 < am then (17, [])
  else if mny ((getF xs to).1.budget + am) = false then (2, [])
  else (0, (xs.set (atF xs fr).toNat (chg (-am) 0 0 (getF xs fr).1)).set (atF xs to).toNat (chg am 0 0 (getF xs to).1))

theorem id_idx {xs : List Fu} {a b : Int} {i k : Nat} {x y : Fu} (h1 : atF xs a = i) (h2 : xs[i]? = some x) (h3 : x.id = a) (k1 : atF xs b = k) (k2 : xs[k]? = some y) (k3 : y.id = b) : (i = k ↔ a = b) := by
  constructor
  · rintro rfl; rw [h2] at k2; cases k2; rw [← h3, ← k3]
  · rintro rfl; rw [h1] at k1; omega

set_option maxHeartbeats 800000 in
theorem rtr_any (A : Option Addr) (n c : Nat) (xs : List Fu) (fr to am : Int) (w : World) (hs : Fs w w.heap.size A n c xs) (hn : n ≤ 1000) (hm : ∀ x ∈ xs, FuM x) (_ham : I64 am) :
    Calls Try.prog 22 #[.slice A n c, .int .i64 fr, .int .i64 to, .int .i64 am] w fun e w' => ∃ v, e = .returned (.tuple #[v, .int .i64 (trR xs fr to am).1]) ∧ Fo w' w.heap.size v (trR xs fr to am).2 ∧ Below w.heap.size w w' := by
  obtain rfl := hs.len
  have hbig := hs.big
  have hle := hs.le
  have HS := hide hs
  have HM := hide hm
  have hp := at_any A xs.length c xs fr w _ hs
  have hq := at_any A xs.length c xs to w _ hs
  have hf := rfree_any A xs.length c xs fr w hs hm
  have HF := hide hf
  clear hs hm hf
  rcases getF_at (xs := xs) (id := fr) with ⟨h1, h2⟩ | ⟨i, x, h1, h2, h3, h4⟩
  · have he : trR xs fr to am = (9, []) := by simp [trR, h1]
    rw [he]
    rw [h1] at hp
    have HP := hide hp
    have HQ := hide hq
    clear hp hq h1 h2 he
    rcases getF_at (xs := xs) (id := to) with ⟨k1, k2⟩ | ⟨k, y, k1, k2, k3, k4⟩
    · rw [k1] at HQ
      clear k1 k2
      go_enter Try.func22, Try.ntmps22
      go_wp2_with fail
      refine HP.out.mono ?_
      rintro e w1 ⟨rfl, rfl⟩
      go_wp2_with fail
      refine HQ.out.mono ?_
      rintro e w1 ⟨rfl, rfl⟩
      go_wp2
      go_ret2
      exact ⟨_, rfl, World.ownsRow_nil _ _ _ _, Below.refl _ _⟩
    · rw [k1] at HQ
      clear k1 k2 k3 k4
      go_enter Try.func22, Try.ntmps22
      go_wp2_with fail
      refine HP.out.mono ?_
      rintro e w1 ⟨rfl, rfl⟩
      go_wp2_with fail
      refine HQ.out.mono ?_
      rintro e w1 ⟨rfl, rfl⟩
      go_wp2
      go_ret2
      exact ⟨_, rfl, World.ownsRow_nil _ _ _ _, Below.refl _ _⟩
  · rcases getF_at (xs := xs) (id := to) with ⟨k1, k2⟩ | ⟨k, y, k1, k2, k3, k4⟩
    · have he : trR xs fr to am = (9, []) := by simp [trR, k1]
      rw [he]
      rw [h1] at hp
      rw [k1] at hq
      have HP := hide hp
      have HQ := hide hq
      clear hp hq h1 h2 h3 h4 k1 k2 he
      go_enter Try.func22, Try.ntmps22
      go_wp2_with fail
      refine HP.out.mono ?_
      rintro e w1 ⟨rfl, rfl⟩
      go_wp2_with fail
      refine HQ.out.mono ?_
      rintro e w1 ⟨rfl, rfl⟩
      go_wp2
      go_ret2
      exact ⟨_, rfl, World.ownsRow_nil _ _ _ _, Below.refl _ _⟩
    · have hi : i < xs.length := (List.getElem?_eq_some_iff.1 h2).1
      have hk : k < xs.length := (List.getElem?_eq_some_iff.1 k2).1
      have hx : FuM x := HM.out x (List.mem_of_getElem? h2)
      have hy : FuM y := HM.out y (List.mem_of_getElem? k2)
      have hik := id_idx h1 h2 h3 k1 k2 k3
      have n1 : ¬ ((i : Int) < 0 ∨ (k : Int) < 0) := by omega
      rw [h1] at hp
      rw [k1] at hq
      rw [h4] at HF
      simp only at HF
      have HP := hide hp
      have HQ := hide hq
      have HX := hide h2
      have HY := hide k2
      by_cases hft : fr = to
      · have he : trR xs fr to am = (1, []) := by unfold trR; rw [h1, k1, if_neg n1, if_pos hft]
        have hik' : ((i : Int) == (k : Int)) = true := beq_iff_eq.2 (by rw [hik.2 hft])
        rw [he]
        clear hp hq h1 h2 h3 h4 k1 k2 k3 k4 he hik hft
        go_enter Try.func22, Try.ntmps22
        go_wp2_with fail
        refine HP.out.mono ?_
        rintro e w1 ⟨rfl, rfl⟩
        go_wp2_with fail
        refine HQ.out.mono ?_
        rintro e w1 ⟨rfl, rfl⟩
        go_wp2
        go_ret2
        exact ⟨_, rfl, World.ownsRow_nil _ _ _ _, Below.refl _ _⟩
      · have hik' : ((i : Int) == (k : Int)) = false := beq_eq_false_iff_ne.2 (fun h => hft (hik.1 (by omega)))
        have hne : k ≠ i := fun h => hft (hik.1 h.symm)
        have hm1 := amount_any am
        by_cases h5 : mny am = true
        · rw [h5] at hm1
          have h5' : 0 ≤ am ∧ am ≤ 100000000 := by simpa [mny] using h5
          obtain ⟨p1, p2⟩ := h5'
          have M1 := hide hm1
          by_cases h6 : freeF x < am
          · have he : trR xs fr to am = (17, []) := by unfold trR; rw [h1, k1, if_neg n1, if_neg hft, h4, h5, if_neg (by decide), if_pos h6]
            rw [he]
            clear hp hq h1 h2 h3 h4 k1 k2 k3 k4 he hik hft hm1 h5
            go_enter Try.func22, Try.ntmps22
            go_wp2_with fail
            refine HP.out.mono ?_
            rintro e w1 ⟨rfl, rfl⟩
            go_wp2_with fail
            refine HQ.out.mono ?_
            rintro e w1 ⟨rfl, rfl⟩
            go_wp2_with fail
            refine (M1.out _).mono ?_
            rintro e w1 ⟨rfl, rfl⟩
            go_wp2_with fail
            refine HF.out.mono ?_
            rintro e w1 ⟨rfl, hb⟩
            go_wp2
            go_ret2
            exact ⟨_, rfl, World.ownsRow_nil _ _ _ _, hb⟩
          · have hm2 := amount_any (y.budget + am)
            obtain ⟨p3, p4⟩ := hy.b
            obtain ⟨b, off, y', rfl, hbB, hy', c0, c1, c2, c3, c4⟩ := Fs_at HS.out hk
            obtain rfl : y = y' := by rw [hy'] at k2; exact (Option.some.inj k2).symm
            have hcc := fun (w1 : World) (hb : Below w.heap.size w w1) => (hb.cell (p := ⟨b, off + k * 5 + 2, none⟩) hbB).trans c2
            have HCC := hide hcc
            clear c0 c1 c2 c3 c4 hcc hy'
            by_cases h7 : mny (y.budget + am) = true
            · rw [h7] at hm2
              have he : trR xs fr to am = (0, (xs.set i (chg (-am) 0 0 x)).set k (chg am 0 0 y)) := by
                unfold trR; rw [h1, k1, if_neg n1, if_neg hft, h4, k4, h5, if_neg (by decide), if_neg h6, h7, if_neg (by decide)]; rfl
              rw [he]
              have M2 := hide hm2
              have hch := fun w1 (hb : Below w.heap.size w w1) => changed_any (some ⟨b, off, none⟩) xs.length c xs i x (-am) 0 0 w1 ((HS.out.below hb).more hb.size) hn HX.out (by have := hx.b; unfold I64; omega) (by have := hx.e; unfold I64; omega) (by have := hx.s; unfold I64; omega)
              have HC := hide hch
              have hl : (xs.set i (chg (-am) 0 0 x)).length = xs.length := List.length_set
              have HL := hide hl
              clear hp hq h1 h2 h3 h4 k1 k2 k3 k4 he hik hft hm1 h5 h7 hm2 hch hl
              go_enter Try.func22, Try.ntmps22
              go_wp2_with fail
              refine HP.out.mono ?_
              rintro e w1 ⟨rfl, rfl⟩
              go_wp2_with fail
              refine HQ.out.mono ?_
              rintro e w1 ⟨rfl, rfl⟩
              go_wp2_with fail
              refine (M1.out _).mono ?_
              rintro e w1 ⟨rfl, rfl⟩
              go_wp2_with fail
              refine HF.out.mono ?_
              rintro e w1 ⟨rfl, hb⟩
              have hz := hb.size
              have q2 := HCC.out _ hb
              go_wp2_with fail
              refine (M2.out _).mono ?_
              rintro e w1 ⟨rfl, rfl⟩
              go_wp2_with fail
              refine (HC.out _ hb).mono ?_
              rintro e w2 ⟨v, rfl, hown, hb2⟩
              have hz2 := hb2.size
              have hown' := hown
              unfold Fo at hown'
              rw [HL.out] at hown'
              obtain ⟨g, cap, hv, hgb, hgl⟩ := hown'.form (by omega)
              subst hv
              have hsl := Sl.of_own fuE_len hown' HL.out (by omega)
              have hch2 := changed_any _ _ cap _ k y am 0 0 w2 hsl hn (by rw [List.getElem?_set_ne hne.symm]; exact HY.out) (by have := hy.b; unfold I64; omega) (by have := hy.e; unfold I64; omega) (by have := hy.s; unfold I64; omega)
              have HC2 := hide hch2
              clear hch2 hsl hown hown'
              go_wp2_with fail
              refine HC2.out.mono ?_
              rintro e w3 ⟨v, rfl, hown3, hb3⟩
              go_wp2
              go_ret2
              exact ⟨_, rfl, own_base hown3 (by omega), hb.trans ((hb2.mono hz).trans (hb3.mono (by omega)))⟩
            · have h7' : mny (y.budget + am) = false := by simpa using h7
              rw [h7'] at hm2
              have he : trR xs fr to am = (2, []) := by
                unfold trR; rw [h1, k1, if_neg n1, if_neg hft, h4, k4, h5, if_neg (by decide), if_neg h6, h7', if_pos rfl]
              rw [he]
              have M2 := hide hm2
              clear hp hq h1 h2 h3 h4 k1 k2 k3 k4 he hik hft hm1 h5 h7 hm2 h7'
              go_enter Try.func22, Try.ntmps22
              go_wp2_with fail
              refine HP.out.mono ?_
              rintro e w1 ⟨rfl, rfl⟩
              go_wp2_with fail
              refine HQ.out.mono ?_
              rintro e w1 ⟨rfl, rfl⟩
              go_wp2_with fail
              refine (M1.out _).mono ?_
              rintro e w1 ⟨rfl, rfl⟩
              go_wp2_with fail
              refine HF.out.mono ?_
              rintro e w1 ⟨rfl, hb⟩
              have q2 := HCC.out _ hb
              go_wp2_with fail
              refine (M2.out _).mono ?_
              rintro e w1 ⟨rfl, rfl⟩
              go_wp2
              go_ret2
              exact ⟨_, rfl, World.ownsRow_nil _ _ _ _, hb⟩
        · have h5' : mny am = false := by simpa using h5
          rw [h5'] at hm1
          have he : trR xs fr to am = (2, []) := by unfold trR; rw [h1, k1, if_neg n1, if_neg hft, h5', if_pos rfl]
          rw [he]
          have M1 := hide hm1
          clear hp hq h1 h2 h3 h4 k1 k2 k3 k4 he hik hft hm1 h5 h5'
          go_enter Try.func22, Try.ntmps22
          go_wp2_with fail
          refine HP.out.mono ?_
          rintro e w1 ⟨rfl, rfl⟩
          go_wp2_with fail
          refine HQ.out.mono ?_
          rintro e w1 ⟨rfl, rfl⟩
          go_wp2_with fail
          refine (M1.out _).mono ?_
          rintro e w1 ⟨rfl, rfl⟩
          go_wp2
          go_ret2
          exact ⟨_, rfl, World.ownsRow_nil _ _ _ _, Below.refl _ _⟩
end Go.Proofs.Ytbcapljiangjcaa
