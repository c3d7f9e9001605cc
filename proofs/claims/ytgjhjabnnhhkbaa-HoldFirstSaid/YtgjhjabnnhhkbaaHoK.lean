/- Walks: Sleep and Drop of the reference. Printed by gen_ho_rops.py. -/
import Derived.Test.YtgjhjabnnhhkbaaHoX
namespace Go.Proofs.Ytgjhjabnnhhkbaa
open Go.RowKit

set_option maxRecDepth 100000 in
set_option maxHeartbeats 4000000 in
theorem rsleep_any (A : Option Addr) (n c : Nat) (xs : List Ho) (id u : Int) (w : World) (hs : Hos w w.heap.size A n c xs) (hn : n ≤ 1000)
    (hu : ∀ (i : Nat) (x y : Ho), xs[i]? = some x → y.id = x.id → withH xs y = xs.set i y) :
    Calls Try.prog 30 #[.slice A n c, .int .i64 id, .int .i64 u] w (ResH w (sleepH xs id u)) := by
  obtain rfl := hs.len
  have hle := hs.le
  have hbig := hs.big
  have hsl : ∀ W, Below w.heap.size w W → Hos W W.heap.size A xs.length c xs := fun W hW => (hs.below hW).more hW.size
  have hf := hrget_any A xs.length c xs id w hs
  have HD := hide (fun W => rday32_any u W)
  rcases getH_cases xs id with ⟨h1, h2, _⟩ | ⟨i, x, h1, h2, h3, h4, _⟩
  · have e1 : sleepH xs id u = (9, []) := by unfold sleepH; rw [if_pos h1]
    rw [e1]
    rw [h2] at hf
    unfold hoV ho0 at hf
    have HF := hide hf
    clear hf hsl hs h1 h2 e1 hu
    go_enter Try.func30, Try.ntmps30
    go_wp2_with fail
    refine HF.out.mono ?_
    rintro e w1 ⟨rfl, hb⟩
    have B1 := hide hb
    have hz1 := B1.out.size
    clear hb
    go_wp2
    go_ret2
    exact ResH.nil (B1.out.alloc hz1 _)
  · have hi : i < xs.length := (List.getElem?_eq_some_iff.1 h2).1
    rw [h4] at hf
    unfold hoV at hf
    simp only at hf
    have hp := fun (W : World) (hW : Below w.heap.size w W) => hrwith_any A xs.length c xs (slpF u x) W (hsl W hW) hn
    rw [hu i x (slpF u x) h2 rfl] at hp
    have hyl : (xs.set i (slpF u x)).length = xs.length := List.length_set
    rw [sleep_some h1 h4]
    generalize xs.set i (slpF u x) = ys at hp hyl ⊢
    unfold hoV at hp
    simp only [slpF] at hp
    have HP := hide hp
    have HYL := hide hyl
    have HF := hide hf
    clear hf hsl hs h1 h2 h3 h4 hp hyl hu
    by_cases t1 : (x.st != 1) = true
    · rw [if_pos t1]
      go_enter Try.func30, Try.ntmps30
      go_wp2_with fail
      refine HF.out.mono ?_
      rintro e w1 ⟨rfl, hb⟩
      have B1 := hide hb
      have hz1 := B1.out.size
      clear hb
      go_wp2
      go_ret2
      exact ResH.nil (B1.out.alloc hz1 _)
    · rw [if_neg t1]
      have t1' : (x.st != 1) = false := by simpa using t1
      clear t1
      cases hd : dayB u with
      | false =>
        rw [if_pos rfl]
        rw [hd] at HD
        clear hd
        go_enter Try.func30, Try.ntmps30
        go_wp2_with fail
        refine HF.out.mono ?_
        rintro e w1 ⟨rfl, hb⟩
        have B1 := hide hb
        have hz1 := B1.out.size
        clear hb
        go_wp2_with (go_at_call 51; refine (HD.out _).mono ?_; rintro e w_ ⟨rfl, rfl⟩)
        go_ret2
        exact ResH.nil (B1.out.alloc hz1 _)
      | true =>
        rw [if_neg (by decide)]
        rw [hd] at HD
        clear hd
        go_enter Try.func30, Try.ntmps30
        go_wp2_with fail
        refine HF.out.mono ?_
        rintro e w1 ⟨rfl, hb⟩
        have B1 := hide hb
        have hz1 := B1.out.size
        clear hb
        go_wp2_with fail
        refine (HD.out _).mono ?_
        rintro e w_ ⟨rfl, rfl⟩
        go_wp2_with fail
        refine (HP.out _ (B1.out.alloc hz1 _)).mono ?_
        rintro e w3 ⟨v, rfl, hown, hb3⟩
        have B3 := hide ((B1.out.alloc hz1 _).trans (hb3.mono (by first | (simp; done) | (simp; omega))))
        obtain ⟨A1, c1', hv, hsl3⟩ := Hoo_sl hown (by rw [HYL.out]; omega)
        subst hv
        have HS3 := hide hsl3
        clear hown hb3 hsl3
        go_wp2
        go_ret2
        exact ⟨_, _, _, rfl, HS3.out, B3.out⟩

theorem dropH_at {xs : List Ho} {item : Int} {k : Nat} {x : Ho} (h0 : item ≠ 0) (hx : xs[k]? = some x) (hp : gotP item x = true) (ha : ∀ y ∈ xs.take k, gotP item y = false) : dropH xs item = (0, xs.set k (dropF x)) := by
  have hi : ix (gotP item) xs = k := atH_eq hx hp (fun j z hj hz => ha z (List.mem_of_getElem? (i := j) (by rw [List.getElem?_take, if_pos hj]; exact hz)))
  unfold dropH
  rw [if_neg (by omega), hi, Int.toNat_natCast, List.getD_eq_getElem?_getD, hx]; rfl
theorem dropH_none {xs : List Ho} {item : Int} {k : Nat} (hk : xs.length ≤ k) (ha : item ≠ 0 → ∀ y ∈ xs.take k, gotP item y = false) : dropH xs item = (9, []) := by
  unfold dropH
  by_cases h0 : item = 0
  · rw [if_pos (.inr h0)]
  · rw [List.take_of_length_le hk] at ha
    rcases ix_cases (gotP item) xs with ⟨h1, _⟩ | ⟨i, x, h1, h2, h3, _⟩
    · rw [if_pos (.inl h1)]
    · rw [ha h0 x (List.mem_of_getElem? h2)] at h3; cases h3
set_option maxRecDepth 100000 in
set_option maxHeartbeats 4000000 in
theorem rdrop_any (A : Option Addr) (n c : Nat) (xs : List Ho) (item : Int) (w : World) (hs : Hos w w.heap.size A n c xs) (hn : n ≤ 1000)
    (hu : ∀ (i : Nat) (x y : Ho), xs[i]? = some x → y.id = x.id → withH xs y = xs.set i y) :
    Calls Try.prog 28 #[.slice A n c, .int .i64 item] w (ResH w (dropH xs item)) := by
  obtain rfl := hs.len
  have hle := hs.le
  have hbig := hs.big
  have hsl : ∀ W, Below w.heap.size w W → Hos W W.heap.size A xs.length c xs := fun W hW => (hs.below hW).more hW.size
  have HS := hide hs
  have hpt := fun (x : Ho) (W : World) (hW : Below w.heap.size w W) => hrwith_any A xs.length c xs (dropF x) W (hsl W hW) hn
  have HU := hide hu
  have HPT := hide hpt
  clear hs hsl hu hpt
  generalize hr : dropH xs item = r
  have HR := hide hr
  clear hr
  cases h0 : (item != 0) with
  | false =>
    have hz : item = 0 := by simpa using h0
    go_enter Try.func28, Try.ntmps28
    go_wp2
    go_loop [6] (fun i => ∃ k : Nat, k ≤ xs.length ∧ i = .int .i64 k) (fun i => xs.length - (intOf i).toNat)
    case atStart => exact ⟨0, Nat.zero_le _, rfl⟩
    case round =>
      obtain ⟨k, hk, rfl⟩ := hrel
      by_cases hlt : k < xs.length
      · go_wp2
        go_round
        case rel => exact ⟨k + 1, by omega, by go_num⟩
        case measure => simp [intOf]; omega
      · have HD := hide (dropH_none (xs := xs) (item := item) (k := k) (by omega) (fun h => absurd hz h))
        clear hz
        go_wp2
        go_ret2
        rw [← HR.out, HD.out]
        exact ResH.nil (Below.refl _ _)
  | true =>
    have hz : item ≠ 0 := by simpa using h0
    have HZ := hide hz
    clear hz
    go_enter Try.func28, Try.ntmps28
    go_wp2
    go_loop [6] (fun i => ∃ k : Nat, k ≤ xs.length ∧ i = .int .i64 k ∧ ∀ y ∈ xs.take k, gotP item y = false) (fun i => xs.length - (intOf i).toNat)
    case atStart => exact ⟨0, Nat.zero_le _, rfl, by simp⟩
    case round =>
      obtain ⟨k, hk, rfl, ha⟩ := hrel
      by_cases hlt : k < xs.length
      · obtain ⟨b, off, x, rfl, hbB, hx, c0, c1, c2, c3, c4, c5, c6, c7, c8, c9, c10⟩ := Hos_at HS.out hlt
        by_cases hq : (x.got == item) = true
        · have hd := dropH_at HZ.out hx hq ha
          have hp := HPT.out x
          rw [HU.out k x (dropF x) hx rfl] at hp
          have hyl : (xs.set k (dropF x)).length = xs.length := List.length_set
          rw [HR.out] at hd
          generalize xs.set k (dropF x) = ys at hp hyl hd
          unfold hoV at hp
          simp only [dropF] at hp
          have HP := hide hp
          have HYL := hide hyl
          have HDR := hide hd
          clear hd hp hyl ha hx
          go_wp2_with fail
          refine (HP.out _ ((Below.refl _ _).alloc (Nat.le_refl _) _)).mono ?_
          rintro e w3 ⟨v, rfl, hown, hb3⟩
          have B3 := hide (((Below.refl _ _).alloc (Nat.le_refl _) _).trans (hb3.mono (by first | (simp; done) | (simp; omega))))
          obtain ⟨A1, c1', hv, hsl3⟩ := Hoo_sl hown (by rw [HYL.out]; omega)
          subst hv
          have HS3 := hide hsl3
          clear hown hb3 hsl3
          go_wp2
          go_ret2
          rw [HDR.out]
          exact ⟨_, _, _, rfl, HS3.out, B3.out⟩
        · have hq' : (x.got == item) = false := by simpa using hq
          have HA := hide (show ∀ y ∈ xs.take (k + 1), gotP item y = false by
            intro y hy
            rw [take_step hx] at hy
            rcases List.mem_append.1 hy with hy | hy
            · exact ha y hy
            · rw [List.mem_singleton.1 hy]; exact hq')
          clear hq ha hx
          go_wp2
          go_round
          case rel => exact ⟨k + 1, by omega, by go_num, HA.out⟩
          case measure => simp [intOf]; omega
      · have HD := hide (dropH_none (xs := xs) (item := item) (k := k) (by omega) (fun _ => ha))
        clear ha
        go_wp2
        go_ret2
        rw [← HR.out, HD.out]
        exact ResH.nil (Below.refl _ _)
end Go.Proofs.Ytgjhjabnnhhkbaa
