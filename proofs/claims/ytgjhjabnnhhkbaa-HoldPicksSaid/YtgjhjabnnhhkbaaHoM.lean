/- Walks: Catch of the reference. Printed by gen_ho_rops.py. -/
import Derived.Test.YtgjhjabnnhhkbaaHoX
import Derived.BigGuardPart
namespace Go.Proofs.Ytgjhjabnnhhkbaa
open Go.RowKit

theorem catchC_false {xs : List Ho} {id item : Int} (h : ∀ y ∈ xs, othP id item y = false) : catchC xs id item = false := by
  unfold catchC
  rcases ix_cases (othP id item) xs with ⟨h1, _⟩ | ⟨i, y, h1, h2, h3, _⟩
  · rw [h1]; rfl
  · rw [h y (List.mem_of_getElem? h2)] at h3; cases h3
theorem catchC_true {xs : List Ho} {id item : Int} {y : Ho} (hy : y ∈ xs) (h : othP id item y = true) : catchC xs id item = true := by
  unfold catchC
  rcases ix_cases (othP id item) xs with ⟨_, h2⟩ | ⟨i, z, h1, _⟩
  · rw [h2 y hy] at h; cases h
  · rw [h1]; simp
theorem oth_step {xs : List Ho} {k : Nat} {x : Ho} {id item : Int} (hx : xs[k]? = some x) (ha : ∀ y ∈ xs.take k, othP id item y = false) (h : othP id item x = false) : ∀ y ∈ xs.take (k + 1), othP id item y = false := by
  intro y hy
  rw [take_step hx] at hy
  rcases List.mem_append.1 hy with hy | hy
  · exact ha y hy
  · rw [List.mem_singleton.1 hy]; exact h
theorem win_day {u : Int} (h : ¬ u < 1) : winB u 1 109572 = dayB u := by
  unfold dayB winB
  have e1 : decide (1 ≤ u) = true := by simp; omega
  have e2 : decide (0 ≤ u) = true := by simp; omega
  rw [e1, e2]

set_option maxRecDepth 100000 in
set_option maxHeartbeats 16000000 in
theorem rcatch_any (A : Option Addr) (n c : Nat) (xs : List Ho) (id item state unt : Int) (w : World) (hs : Hos w w.heap.size A n c xs) (hn : n ≤ 1000)
    (hu : ∀ (i : Nat) (x y : Ho), xs[i]? = some x → y.id = x.id → withH xs y = xs.set i y) :
    Calls Try.prog 25 #[.slice A n c, .int .i64 id, .int .i64 item, .int .i64 state, .int .i64 unt] w (ResH w (catchH xs id item state unt)) := by
  obtain rfl := hs.len
  have hle := hs.le
  have hbig := hs.big
  have hsl : ∀ W, Below w.heap.size w W → Hos W W.heap.size A xs.length c xs := fun W hW => (hs.below hW).more hW.size
  have hf := hrget_any A xs.length c xs id w hs
  have HQ := hide (fun W => rid32_any item W)
  have HD := hide (fun W => rday32_any unt W)
  have HU := hide hu
  clear hu
  rcases getH_cases xs id with ⟨h1, h2, _⟩ | ⟨i, x, h1, h2, h3, h4, _⟩
  · have e1 : catchH xs id item state unt = (9, []) := by unfold catchH; rw [if_pos h1]
    rw [e1]
    rw [h2] at hf
    unfold hoV ho0 at hf
    have HF := hide hf
    clear hf hsl hs h1 h2 e1
    go_enter Try.func25, Try.ntmps25
    go_wp2_with fail
    refine HF.out.mono ?_
    rintro e w1 ⟨rfl, hb⟩
    have B1 := hide hb
    have hz1 := B1.out.size
    clear hb
    go_wp2
    go_ret2
    exact ResH.nil (B1.out.alloc hz1 _)
  · rw [h4] at hf
    unfold hoV at hf
    simp only at hf
    have HF := hide hf
    have hcs := catch_some (item := item) (state := state) (unt := unt) h1 h4
    have H2 := hide h2
    clear hf hs h1 h2 h3 h4
    have hq0 : winB item 1 9999 = idB item := rfl
    cases hq : idB item with
    | false =>
      rw [hq] at HQ hq0
      clear hq
      have e1 : catchH xs id item state unt = (1, []) := by rw [hcs]; unfold catchA; rw [hq0]; rfl
      rw [e1]
      clear hcs e1 hq0
      go_enter Try.func25, Try.ntmps25
      go_wp2_with fail
      refine HF.out.mono ?_
      rintro e w1 ⟨rfl, hb⟩
      have B1 := hide hb
      have hz1 := B1.out.size
      clear hb
      go_wp2_with (first | (go_at_call 50; with_reducible refine (HQ.out _).mono ?_; rintro e w_ ⟨rfl, rfl⟩) | (go_at_call 51; with_reducible refine (HD.out _).mono ?_; rintro e w_ ⟨rfl, rfl⟩))
      go_ret2
      exact ResH.nil (B1.out.alloc hz1 _)
    | true =>
      rw [hq] at HQ hq0
      clear hq
      have w3 := hq0
      clear hq0
      by_cases s3 : state = 3
      · subst s3
        by_cases u1 : unt < 1
        · have w4 : winB unt 1 109572 = false := by unfold winB; simp; omega
          have e1 : catchH xs id item 3 unt = (1, []) := by rw [hcs]; unfold catchA; rw [w3, w4]; rfl
          rw [e1]
          clear hcs e1 w3 w4
          go_enter Try.func25, Try.ntmps25
          go_wp2_with fail
          refine HF.out.mono ?_
          rintro e w1 ⟨rfl, hb⟩
          have B1 := hide hb
          have hz1 := B1.out.size
          clear hb
          go_wp2_with (first | (go_at_call 50; with_reducible refine (HQ.out _).mono ?_; rintro e w_ ⟨rfl, rfl⟩) | (go_at_call 51; with_reducible refine (HD.out _).mono ?_; rintro e w_ ⟨rfl, rfl⟩))
          go_ret2
          exact ResH.nil (B1.out.alloc hz1 _)
        · cases hd : dayB unt with
          | false =>
            have w4 : winB unt 1 109572 = false := by rw [win_day u1]; exact hd
            rw [hd] at HD
            clear hd
            have e1 : catchH xs id item 3 unt = (1, []) := by rw [hcs]; unfold catchA; rw [w3, w4]; rfl
            rw [e1]
            clear hcs e1 w3 w4
            go_enter Try.func25, Try.ntmps25
            go_wp2_with fail
            refine HF.out.mono ?_
            rintro e w1 ⟨rfl, hb⟩
            have B1 := hide hb
            have hz1 := B1.out.size
            clear hb
            go_wp2_with (first | (go_at_call 50; with_reducible refine (HQ.out _).mono ?_; rintro e w_ ⟨rfl, rfl⟩) | (go_at_call 51; with_reducible refine (HD.out _).mono ?_; rintro e w_ ⟨rfl, rfl⟩))
            go_ret2
            exact ResH.nil (B1.out.alloc hz1 _)
          | true =>
            have w4 : winB unt 1 109572 = true := by rw [win_day u1]; exact hd
            rw [hd] at HD
            clear hd
            have a3 : catchA item 3 unt = false := by unfold catchA; simp [w3, w4]
            by_cases t1 : (x.st != 1) = true
            · by_cases t2 : (x.st != 2) = true
              · have e1 : catchH xs id item 3 unt = (12, []) := by rw [hcs]; rw [a3]; simp [catchB, t1, t2]
                rw [e1]
                clear hcs e1 a3 w3 w4
                go_enter Try.func25, Try.ntmps25
                go_wp2_with fail
                refine HF.out.mono ?_
                rintro e w1 ⟨rfl, hb⟩
                have B1 := hide hb
                have hz1 := B1.out.size
                clear hb
                go_wp2_with (first | (go_at_call 50; with_reducible refine (HQ.out _).mono ?_; rintro e w_ ⟨rfl, rfl⟩) | (go_at_call 51; with_reducible refine (HD.out _).mono ?_; rintro e w_ ⟨rfl, rfl⟩))
                go_ret2
                exact ResH.nil (B1.out.alloc hz1 _)
              · have t2' : (x.st != 2) = false := by simpa using t2
                clear t2
                by_cases t3 : (x.got != item) = true
                · have e1 : catchH xs id item 3 unt = (12, []) := by rw [hcs]; rw [a3]; simp [catchB, t1, t2', t3]
                  rw [e1]
                  clear hcs e1 a3 w3 w4
                  go_enter Try.func25, Try.ntmps25
                  go_wp2_with fail
                  refine HF.out.mono ?_
                  rintro e w1 ⟨rfl, hb⟩
                  have B1 := hide hb
                  have hz1 := B1.out.size
                  clear hb
                  go_wp2_with (first | (go_at_call 50; with_reducible refine (HQ.out _).mono ?_; rintro e w_ ⟨rfl, rfl⟩) | (go_at_call 51; with_reducible refine (HD.out _).mono ?_; rintro e w_ ⟨rfl, rfl⟩))
                  go_ret2
                  exact ResH.nil (B1.out.alloc hz1 _)
                · have t3' : (x.got != item) = false := by simpa using t3
                  clear t3
                  have hq : catchH xs id item 3 unt = if catchC xs id item = true then (7, []) else (0, xs.set i (catF item 3 unt x)) := by rw [hcs]; rw [a3]; simp [catchB, t2', t3']
                  have HCS := hide hq
                  clear hcs hq a3 w3 w4
                  generalize hr : catchH xs id item 3 unt = r at HCS ⊢
                  clear hr
                  have hp := fun (W : World) (hW : Below w.heap.size w W) => hrwith_any A xs.length c xs (catF item 3 unt x) W (hsl W hW) hn
                  rw [HU.out i x (catF item 3 unt x) H2.out rfl] at hp
                  have hyl : (xs.set i (catF item 3 unt x)).length = xs.length := List.length_set
                  generalize xs.set i (catF item 3 unt x) = ys at hp hyl HCS
                  unfold hoV at hp
                  simp only [catF] at hp
                  have HP := hide hp
                  have HYL := hide hyl
                  clear hp hyl
                  go_enter Try.func25, Try.ntmps25
                  go_wp2_with fail
                  refine HF.out.mono ?_
                  rintro e w1 ⟨rfl, hb⟩
                  have B1 := hide hb
                  have hz1 := B1.out.size
                  clear hb
                  clear HF
                  have HS1 := hide (hsl _ (B1.out.alloc hz1 (.cells #[.int .i64 x.id, .int .i64 x.pat, .int .i64 x.rcd, .int .i64 x.itm, .int .i64 x.pk, .int .i64 x.plc, .int .i64 x.st, .int .i64 x.got, .int .i64 x.unt, .int .i64 x.slp, .int .i64 x.rnk] 47)))
                  clear hsl
                  go_wp2_with (first | (go_at_call 50; with_reducible refine (HQ.out _).mono ?_; rintro e w_ ⟨rfl, rfl⟩) | (go_at_call 51; with_reducible refine (HD.out _).mono ?_; rintro e w_ ⟨rfl, rfl⟩))
                  all_goals try (exfalso; omega)
                  go_loop [14] (fun i => ∃ k : Nat, k ≤ xs.length ∧ i = .int .i64 k ∧ ∀ y ∈ xs.take k, othP id item y = false) (fun i => xs.length - (intOf i).toNat)
                  case atStart => exact ⟨0, Nat.zero_le _, rfl, by simp⟩
                  case round =>
                    obtain ⟨k, hk, rfl, ha⟩ := hrel
                    by_cases hlt : k < xs.length
                    · obtain ⟨b, off, y, rfl, hbB, hy, c0, c1, c2, c3, c4, c5, c6, c7, c8, c9, c10⟩ := Hos_at HS1.out hlt
                      by_cases hq1 : (y.id != id) = true
                      · by_cases hq2 : (y.got == item) = true
                        · have HE := hide (catchC_true (List.mem_of_getElem? hy) (show othP id item y = true by unfold othP; rw [hq1, hq2]; rfl))
                          clear ha hy
                          go_wp2
                          go_ret2
                          rw [HCS.out, if_pos HE.out]
                          exact ResH.nil (B1.out.alloc hz1 _)
                        · have hq2' : (y.got == item) = false := by simpa using hq2
                          have HA := hide (oth_step hy ha (by unfold othP; rw [hq2']; rfl))
                          clear ha hy hq2
                          go_wp2
                          go_round
                          case rel => exact ⟨k + 1, by omega, by go_num, HA.out⟩
                          case measure => simp [intOf]; omega
                      · have hq1' : (y.id != id) = false := by simpa using hq1
                        have HA := hide (oth_step hy ha (by unfold othP; rw [hq1', Bool.and_false]))
                        clear ha hy hq1
                        go_wp2
                        go_round
                        case rel => exact ⟨k + 1, by omega, by go_num, HA.out⟩
                        case measure => simp [intOf]; omega
                    · have hcc : catchC xs id item = false := catchC_false (by rw [List.take_of_length_le (by omega)] at ha; exact ha)
                      have HE := hide (show r = (0, ys) by rw [HCS.out, hcc]; rfl)
                      clear ha hcc
                      go_wp2_with fail
                      refine (HP.out _ (B1.out.alloc hz1 _)).mono ?_
                      rintro e w3 ⟨v, rfl, hown, hb3⟩
                      have B3 := hide ((B1.out.alloc hz1 _).trans (hb3.mono (by first | (simp; done) | (simp; omega))))
                      obtain ⟨A1, c1', hv, hsl3⟩ := Hoo_sl hown (by rw [HYL.out]; omega)
                      subst hv
                      have HS3 := hide hsl3
                      clear hown hb3 hsl3
                      go_wp2
                      go_ret2
                      rw [HE.out]
                      exact ⟨_, _, _, rfl, HS3.out, B3.out⟩
            · have t1' : (x.st != 1) = false := by simpa using t1
              clear t1
              have hq : catchH xs id item 3 unt = if catchC xs id item = true then (7, []) else (0, xs.set i (catF item 3 unt x)) := by rw [hcs]; rw [a3]; simp [catchB, t1']
              have HCS := hide hq
              clear hcs hq a3 w3 w4
              generalize hr : catchH xs id item 3 unt = r at HCS ⊢
              clear hr
              have hp := fun (W : World) (hW : Below w.heap.size w W) => hrwith_any A xs.length c xs (catF item 3 unt x) W (hsl W hW) hn
              rw [HU.out i x (catF item 3 unt x) H2.out rfl] at hp
              have hyl : (xs.set i (catF item 3 unt x)).length = xs.length := List.length_set
              generalize xs.set i (catF item 3 unt x) = ys at hp hyl HCS
              unfold hoV at hp
              simp only [catF] at hp
              have HP := hide hp
              have HYL := hide hyl
              clear hp hyl
              go_enter Try.func25, Try.ntmps25
              go_wp2_with fail
              refine HF.out.mono ?_
              rintro e w1 ⟨rfl, hb⟩
              have B1 := hide hb
              have hz1 := B1.out.size
              clear hb
              clear HF
              have HS1 := hide (hsl _ (B1.out.alloc hz1 (.cells #[.int .i64 x.id, .int .i64 x.pat, .int .i64 x.rcd, .int .i64 x.itm, .int .i64 x.pk, .int .i64 x.plc, .int .i64 x.st, .int .i64 x.got, .int .i64 x.unt, .int .i64 x.slp, .int .i64 x.rnk] 47)))
              clear hsl
              go_wp2_with (first | (go_at_call 50; with_reducible refine (HQ.out _).mono ?_; rintro e w_ ⟨rfl, rfl⟩) | (go_at_call 51; with_reducible refine (HD.out _).mono ?_; rintro e w_ ⟨rfl, rfl⟩))
              all_goals try (exfalso; omega)
              go_loop [14] (fun i => ∃ k : Nat, k ≤ xs.length ∧ i = .int .i64 k ∧ ∀ y ∈ xs.take k, othP id item y = false) (fun i => xs.length - (intOf i).toNat)
              case atStart => exact ⟨0, Nat.zero_le _, rfl, by simp⟩
              case round =>
                obtain ⟨k, hk, rfl, ha⟩ := hrel
                by_cases hlt : k < xs.length
                · obtain ⟨b, off, y, rfl, hbB, hy, c0, c1, c2, c3, c4, c5, c6, c7, c8, c9, c10⟩ := Hos_at HS1.out hlt
                  by_cases hq1 : (y.id != id) = true
                  · by_cases hq2 : (y.got == item) = true
                    · have HE := hide (catchC_true (List.mem_of_getElem? hy) (show othP id item y = true by unfold othP; rw [hq1, hq2]; rfl))
                      clear ha hy
                      go_wp2
                      go_ret2
                      rw [HCS.out, if_pos HE.out]
                      exact ResH.nil (B1.out.alloc hz1 _)
                    · have hq2' : (y.got == item) = false := by simpa using hq2
                      have HA := hide (oth_step hy ha (by unfold othP; rw [hq2']; rfl))
                      clear ha hy hq2
                      go_wp2
                      go_round
                      case rel => exact ⟨k + 1, by omega, by go_num, HA.out⟩
                      case measure => simp [intOf]; omega
                  · have hq1' : (y.id != id) = false := by simpa using hq1
                    have HA := hide (oth_step hy ha (by unfold othP; rw [hq1', Bool.and_false]))
                    clear ha hy hq1
                    go_wp2
                    go_round
                    case rel => exact ⟨k + 1, by omega, by go_num, HA.out⟩
                    case measure => simp [intOf]; omega
                · have hcc : catchC xs id item = false := catchC_false (by rw [List.take_of_length_le (by omega)] at ha; exact ha)
                  have HE := hide (show r = (0, ys) by rw [HCS.out, hcc]; rfl)
                  clear ha hcc
                  go_wp2_with fail
                  refine (HP.out _ (B1.out.alloc hz1 _)).mono ?_
                  rintro e w3 ⟨v, rfl, hown, hb3⟩
                  have B3 := hide ((B1.out.alloc hz1 _).trans (hb3.mono (by first | (simp; done) | (simp; omega))))
                  obtain ⟨A1, c1', hv, hsl3⟩ := Hoo_sl hown (by rw [HYL.out]; omega)
                  subst hv
                  have HS3 := hide hsl3
                  clear hown hb3 hsl3
                  go_wp2
                  go_ret2
                  rw [HE.out]
                  exact ⟨_, _, _, rfl, HS3.out, B3.out⟩
      · by_cases s2 : state = 2
        · subst s2
          by_cases u0 : unt = 0
          · subst u0
            have a3 : catchA item 2 0 = false := by unfold catchA; simp [w3]
            by_cases t1 : (x.st != 1) = true
            · by_cases t2 : (x.st != 2) = true
              · have e1 : catchH xs id item 2 0 = (12, []) := by rw [hcs]; rw [a3]; simp [catchB, t1]
                rw [e1]
                clear hcs e1 a3 w3
                go_enter Try.func25, Try.ntmps25
                go_wp2_with fail
                refine HF.out.mono ?_
                rintro e w1 ⟨rfl, hb⟩
                have B1 := hide hb
                have hz1 := B1.out.size
                clear hb
                go_wp2_with (first | (go_at_call 50; with_reducible refine (HQ.out _).mono ?_; rintro e w_ ⟨rfl, rfl⟩) | (go_at_call 51; with_reducible refine (HD.out _).mono ?_; rintro e w_ ⟨rfl, rfl⟩))
                go_ret2
                exact ResH.nil (B1.out.alloc hz1 _)
              · have t2' : (x.st != 2) = false := by simpa using t2
                clear t2
                by_cases t3 : (x.got != item) = true
                · have e1 : catchH xs id item 2 0 = (12, []) := by rw [hcs]; rw [a3]; simp [catchB, t1]
                  rw [e1]
                  clear hcs e1 a3 w3
                  go_enter Try.func25, Try.ntmps25
                  go_wp2_with fail
                  refine HF.out.mono ?_
                  rintro e w1 ⟨rfl, hb⟩
                  have B1 := hide hb
                  have hz1 := B1.out.size
                  clear hb
                  go_wp2_with (first | (go_at_call 50; with_reducible refine (HQ.out _).mono ?_; rintro e w_ ⟨rfl, rfl⟩) | (go_at_call 51; with_reducible refine (HD.out _).mono ?_; rintro e w_ ⟨rfl, rfl⟩))
                  go_ret2
                  exact ResH.nil (B1.out.alloc hz1 _)
                · have t3' : (x.got != item) = false := by simpa using t3
                  clear t3
                  have e1 : catchH xs id item 2 0 = (12, []) := by rw [hcs]; rw [a3]; simp [catchB, t1]
                  rw [e1]
                  clear hcs e1 a3 w3
                  go_enter Try.func25, Try.ntmps25
                  go_wp2_with fail
                  refine HF.out.mono ?_
                  rintro e w1 ⟨rfl, hb⟩
                  have B1 := hide hb
                  have hz1 := B1.out.size
                  clear hb
                  go_wp2_with (first | (go_at_call 50; with_reducible refine (HQ.out _).mono ?_; rintro e w_ ⟨rfl, rfl⟩) | (go_at_call 51; with_reducible refine (HD.out _).mono ?_; rintro e w_ ⟨rfl, rfl⟩))
                  go_ret2
                  exact ResH.nil (B1.out.alloc hz1 _)
            · have t1' : (x.st != 1) = false := by simpa using t1
              clear t1
              have hq : catchH xs id item 2 0 = if catchC xs id item = true then (7, []) else (0, xs.set i (catF item 2 0 x)) := by rw [hcs]; rw [a3]; simp [catchB, t1']
              have HCS := hide hq
              clear hcs hq a3 w3
              generalize hr : catchH xs id item 2 0 = r at HCS ⊢
              clear hr
              have hp := fun (W : World) (hW : Below w.heap.size w W) => hrwith_any A xs.length c xs (catF item 2 0 x) W (hsl W hW) hn
              rw [HU.out i x (catF item 2 0 x) H2.out rfl] at hp
              have hyl : (xs.set i (catF item 2 0 x)).length = xs.length := List.length_set
              generalize xs.set i (catF item 2 0 x) = ys at hp hyl HCS
              unfold hoV at hp
              simp only [catF] at hp
              have HP := hide hp
              have HYL := hide hyl
              clear hp hyl
              go_enter Try.func25, Try.ntmps25
              go_wp2_with fail
              refine HF.out.mono ?_
              rintro e w1 ⟨rfl, hb⟩
              have B1 := hide hb
              have hz1 := B1.out.size
              clear hb
              clear HF
              have HS1 := hide (hsl _ (B1.out.alloc hz1 (.cells #[.int .i64 x.id, .int .i64 x.pat, .int .i64 x.rcd, .int .i64 x.itm, .int .i64 x.pk, .int .i64 x.plc, .int .i64 x.st, .int .i64 x.got, .int .i64 x.unt, .int .i64 x.slp, .int .i64 x.rnk] 47)))
              clear hsl
              go_wp2_with (first | (go_at_call 50; with_reducible refine (HQ.out _).mono ?_; rintro e w_ ⟨rfl, rfl⟩) | (go_at_call 51; with_reducible refine (HD.out _).mono ?_; rintro e w_ ⟨rfl, rfl⟩))
              all_goals try (exfalso; omega)
              go_loop [14] (fun i => ∃ k : Nat, k ≤ xs.length ∧ i = .int .i64 k ∧ ∀ y ∈ xs.take k, othP id item y = false) (fun i => xs.length - (intOf i).toNat)
              case atStart => exact ⟨0, Nat.zero_le _, rfl, by simp⟩
              case round =>
                obtain ⟨k, hk, rfl, ha⟩ := hrel
                by_cases hlt : k < xs.length
                · obtain ⟨b, off, y, rfl, hbB, hy, c0, c1, c2, c3, c4, c5, c6, c7, c8, c9, c10⟩ := Hos_at HS1.out hlt
                  by_cases hq1 : (y.id != id) = true
                  · by_cases hq2 : (y.got == item) = true
                    · have HE := hide (catchC_true (List.mem_of_getElem? hy) (show othP id item y = true by unfold othP; rw [hq1, hq2]; rfl))
                      clear ha hy
                      go_wp2
                      go_ret2
                      rw [HCS.out, if_pos HE.out]
                      exact ResH.nil (B1.out.alloc hz1 _)
                    · have hq2' : (y.got == item) = false := by simpa using hq2
                      have HA := hide (oth_step hy ha (by unfold othP; rw [hq2']; rfl))
                      clear ha hy hq2
                      go_wp2
                      go_round
                      case rel => exact ⟨k + 1, by omega, by go_num, HA.out⟩
                      case measure => simp [intOf]; omega
                  · have hq1' : (y.id != id) = false := by simpa using hq1
                    have HA := hide (oth_step hy ha (by unfold othP; rw [hq1', Bool.and_false]))
                    clear ha hy hq1
                    go_wp2
                    go_round
                    case rel => exact ⟨k + 1, by omega, by go_num, HA.out⟩
                    case measure => simp [intOf]; omega
                · have hcc : catchC xs id item = false := catchC_false (by rw [List.take_of_length_le (by omega)] at ha; exact ha)
                  have HE := hide (show r = (0, ys) by rw [HCS.out, hcc]; rfl)
                  clear ha hcc
                  go_wp2_with fail
                  refine (HP.out _ (B1.out.alloc hz1 _)).mono ?_
                  rintro e w3 ⟨v, rfl, hown, hb3⟩
                  have B3 := hide ((B1.out.alloc hz1 _).trans (hb3.mono (by first | (simp; done) | (simp; omega))))
                  obtain ⟨A1, c1', hv, hsl3⟩ := Hoo_sl hown (by rw [HYL.out]; omega)
                  subst hv
                  have HS3 := hide hsl3
                  clear hown hb3 hsl3
                  go_wp2
                  go_ret2
                  rw [HE.out]
                  exact ⟨_, _, _, rfl, HS3.out, B3.out⟩
          · have b0 : (unt != 0) = true := by simpa using u0
            have e1 : catchH xs id item 2 unt = (1, []) := by rw [hcs]; unfold catchA; rw [w3, b0]; rfl
            rw [e1]
            clear hcs e1 w3 u0
            go_enter Try.func25, Try.ntmps25
            go_wp2_with fail
            refine HF.out.mono ?_
            rintro e w1 ⟨rfl, hb⟩
            have B1 := hide hb
            have hz1 := B1.out.size
            clear hb
            go_wp2_with (first | (go_at_call 50; with_reducible refine (HQ.out _).mono ?_; rintro e w_ ⟨rfl, rfl⟩) | (go_at_call 51; with_reducible refine (HD.out _).mono ?_; rintro e w_ ⟨rfl, rfl⟩))
            go_ret2
            exact ResH.nil (B1.out.alloc hz1 _)
        · have b2 : (state != 2) = true := by simpa using s2
          have b3 : (state != 3) = true := by simpa using s3
          have b3' : (state == 3) = false := by simpa using s3
          have e1 : catchH xs id item state unt = (1, []) := by rw [hcs]; unfold catchA; rw [w3, b2, b3']; rfl
          rw [e1]
          clear hcs e1 w3 s2 s3
          go_enter Try.func25, Try.ntmps25
          go_wp2_with fail
          refine HF.out.mono ?_
          rintro e w1 ⟨rfl, hb⟩
          have B1 := hide hb
          have hz1 := B1.out.size
          clear hb
          go_wp2_with (first | (go_at_call 50; with_reducible refine (HQ.out _).mono ?_; rintro e w_ ⟨rfl, rfl⟩) | (go_at_call 51; with_reducible refine (HD.out _).mono ?_; rintro e w_ ⟨rfl, rfl⟩))
          go_ret2
          exact ResH.nil (B1.out.alloc hz1 _)
end Go.Proofs.Ytgjhjabnnhhkbaa
