/- Walks: Catch, Drop, Sleep of hold. Printed by gen_ho_ops.py. -/
import Derived.Test.YtgjhjabnnhhkbaaHoH
import Derived.BigRegion
namespace Go.Proofs.Ytgjhjabnnhhkbaa
open Go.RowKit

def catchA (item state unt : Int) : Bool := !winB item 1 9999 || (!(state == 3 && winB unt 1 109572) && (state != 2 || unt != 0))
def catchB (item state : Int) (h : Ho) : Bool := h.st != 1 && (h.st != 2 || h.got != item || state != 3)
def othP (id item : Int) (o : Ho) : Bool := o.got == item && o.id != id
def catchC (xs : List Ho) (id item : Int) : Bool := decide (0 ≤ ix (othP id item) xs)
def catF (item state unt : Int) (h : Ho) : Ho := { h with st := state, got := item, unt := unt }
def catchH (xs : List Ho) (id item state unt : Int) : Int × List Ho :=
  if atH xs id = -1 then (9, []) else if catchA item state unt = true then (1, []) else if catchB item state (getH xs id).1 = true then (12, []) else if catchC xs id item = true then (7, []) else (0, xs.set (atH xs id).toNat (catF item state unt (getH xs id).1))
theorem catch_some {xs : List Ho} {id item state unt : Int} {i : Nat} {x : Ho} (h : atH xs id = i) (hg : getH xs id = (x, true)) :
    catchH xs id item state unt = if catchA item state unt = true then (1, []) else if catchB item state x = true then (12, []) else if catchC xs id item = true then (7, []) else (0, xs.set i (catF item state unt x)) := by
  unfold catchH; rw [if_neg (by omega), h, hg]; rfl
theorem catch1_any (o : Ho) (item id : Int) (a7 a6 : Nat) (w : World) (h7 : a7 < w.heap.size) (h6 : a6 < w.heap.size) (c7 : w.cell? ⟨a7, 0, none⟩ = some (.int .i64 item)) (c6 : w.cell? ⟨a6, 0, none⟩ = some (.int .i64 id)) :
    Calls Try.prog 48 #[hoV o, .pointer (some ⟨a7, 0, none⟩), .pointer (some ⟨a6, 0, none⟩)] w fun e w' => e = .returned (.bool (othP id item o)) ∧ Below w.heap.size w w' := by
  unfold hoV
  by_cases h : (o.got == item) = true
  · have e : othP id item o = (o.id != id) := by unfold othP; rw [h]; rfl
    rw [e]
    clear e
    go_enter Try.func48, Try.ntmps48
    go_wp2
    go_ret
    exact ⟨rfl, (Below.refl _ _).alloc (Nat.le_refl _) _⟩
  · have h' : (o.got == item) = false := by simpa using h
    have e : othP id item o = false := by unfold othP; rw [h']; rfl
    rw [e]
    clear e h
    go_enter Try.func48, Try.ntmps48
    go_wp2
    go_ret
    exact ⟨rfl, (Below.refl _ _).alloc (Nat.le_refl _) _⟩
theorem e_catch1 : ∀ args w, (callFunc 48 args).run Try.prog w = .ok (.enter 48 args) w := enters_of Try.func48 (by kernel_rfl) rfl

theorem ne2 {s : Int} (h : (s == 3) = true) : (s != 2) = true := by
  obtain rfl : s = 3 := by simpa using h
  decide
theorem ne3 {s : Int} (h : (s == 3) = true) : (s != 3) = false := by
  obtain rfl : s = 3 := by simpa using h
  decide
theorem ne3' {s : Int} (h : (s == 3) = false) : (s != 3) = true := by simpa using h
set_option maxRecDepth 100000 in
set_option maxHeartbeats 8000000 in
theorem hcatch_any (A : Option Addr) (n c : Nat) (xs : List Ho) (id item state unt : Int) (w : World) (hs : Hos w w.heap.size A n c xs) (hn : n ≤ 1000) :
    Calls Try.prog 24 #[.slice A n c, .int .i64 id, .int .i64 item, .int .i64 state, .int .i64 unt] w (ResH w (catchH xs id item state unt)) := by
  obtain rfl := hs.len
  have hle := hs.le
  have hbig := hs.big
  have hsl : ∀ W, Below w.heap.size w W → Hos W W.heap.size A xs.length c xs := fun W hW => (hs.below hW).more hW.size
  have B0 := hide (((Below.refl w.heap.size w).alloc (Nat.le_refl _) (.cells #[.int .i64 id] 3)).alloc (by simp) (.cells #[.int .i64 item] 3))
  have Z0 := hide (Below.refl (w.heap.size + 2) ((w.alloc (.cells #[.int .i64 id] 3)).alloc (.cells #[.int .i64 item] 3)))
  have HX := hide (fun W (hW : Below (w.heap.size + 2) ((w.alloc (.cells #[.int .i64 id] 3)).alloc (.cells #[.int .i64 item] 3)) W) => And.intro (((Box.new w 3 #[.int .i64 id]).alloc (.cells #[.int .i64 item] 3)).below hW (by omega)) ((show Box ((w.alloc (.cells #[.int .i64 id] 3)).alloc (.cells #[.int .i64 item] 3)) (w.heap.size + 1) 3 #[.int .i64 item] by have h := Box.new (w.alloc (.cells #[.int .i64 id] 3)) 3 #[.int .i64 item]; rwa [World.size_alloc] at h).below hW (by omega)))
  have hf := hfind_any A xs.length c xs id _ (hsl _ B0.out)
  have HW1 := hide (fun W => hwin_any unt 1 109572 W)
  have HW2 := hide (fun W => hwin_any item 1 9999 W)
  rcases getH_cases xs id with ⟨h1, h2, _⟩ | ⟨i, x, h1, h2, h3, h4, _⟩
  · have e1 : catchH xs id item state unt = (9, []) := by unfold catchH; rw [if_pos h1]
    rw [e1]
    rw [h1] at hf
    have HF := hide hf
    clear hf hsl hs h1 h2 e1
    go_enter Try.func24, Try.ntmps24
    go_wp2_with fail
    refine HF.out.mono ?_
    rintro e w1 ⟨rfl, hb⟩
    have B1 := hide (B0.out.trans (hb.mono (by simp; omega)))
    clear hb
    go_wp2
    go_ret2
    exact ResH.nil B1.out
  · have hi : i < xs.length := (List.getElem?_eq_some_iff.1 h2).1
    rw [h1] at hf
    obtain ⟨b, off, y, rfl, hbB, hy, c0, c1, c2, c3, c4, c5, c6, c7, c8, c9, c10⟩ := Hos_at hs hi
    obtain rfl : x = y := by rw [hy] at h2; exact (Option.some.inj h2).symm
    have hpt := fun (W : World) (y : Ho) (hW : Below w.heap.size w W) => hput_any (some ⟨b, off, none⟩) xs.length c i y xs W (hsl W hW) hn hi
    have hco := fun (W : World) (hW : Below w.heap.size w W) h7 h6 c7 c6 => ho_containsFunc 48 #[.pointer (some ⟨w.heap.size + 1, 0, none⟩), .pointer (some ⟨w.heap.size, 0, none⟩)] (othP id item) e_catch1 (some ⟨b, off, none⟩) xs.length c xs W (hsl W hW)
      (fun W' o _ hb => catch1_any o item id (w.heap.size + 1) w.heap.size W' (Nat.lt_of_lt_of_le h7 hb.size) (Nat.lt_of_lt_of_le h6 hb.size) ((hb.cell (p := ⟨w.heap.size + 1, 0, none⟩) h7).trans c7) ((hb.cell (p := ⟨w.heap.size, 0, none⟩) h6).trans c6))
    have hcs := catch_some (item := item) (state := state) (unt := unt) h1 h4
    have HF := hide hf
    have hcd : catchC xs id item = decide (0 ≤ ix (othP id item) xs) := rfl
    rw [← hcd] at hco
    clear hf hsl hs h1 h2 h3 h4 hy hcd
    cases HQ1 : winB unt 1 109572 <;> cases HQ2 : winB item 1 9999
    · by_cases s3 : (state == 3) = true
      · have e1 : catchH xs id item state unt = (1, []) := by rw [hcs]; unfold catchA catchB; simp_all
        rw [e1]
        rw [HQ1] at HW1
        rw [HQ2] at HW2
        clear hcs e1 hpt hco HQ1 HQ2
        go_enter Try.func24, Try.ntmps24
        go_wp2_with fail
        refine HF.out.mono ?_
        rintro e w1 ⟨rfl, hb⟩
        have B1 := hide (B0.out.trans (hb.mono (by simp; omega)))
        have Z1 := hide (Z0.out.trans (hb.mono (by simp)))
        have hz1 : w.heap.size + 2 ≤ w1.heap.size := by have := Z1.out.size; simpa using this
        obtain ⟨bx6, bx7⟩ := HX.out _ Z1.out
        have k6 := bx6.cell 0
        have k7 := bx7.cell 0
        simp at k6 k7
        have hcc : ∀ o, w1.cell? ⟨b, o, none⟩ = w.cell? ⟨b, o, none⟩ := fun o => B1.out.cell (p := ⟨b, o, none⟩) hbB
        rw [← hcc] at c0 c1 c2 c3 c4 c5 c6 c7 c8 c9 c10
        clear hcc hb bx6 bx7
        have k6' := fun o => (World.cell?_alloc_lt w1 o ⟨w.heap.size, 0, none⟩ (show w.heap.size < w1.heap.size by omega)).trans k6
        have k7' := fun o => (World.cell?_alloc_lt w1 o ⟨w.heap.size + 1, 0, none⟩ (show w.heap.size + 1 < w1.heap.size by omega)).trans k7
        have hbB1 : b < w1.heap.size := by omega
        go_wp2_with (first | (go_at_call 46; with_reducible refine (HW1.out _).mono ?_; rintro e w_ ⟨rfl, rfl⟩) | (go_at_call 46; with_reducible refine (HW2.out _).mono ?_; rintro e w_ ⟨rfl, rfl⟩))
        go_ret2
        exact ResH.nil (B1.out)
      · have s3' : (state == 3) = false := by simpa using s3
        have e1 : catchH xs id item state unt = (1, []) := by rw [hcs]; unfold catchA catchB; simp_all
        rw [e1]
        rw [HQ1] at HW1
        rw [HQ2] at HW2
        clear hcs e1 hpt hco HQ1 HQ2
        go_enter Try.func24, Try.ntmps24
        go_wp2_with fail
        refine HF.out.mono ?_
        rintro e w1 ⟨rfl, hb⟩
        have B1 := hide (B0.out.trans (hb.mono (by simp; omega)))
        have Z1 := hide (Z0.out.trans (hb.mono (by simp)))
        have hz1 : w.heap.size + 2 ≤ w1.heap.size := by have := Z1.out.size; simpa using this
        obtain ⟨bx6, bx7⟩ := HX.out _ Z1.out
        have k6 := bx6.cell 0
        have k7 := bx7.cell 0
        simp at k6 k7
        have hcc : ∀ o, w1.cell? ⟨b, o, none⟩ = w.cell? ⟨b, o, none⟩ := fun o => B1.out.cell (p := ⟨b, o, none⟩) hbB
        rw [← hcc] at c0 c1 c2 c3 c4 c5 c6 c7 c8 c9 c10
        clear hcc hb bx6 bx7
        have k6' := fun o => (World.cell?_alloc_lt w1 o ⟨w.heap.size, 0, none⟩ (show w.heap.size < w1.heap.size by omega)).trans k6
        have k7' := fun o => (World.cell?_alloc_lt w1 o ⟨w.heap.size + 1, 0, none⟩ (show w.heap.size + 1 < w1.heap.size by omega)).trans k7
        have hbB1 : b < w1.heap.size := by omega
        go_wp2_with (first | (go_at_call 46; with_reducible refine (HW1.out _).mono ?_; rintro e w_ ⟨rfl, rfl⟩) | (go_at_call 46; with_reducible refine (HW2.out _).mono ?_; rintro e w_ ⟨rfl, rfl⟩))
        go_ret2
        exact ResH.nil (B1.out)
    · by_cases s3 : (state == 3) = true
      · have s2 : (state != 2) = true := ne2 s3
        have e1 : catchH xs id item state unt = (1, []) := by rw [hcs]; unfold catchA catchB; simp_all
        rw [e1]
        rw [HQ1] at HW1
        rw [HQ2] at HW2
        clear hcs e1 hpt hco HQ1 HQ2
        go_enter Try.func24, Try.ntmps24
        go_wp2_with fail
        refine HF.out.mono ?_
        rintro e w1 ⟨rfl, hb⟩
        have B1 := hide (B0.out.trans (hb.mono (by simp; omega)))
        have Z1 := hide (Z0.out.trans (hb.mono (by simp)))
        have hz1 : w.heap.size + 2 ≤ w1.heap.size := by have := Z1.out.size; simpa using this
        obtain ⟨bx6, bx7⟩ := HX.out _ Z1.out
        have k6 := bx6.cell 0
        have k7 := bx7.cell 0
        simp at k6 k7
        have hcc : ∀ o, w1.cell? ⟨b, o, none⟩ = w.cell? ⟨b, o, none⟩ := fun o => B1.out.cell (p := ⟨b, o, none⟩) hbB
        rw [← hcc] at c0 c1 c2 c3 c4 c5 c6 c7 c8 c9 c10
        clear hcc hb bx6 bx7
        have k6' := fun o => (World.cell?_alloc_lt w1 o ⟨w.heap.size, 0, none⟩ (show w.heap.size < w1.heap.size by omega)).trans k6
        have k7' := fun o => (World.cell?_alloc_lt w1 o ⟨w.heap.size + 1, 0, none⟩ (show w.heap.size + 1 < w1.heap.size by omega)).trans k7
        have hbB1 : b < w1.heap.size := by omega
        go_wp2_with (first | (go_at_call 46; with_reducible refine (HW1.out _).mono ?_; rintro e w_ ⟨rfl, rfl⟩) | (go_at_call 46; with_reducible refine (HW2.out _).mono ?_; rintro e w_ ⟨rfl, rfl⟩))
        go_ret2
        exact ResH.nil (B1.out)
      · have s3' : (state == 3) = false := by simpa using s3
        have s3n : (state != 3) = true := ne3' s3'
        clear s3
        by_cases s2 : (state != 2) = true
        · have e1 : catchH xs id item state unt = (1, []) := by rw [hcs]; unfold catchA catchB; simp_all
          rw [e1]
          rw [HQ1] at HW1
          rw [HQ2] at HW2
          clear hcs e1 hpt hco HQ1 HQ2
          go_enter Try.func24, Try.ntmps24
          go_wp2_with fail
          refine HF.out.mono ?_
          rintro e w1 ⟨rfl, hb⟩
          have B1 := hide (B0.out.trans (hb.mono (by simp; omega)))
          have Z1 := hide (Z0.out.trans (hb.mono (by simp)))
          have hz1 : w.heap.size + 2 ≤ w1.heap.size := by have := Z1.out.size; simpa using this
          obtain ⟨bx6, bx7⟩ := HX.out _ Z1.out
          have k6 := bx6.cell 0
          have k7 := bx7.cell 0
          simp at k6 k7
          have hcc : ∀ o, w1.cell? ⟨b, o, none⟩ = w.cell? ⟨b, o, none⟩ := fun o => B1.out.cell (p := ⟨b, o, none⟩) hbB
          rw [← hcc] at c0 c1 c2 c3 c4 c5 c6 c7 c8 c9 c10
          clear hcc hb bx6 bx7
          have k6' := fun o => (World.cell?_alloc_lt w1 o ⟨w.heap.size, 0, none⟩ (show w.heap.size < w1.heap.size by omega)).trans k6
          have k7' := fun o => (World.cell?_alloc_lt w1 o ⟨w.heap.size + 1, 0, none⟩ (show w.heap.size + 1 < w1.heap.size by omega)).trans k7
          have hbB1 : b < w1.heap.size := by omega
          go_wp2_with (first | (go_at_call 46; with_reducible refine (HW1.out _).mono ?_; rintro e w_ ⟨rfl, rfl⟩) | (go_at_call 46; with_reducible refine (HW2.out _).mono ?_; rintro e w_ ⟨rfl, rfl⟩))
          go_ret2
          exact ResH.nil (B1.out)
        · have s2' : (state != 2) = false := by simpa using s2
          clear s2
          by_cases u0 : (unt != 0) = true
          · have e1 : catchH xs id item state unt = (1, []) := by rw [hcs]; unfold catchA catchB; simp_all
            rw [e1]
            rw [HQ1] at HW1
            rw [HQ2] at HW2
            clear hcs e1 hpt hco HQ1 HQ2
            go_enter Try.func24, Try.ntmps24
            go_wp2_with fail
            refine HF.out.mono ?_
            rintro e w1 ⟨rfl, hb⟩
            have B1 := hide (B0.out.trans (hb.mono (by simp; omega)))
            have Z1 := hide (Z0.out.trans (hb.mono (by simp)))
            have hz1 : w.heap.size + 2 ≤ w1.heap.size := by have := Z1.out.size; simpa using this
            obtain ⟨bx6, bx7⟩ := HX.out _ Z1.out
            have k6 := bx6.cell 0
            have k7 := bx7.cell 0
            simp at k6 k7
            have hcc : ∀ o, w1.cell? ⟨b, o, none⟩ = w.cell? ⟨b, o, none⟩ := fun o => B1.out.cell (p := ⟨b, o, none⟩) hbB
            rw [← hcc] at c0 c1 c2 c3 c4 c5 c6 c7 c8 c9 c10
            clear hcc hb bx6 bx7
            have k6' := fun o => (World.cell?_alloc_lt w1 o ⟨w.heap.size, 0, none⟩ (show w.heap.size < w1.heap.size by omega)).trans k6
            have k7' := fun o => (World.cell?_alloc_lt w1 o ⟨w.heap.size + 1, 0, none⟩ (show w.heap.size + 1 < w1.heap.size by omega)).trans k7
            have hbB1 : b < w1.heap.size := by omega
            go_wp2_with (first | (go_at_call 46; with_reducible refine (HW1.out _).mono ?_; rintro e w_ ⟨rfl, rfl⟩) | (go_at_call 46; with_reducible refine (HW2.out _).mono ?_; rintro e w_ ⟨rfl, rfl⟩))
            go_ret2
            exact ResH.nil (B1.out)
          · have u0' : (unt != 0) = false := by simpa using u0
            clear u0
            by_cases t1 : (x.st != 1) = true
            · by_cases t2 : (x.st != 2) = true
              · have e1 : catchH xs id item state unt = (12, []) := by rw [hcs]; unfold catchA catchB; simp_all
                rw [e1]
                rw [HQ1] at HW1
                rw [HQ2] at HW2
                clear hcs e1 hpt hco HQ1 HQ2
                go_enter Try.func24, Try.ntmps24
                go_wp2_with fail
                refine HF.out.mono ?_
                rintro e w1 ⟨rfl, hb⟩
                have B1 := hide (B0.out.trans (hb.mono (by simp; omega)))
                have Z1 := hide (Z0.out.trans (hb.mono (by simp)))
                have hz1 : w.heap.size + 2 ≤ w1.heap.size := by have := Z1.out.size; simpa using this
                obtain ⟨bx6, bx7⟩ := HX.out _ Z1.out
                have k6 := bx6.cell 0
                have k7 := bx7.cell 0
                simp at k6 k7
                have hcc : ∀ o, w1.cell? ⟨b, o, none⟩ = w.cell? ⟨b, o, none⟩ := fun o => B1.out.cell (p := ⟨b, o, none⟩) hbB
                rw [← hcc] at c0 c1 c2 c3 c4 c5 c6 c7 c8 c9 c10
                clear hcc hb bx6 bx7
                have k6' := fun o => (World.cell?_alloc_lt w1 o ⟨w.heap.size, 0, none⟩ (show w.heap.size < w1.heap.size by omega)).trans k6
                have k7' := fun o => (World.cell?_alloc_lt w1 o ⟨w.heap.size + 1, 0, none⟩ (show w.heap.size + 1 < w1.heap.size by omega)).trans k7
                have hbB1 : b < w1.heap.size := by omega
                go_wp2_with (first | (go_at_call 46; with_reducible refine (HW1.out _).mono ?_; rintro e w_ ⟨rfl, rfl⟩) | (go_at_call 46; with_reducible refine (HW2.out _).mono ?_; rintro e w_ ⟨rfl, rfl⟩))
                go_ret2
                exact ResH.nil (B1.out.alloc (by omega) _)
              · have t2' : (x.st != 2) = false := by simpa using t2
                clear t2
                by_cases t3 : (x.got != item) = true
                · have e1 : catchH xs id item state unt = (12, []) := by rw [hcs]; unfold catchA catchB; simp_all
                  rw [e1]
                  rw [HQ1] at HW1
                  rw [HQ2] at HW2
                  clear hcs e1 hpt hco HQ1 HQ2
                  go_enter Try.func24, Try.ntmps24
                  go_wp2_with fail
                  refine HF.out.mono ?_
                  rintro e w1 ⟨rfl, hb⟩
                  have B1 := hide (B0.out.trans (hb.mono (by simp; omega)))
                  have Z1 := hide (Z0.out.trans (hb.mono (by simp)))
                  have hz1 : w.heap.size + 2 ≤ w1.heap.size := by have := Z1.out.size; simpa using this
                  obtain ⟨bx6, bx7⟩ := HX.out _ Z1.out
                  have k6 := bx6.cell 0
                  have k7 := bx7.cell 0
                  simp at k6 k7
                  have hcc : ∀ o, w1.cell? ⟨b, o, none⟩ = w.cell? ⟨b, o, none⟩ := fun o => B1.out.cell (p := ⟨b, o, none⟩) hbB
                  rw [← hcc] at c0 c1 c2 c3 c4 c5 c6 c7 c8 c9 c10
                  clear hcc hb bx6 bx7
                  have k6' := fun o => (World.cell?_alloc_lt w1 o ⟨w.heap.size, 0, none⟩ (show w.heap.size < w1.heap.size by omega)).trans k6
                  have k7' := fun o => (World.cell?_alloc_lt w1 o ⟨w.heap.size + 1, 0, none⟩ (show w.heap.size + 1 < w1.heap.size by omega)).trans k7
                  have hbB1 : b < w1.heap.size := by omega
                  go_wp2_with (first | (go_at_call 46; with_reducible refine (HW1.out _).mono ?_; rintro e w_ ⟨rfl, rfl⟩) | (go_at_call 46; with_reducible refine (HW2.out _).mono ?_; rintro e w_ ⟨rfl, rfl⟩))
                  go_ret2
                  exact ResH.nil (B1.out.alloc (by omega) _)
                · have t3' : (x.got != item) = false := by simpa using t3
                  clear t3
                  have e1 : catchH xs id item state unt = (12, []) := by rw [hcs]; unfold catchA catchB; simp_all
                  rw [e1]
                  rw [HQ1] at HW1
                  rw [HQ2] at HW2
                  clear hcs e1 hpt hco HQ1 HQ2
                  go_enter Try.func24, Try.ntmps24
                  go_wp2_with fail
                  refine HF.out.mono ?_
                  rintro e w1 ⟨rfl, hb⟩
                  have B1 := hide (B0.out.trans (hb.mono (by simp; omega)))
                  have Z1 := hide (Z0.out.trans (hb.mono (by simp)))
                  have hz1 : w.heap.size + 2 ≤ w1.heap.size := by have := Z1.out.size; simpa using this
                  obtain ⟨bx6, bx7⟩ := HX.out _ Z1.out
                  have k6 := bx6.cell 0
                  have k7 := bx7.cell 0
                  simp at k6 k7
                  have hcc : ∀ o, w1.cell? ⟨b, o, none⟩ = w.cell? ⟨b, o, none⟩ := fun o => B1.out.cell (p := ⟨b, o, none⟩) hbB
                  rw [← hcc] at c0 c1 c2 c3 c4 c5 c6 c7 c8 c9 c10
                  clear hcc hb bx6 bx7
                  have k6' := fun o => (World.cell?_alloc_lt w1 o ⟨w.heap.size, 0, none⟩ (show w.heap.size < w1.heap.size by omega)).trans k6
                  have k7' := fun o => (World.cell?_alloc_lt w1 o ⟨w.heap.size + 1, 0, none⟩ (show w.heap.size + 1 < w1.heap.size by omega)).trans k7
                  have hbB1 : b < w1.heap.size := by omega
                  go_wp2_with (first | (go_at_call 46; with_reducible refine (HW1.out _).mono ?_; rintro e w_ ⟨rfl, rfl⟩) | (go_at_call 46; with_reducible refine (HW2.out _).mono ?_; rintro e w_ ⟨rfl, rfl⟩))
                  go_ret2
                  exact ResH.nil (B1.out.alloc (by omega) _)
            · have t1' : (x.st != 1) = false := by simpa using t1
              clear t1
              cases hC : catchC xs id item with
              | true =>
                have e1 : catchH xs id item state unt = (7, []) := by rw [hcs, hC]; unfold catchA catchB; simp_all
                rw [e1]
                rw [HQ1] at HW1
                rw [HQ2] at HW2
                rw [hC] at hco
                have HCO := hide hco
                clear hcs e1 hpt hco HQ1 HQ2 hC
                go_enter Try.func24, Try.ntmps24
                go_wp2_with fail
                refine HF.out.mono ?_
                rintro e w1 ⟨rfl, hb⟩
                have B1 := hide (B0.out.trans (hb.mono (by simp; omega)))
                have Z1 := hide (Z0.out.trans (hb.mono (by simp)))
                have hz1 : w.heap.size + 2 ≤ w1.heap.size := by have := Z1.out.size; simpa using this
                obtain ⟨bx6, bx7⟩ := HX.out _ Z1.out
                have k6 := bx6.cell 0
                have k7 := bx7.cell 0
                simp at k6 k7
                have hcc : ∀ o, w1.cell? ⟨b, o, none⟩ = w.cell? ⟨b, o, none⟩ := fun o => B1.out.cell (p := ⟨b, o, none⟩) hbB
                rw [← hcc] at c0 c1 c2 c3 c4 c5 c6 c7 c8 c9 c10
                clear hcc hb bx6 bx7
                have k6' := fun o => (World.cell?_alloc_lt w1 o ⟨w.heap.size, 0, none⟩ (show w.heap.size < w1.heap.size by omega)).trans k6
                have k7' := fun o => (World.cell?_alloc_lt w1 o ⟨w.heap.size + 1, 0, none⟩ (show w.heap.size + 1 < w1.heap.size by omega)).trans k7
                have hbB1 : b < w1.heap.size := by omega
                go_wp2_with (first | (go_at_call 46; with_reducible refine (HW1.out _).mono ?_; rintro e w_ ⟨rfl, rfl⟩) | (go_at_call 46; with_reducible refine (HW2.out _).mono ?_; rintro e w_ ⟨rfl, rfl⟩))
                have hW2 := hide (B1.out.alloc (by omega) (.cells (hoC x) 47))
                refine (HCO.out _ hW2.out (by simp; omega) (by simp; omega) (k7' _) (k6' _)).mono ?_
                rintro e w2 ⟨rfl, hb⟩
                have B2 := hide (hW2.out.trans (hb.mono (by simp; omega)))
                clear hb
                go_wp2
                go_ret2
                exact ResH.nil B2.out
              | false =>
                have e1 : catchH xs id item state unt = (0, xs.set i (catF item state unt x)) := by rw [hcs, hC]; unfold catchA catchB; simp_all
                rw [e1]
                rw [HQ1] at HW1
                rw [HQ2] at HW2
                rw [hC] at hco
                have HCO := hide hco
                have hp := fun W hW => hpt W (catF item state unt x) hW
                have hyl : (xs.set i (catF item state unt x)).length = xs.length := List.length_set
                generalize xs.set i (catF item state unt x) = ys at hp hyl ⊢
                unfold hoV at hp
                simp only [catF] at hp
                have HP := hide hp
                have HYL := hide hyl
                clear hcs e1 hpt hco HQ1 HQ2 hC hp hyl
                go_enter Try.func24, Try.ntmps24
                go_wp2_with fail
                refine HF.out.mono ?_
                rintro e w1 ⟨rfl, hb⟩
                have B1 := hide (B0.out.trans (hb.mono (by simp; omega)))
                have Z1 := hide (Z0.out.trans (hb.mono (by simp)))
                have hz1 : w.heap.size + 2 ≤ w1.heap.size := by have := Z1.out.size; simpa using this
                obtain ⟨bx6, bx7⟩ := HX.out _ Z1.out
                have k6 := bx6.cell 0
                have k7 := bx7.cell 0
                simp at k6 k7
                have hcc : ∀ o, w1.cell? ⟨b, o, none⟩ = w.cell? ⟨b, o, none⟩ := fun o => B1.out.cell (p := ⟨b, o, none⟩) hbB
                rw [← hcc] at c0 c1 c2 c3 c4 c5 c6 c7 c8 c9 c10
                clear hcc hb bx6 bx7
                have k6' := fun o => (World.cell?_alloc_lt w1 o ⟨w.heap.size, 0, none⟩ (show w.heap.size < w1.heap.size by omega)).trans k6
                have k7' := fun o => (World.cell?_alloc_lt w1 o ⟨w.heap.size + 1, 0, none⟩ (show w.heap.size + 1 < w1.heap.size by omega)).trans k7
                have hbB1 : b < w1.heap.size := by omega
                go_wp2_with (first | (go_at_call 46; with_reducible refine (HW1.out _).mono ?_; rintro e w_ ⟨rfl, rfl⟩) | (go_at_call 46; with_reducible refine (HW2.out _).mono ?_; rintro e w_ ⟨rfl, rfl⟩))
                have hW2 := hide (B1.out.alloc (by omega) (.cells (hoC x) 47))
                refine (HCO.out _ hW2.out (by simp; omega) (by simp; omega) (k7' _) (k6' _)).mono ?_
                rintro e w2 ⟨rfl, hb⟩
                have B2 := hide (hW2.out.trans (hb.mono (by simp; omega)))
                have hz2 : w1.heap.size < w2.heap.size := by have := hb.size; simp at this; omega
                obtain ⟨_, r0, r1, r2, r3, r4, r5, r6, r7, r8, r9, r10⟩ := ho_box (x := x) (Box.new w1 47 (hoC x)) (hb.mono (by simp))
                have bxx := (Box.new w1 47 (hoC x)).below hb (by simp)
                have hfz := fun j => bxx.frz j
                have j7 : w2.cell? ⟨w.heap.size + 1, 0, none⟩ = some (.int .i64 item) := ((hb.cell (p := ⟨w.heap.size + 1, 0, none⟩) (by simp; omega)).trans (World.cell?_alloc_lt _ _ _ (by simp; omega))).trans k7
                have hne : w.heap.size + 1 ≠ w1.heap.size := by omega
                have HBX := hide bxx
                clear hb k6 k7 k6' k7' bxx
                have hB3 := fun v6 v7 v8 => (((B2.out.setCell (p := ⟨w1.heap.size, 6, none⟩) (show w.heap.size ≤ w1.heap.size by omega) v6).setCell (p := ⟨w1.heap.size, 7, none⟩) (show w.heap.size ≤ w1.heap.size by omega) v7).setCell (p := ⟨w1.heap.size, 8, none⟩) (show w.heap.size ≤ w1.heap.size by omega) v8).drew
                have HB3 := hide hB3
                clear hB3
                go_wp2_with fail
                go_big_region
                all_goals
                  go_wp2_with fail
                  refine (HP.out _ (HB3.out _ _ _)).mono ?_
                  rintro e w3 ⟨v, rfl, hown, hb3⟩
                  have B3 := hide ((HB3.out (.int .i64 state) (.int .i64 item) (.int .i64 unt)).trans (hb3.mono (Below.size (HB3.out _ _ _))))
                  obtain ⟨A1, c1, hv, hsl3⟩ := Hoo_sl hown (by rw [HYL.out]; omega)
                  subst hv
                  have HS3 := hide hsl3
                  clear hown hb3 hsl3
                  go_wp2
                  go_ret2
                  exact ⟨_, _, _, rfl, HS3.out, B3.out⟩
    · by_cases s3 : (state == 3) = true
      · have e1 : catchH xs id item state unt = (1, []) := by rw [hcs]; unfold catchA catchB; simp_all
        rw [e1]
        rw [HQ1] at HW1
        rw [HQ2] at HW2
        clear hcs e1 hpt hco HQ1 HQ2
        go_enter Try.func24, Try.ntmps24
        go_wp2_with fail
        refine HF.out.mono ?_
        rintro e w1 ⟨rfl, hb⟩
        have B1 := hide (B0.out.trans (hb.mono (by simp; omega)))
        have Z1 := hide (Z0.out.trans (hb.mono (by simp)))
        have hz1 : w.heap.size + 2 ≤ w1.heap.size := by have := Z1.out.size; simpa using this
        obtain ⟨bx6, bx7⟩ := HX.out _ Z1.out
        have k6 := bx6.cell 0
        have k7 := bx7.cell 0
        simp at k6 k7
        have hcc : ∀ o, w1.cell? ⟨b, o, none⟩ = w.cell? ⟨b, o, none⟩ := fun o => B1.out.cell (p := ⟨b, o, none⟩) hbB
        rw [← hcc] at c0 c1 c2 c3 c4 c5 c6 c7 c8 c9 c10
        clear hcc hb bx6 bx7
        have k6' := fun o => (World.cell?_alloc_lt w1 o ⟨w.heap.size, 0, none⟩ (show w.heap.size < w1.heap.size by omega)).trans k6
        have k7' := fun o => (World.cell?_alloc_lt w1 o ⟨w.heap.size + 1, 0, none⟩ (show w.heap.size + 1 < w1.heap.size by omega)).trans k7
        have hbB1 : b < w1.heap.size := by omega
        go_wp2_with (first | (go_at_call 46; with_reducible refine (HW1.out _).mono ?_; rintro e w_ ⟨rfl, rfl⟩) | (go_at_call 46; with_reducible refine (HW2.out _).mono ?_; rintro e w_ ⟨rfl, rfl⟩))
        go_ret2
        exact ResH.nil (B1.out)
      · have s3' : (state == 3) = false := by simpa using s3
        have e1 : catchH xs id item state unt = (1, []) := by rw [hcs]; unfold catchA catchB; simp_all
        rw [e1]
        rw [HQ1] at HW1
        rw [HQ2] at HW2
        clear hcs e1 hpt hco HQ1 HQ2
        go_enter Try.func24, Try.ntmps24
        go_wp2_with fail
        refine HF.out.mono ?_
        rintro e w1 ⟨rfl, hb⟩
        have B1 := hide (B0.out.trans (hb.mono (by simp; omega)))
        have Z1 := hide (Z0.out.trans (hb.mono (by simp)))
        have hz1 : w.heap.size + 2 ≤ w1.heap.size := by have := Z1.out.size; simpa using this
        obtain ⟨bx6, bx7⟩ := HX.out _ Z1.out
        have k6 := bx6.cell 0
        have k7 := bx7.cell 0
        simp at k6 k7
        have hcc : ∀ o, w1.cell? ⟨b, o, none⟩ = w.cell? ⟨b, o, none⟩ := fun o => B1.out.cell (p := ⟨b, o, none⟩) hbB
        rw [← hcc] at c0 c1 c2 c3 c4 c5 c6 c7 c8 c9 c10
        clear hcc hb bx6 bx7
        have k6' := fun o => (World.cell?_alloc_lt w1 o ⟨w.heap.size, 0, none⟩ (show w.heap.size < w1.heap.size by omega)).trans k6
        have k7' := fun o => (World.cell?_alloc_lt w1 o ⟨w.heap.size + 1, 0, none⟩ (show w.heap.size + 1 < w1.heap.size by omega)).trans k7
        have hbB1 : b < w1.heap.size := by omega
        go_wp2_with (first | (go_at_call 46; with_reducible refine (HW1.out _).mono ?_; rintro e w_ ⟨rfl, rfl⟩) | (go_at_call 46; with_reducible refine (HW2.out _).mono ?_; rintro e w_ ⟨rfl, rfl⟩))
        go_ret2
        exact ResH.nil (B1.out)
    · by_cases s3 : (state == 3) = true
      · have s2 : (state != 2) = true := ne2 s3
        have s3n : (state != 3) = false := ne3 s3
        by_cases t1 : (x.st != 1) = true
        · by_cases t2 : (x.st != 2) = true
          · have e1 : catchH xs id item state unt = (12, []) := by rw [hcs]; unfold catchA catchB; simp_all
            rw [e1]
            rw [HQ1] at HW1
            rw [HQ2] at HW2
            clear hcs e1 hpt hco HQ1 HQ2
            go_enter Try.func24, Try.ntmps24
            go_wp2_with fail
            refine HF.out.mono ?_
            rintro e w1 ⟨rfl, hb⟩
            have B1 := hide (B0.out.trans (hb.mono (by simp; omega)))
            have Z1 := hide (Z0.out.trans (hb.mono (by simp)))
            have hz1 : w.heap.size + 2 ≤ w1.heap.size := by have := Z1.out.size; simpa using this
            obtain ⟨bx6, bx7⟩ := HX.out _ Z1.out
            have k6 := bx6.cell 0
            have k7 := bx7.cell 0
            simp at k6 k7
            have hcc : ∀ o, w1.cell? ⟨b, o, none⟩ = w.cell? ⟨b, o, none⟩ := fun o => B1.out.cell (p := ⟨b, o, none⟩) hbB
            rw [← hcc] at c0 c1 c2 c3 c4 c5 c6 c7 c8 c9 c10
            clear hcc hb bx6 bx7
            have k6' := fun o => (World.cell?_alloc_lt w1 o ⟨w.heap.size, 0, none⟩ (show w.heap.size < w1.heap.size by omega)).trans k6
            have k7' := fun o => (World.cell?_alloc_lt w1 o ⟨w.heap.size + 1, 0, none⟩ (show w.heap.size + 1 < w1.heap.size by omega)).trans k7
            have hbB1 : b < w1.heap.size := by omega
            go_wp2_with (first | (go_at_call 46; with_reducible refine (HW1.out _).mono ?_; rintro e w_ ⟨rfl, rfl⟩) | (go_at_call 46; with_reducible refine (HW2.out _).mono ?_; rintro e w_ ⟨rfl, rfl⟩))
            go_ret2
            exact ResH.nil (B1.out.alloc (by omega) _)
          · have t2' : (x.st != 2) = false := by simpa using t2
            clear t2
            by_cases t3 : (x.got != item) = true
            · have e1 : catchH xs id item state unt = (12, []) := by rw [hcs]; unfold catchA catchB; simp_all
              rw [e1]
              rw [HQ1] at HW1
              rw [HQ2] at HW2
              clear hcs e1 hpt hco HQ1 HQ2
              go_enter Try.func24, Try.ntmps24
              go_wp2_with fail
              refine HF.out.mono ?_
              rintro e w1 ⟨rfl, hb⟩
              have B1 := hide (B0.out.trans (hb.mono (by simp; omega)))
              have Z1 := hide (Z0.out.trans (hb.mono (by simp)))
              have hz1 : w.heap.size + 2 ≤ w1.heap.size := by have := Z1.out.size; simpa using this
              obtain ⟨bx6, bx7⟩ := HX.out _ Z1.out
              have k6 := bx6.cell 0
              have k7 := bx7.cell 0
              simp at k6 k7
              have hcc : ∀ o, w1.cell? ⟨b, o, none⟩ = w.cell? ⟨b, o, none⟩ := fun o => B1.out.cell (p := ⟨b, o, none⟩) hbB
              rw [← hcc] at c0 c1 c2 c3 c4 c5 c6 c7 c8 c9 c10
              clear hcc hb bx6 bx7
              have k6' := fun o => (World.cell?_alloc_lt w1 o ⟨w.heap.size, 0, none⟩ (show w.heap.size < w1.heap.size by omega)).trans k6
              have k7' := fun o => (World.cell?_alloc_lt w1 o ⟨w.heap.size + 1, 0, none⟩ (show w.heap.size + 1 < w1.heap.size by omega)).trans k7
              have hbB1 : b < w1.heap.size := by omega
              go_wp2_with (first | (go_at_call 46; with_reducible refine (HW1.out _).mono ?_; rintro e w_ ⟨rfl, rfl⟩) | (go_at_call 46; with_reducible refine (HW2.out _).mono ?_; rintro e w_ ⟨rfl, rfl⟩))
              go_ret2
              exact ResH.nil (B1.out.alloc (by omega) _)
            · have t3' : (x.got != item) = false := by simpa using t3
              clear t3
              cases hC : catchC xs id item with
              | true =>
                have e1 : catchH xs id item state unt = (7, []) := by rw [hcs, hC]; unfold catchA catchB; simp_all
                rw [e1]
                rw [HQ1] at HW1
                rw [HQ2] at HW2
                rw [hC] at hco
                have HCO := hide hco
                clear hcs e1 hpt hco HQ1 HQ2 hC
                go_enter Try.func24, Try.ntmps24
                go_wp2_with fail
                refine HF.out.mono ?_
                rintro e w1 ⟨rfl, hb⟩
                have B1 := hide (B0.out.trans (hb.mono (by simp; omega)))
                have Z1 := hide (Z0.out.trans (hb.mono (by simp)))
                have hz1 : w.heap.size + 2 ≤ w1.heap.size := by have := Z1.out.size; simpa using this
                obtain ⟨bx6, bx7⟩ := HX.out _ Z1.out
                have k6 := bx6.cell 0
                have k7 := bx7.cell 0
                simp at k6 k7
                have hcc : ∀ o, w1.cell? ⟨b, o, none⟩ = w.cell? ⟨b, o, none⟩ := fun o => B1.out.cell (p := ⟨b, o, none⟩) hbB
                rw [← hcc] at c0 c1 c2 c3 c4 c5 c6 c7 c8 c9 c10
                clear hcc hb bx6 bx7
                have k6' := fun o => (World.cell?_alloc_lt w1 o ⟨w.heap.size, 0, none⟩ (show w.heap.size < w1.heap.size by omega)).trans k6
                have k7' := fun o => (World.cell?_alloc_lt w1 o ⟨w.heap.size + 1, 0, none⟩ (show w.heap.size + 1 < w1.heap.size by omega)).trans k7
                have hbB1 : b < w1.heap.size := by omega
                go_wp2_with (first | (go_at_call 46; with_reducible refine (HW1.out _).mono ?_; rintro e w_ ⟨rfl, rfl⟩) | (go_at_call 46; with_reducible refine (HW2.out _).mono ?_; rintro e w_ ⟨rfl, rfl⟩))
                have hW2 := hide (B1.out.alloc (by omega) (.cells (hoC x) 47))
                refine (HCO.out _ hW2.out (by simp; omega) (by simp; omega) (k7' _) (k6' _)).mono ?_
                rintro e w2 ⟨rfl, hb⟩
                have B2 := hide (hW2.out.trans (hb.mono (by simp; omega)))
                clear hb
                go_wp2
                go_ret2
                exact ResH.nil B2.out
              | false =>
                have e1 : catchH xs id item state unt = (0, xs.set i (catF item state unt x)) := by rw [hcs, hC]; unfold catchA catchB; simp_all
                rw [e1]
                rw [HQ1] at HW1
                rw [HQ2] at HW2
                rw [hC] at hco
                have HCO := hide hco
                have hp := fun W hW => hpt W (catF item state unt x) hW
                have hyl : (xs.set i (catF item state unt x)).length = xs.length := List.length_set
                generalize xs.set i (catF item state unt x) = ys at hp hyl ⊢
                unfold hoV at hp
                simp only [catF] at hp
                have HP := hide hp
                have HYL := hide hyl
                clear hcs e1 hpt hco HQ1 HQ2 hC hp hyl
                go_enter Try.func24, Try.ntmps24
                go_wp2_with fail
                refine HF.out.mono ?_
                rintro e w1 ⟨rfl, hb⟩
                have B1 := hide (B0.out.trans (hb.mono (by simp; omega)))
                have Z1 := hide (Z0.out.trans (hb.mono (by simp)))
                have hz1 : w.heap.size + 2 ≤ w1.heap.size := by have := Z1.out.size; simpa using this
                obtain ⟨bx6, bx7⟩ := HX.out _ Z1.out
                have k6 := bx6.cell 0
                have k7 := bx7.cell 0
                simp at k6 k7
                have hcc : ∀ o, w1.cell? ⟨b, o, none⟩ = w.cell? ⟨b, o, none⟩ := fun o => B1.out.cell (p := ⟨b, o, none⟩) hbB
                rw [← hcc] at c0 c1 c2 c3 c4 c5 c6 c7 c8 c9 c10
                clear hcc hb bx6 bx7
                have k6' := fun o => (World.cell?_alloc_lt w1 o ⟨w.heap.size, 0, none⟩ (show w.heap.size < w1.heap.size by omega)).trans k6
                have k7' := fun o => (World.cell?_alloc_lt w1 o ⟨w.heap.size + 1, 0, none⟩ (show w.heap.size + 1 < w1.heap.size by omega)).trans k7
                have hbB1 : b < w1.heap.size := by omega
                go_wp2_with (first | (go_at_call 46; with_reducible refine (HW1.out _).mono ?_; rintro e w_ ⟨rfl, rfl⟩) | (go_at_call 46; with_reducible refine (HW2.out _).mono ?_; rintro e w_ ⟨rfl, rfl⟩))
                have hW2 := hide (B1.out.alloc (by omega) (.cells (hoC x) 47))
                refine (HCO.out _ hW2.out (by simp; omega) (by simp; omega) (k7' _) (k6' _)).mono ?_
                rintro e w2 ⟨rfl, hb⟩
                have B2 := hide (hW2.out.trans (hb.mono (by simp; omega)))
                have hz2 : w1.heap.size < w2.heap.size := by have := hb.size; simp at this; omega
                obtain ⟨_, r0, r1, r2, r3, r4, r5, r6, r7, r8, r9, r10⟩ := ho_box (x := x) (Box.new w1 47 (hoC x)) (hb.mono (by simp))
                have bxx := (Box.new w1 47 (hoC x)).below hb (by simp)
                have hfz := fun j => bxx.frz j
                have j7 : w2.cell? ⟨w.heap.size + 1, 0, none⟩ = some (.int .i64 item) := ((hb.cell (p := ⟨w.heap.size + 1, 0, none⟩) (by simp; omega)).trans (World.cell?_alloc_lt _ _ _ (by simp; omega))).trans k7
                have hne : w.heap.size + 1 ≠ w1.heap.size := by omega
                have HBX := hide bxx
                clear hb k6 k7 k6' k7' bxx
                have hB3 := fun v6 v7 v8 => (((B2.out.setCell (p := ⟨w1.heap.size, 6, none⟩) (show w.heap.size ≤ w1.heap.size by omega) v6).setCell (p := ⟨w1.heap.size, 7, none⟩) (show w.heap.size ≤ w1.heap.size by omega) v7).setCell (p := ⟨w1.heap.size, 8, none⟩) (show w.heap.size ≤ w1.heap.size by omega) v8).drew
                have HB3 := hide hB3
                clear hB3
                go_wp2_with fail
                go_big_region
                all_goals
                  go_wp2_with fail
                  refine (HP.out _ (HB3.out _ _ _)).mono ?_
                  rintro e w3 ⟨v, rfl, hown, hb3⟩
                  have B3 := hide ((HB3.out (.int .i64 state) (.int .i64 item) (.int .i64 unt)).trans (hb3.mono (Below.size (HB3.out _ _ _))))
                  obtain ⟨A1, c1, hv, hsl3⟩ := Hoo_sl hown (by rw [HYL.out]; omega)
                  subst hv
                  have HS3 := hide hsl3
                  clear hown hb3 hsl3
                  go_wp2
                  go_ret2
                  exact ⟨_, _, _, rfl, HS3.out, B3.out⟩
        · have t1' : (x.st != 1) = false := by simpa using t1
          clear t1
          cases hC : catchC xs id item with
          | true =>
            have e1 : catchH xs id item state unt = (7, []) := by rw [hcs, hC]; unfold catchA catchB; simp_all
            rw [e1]
            rw [HQ1] at HW1
            rw [HQ2] at HW2
            rw [hC] at hco
            have HCO := hide hco
            clear hcs e1 hpt hco HQ1 HQ2 hC
            go_enter Try.func24, Try.ntmps24
            go_wp2_with fail
            refine HF.out.mono ?_
            rintro e w1 ⟨rfl, hb⟩
            have B1 := hide (B0.out.trans (hb.mono (by simp; omega)))
            have Z1 := hide (Z0.out.trans (hb.mono (by simp)))
            have hz1 : w.heap.size + 2 ≤ w1.heap.size := by have := Z1.out.size; simpa using this
            obtain ⟨bx6, bx7⟩ := HX.out _ Z1.out
            have k6 := bx6.cell 0
            have k7 := bx7.cell 0
            simp at k6 k7
            have hcc : ∀ o, w1.cell? ⟨b, o, none⟩ = w.cell? ⟨b, o, none⟩ := fun o => B1.out.cell (p := ⟨b, o, none⟩) hbB
            rw [← hcc] at c0 c1 c2 c3 c4 c5 c6 c7 c8 c9 c10
            clear hcc hb bx6 bx7
            have k6' := fun o => (World.cell?_alloc_lt w1 o ⟨w.heap.size, 0, none⟩ (show w.heap.size < w1.heap.size by omega)).trans k6
            have k7' := fun o => (World.cell?_alloc_lt w1 o ⟨w.heap.size + 1, 0, none⟩ (show w.heap.size + 1 < w1.heap.size by omega)).trans k7
            have hbB1 : b < w1.heap.size := by omega
            go_wp2_with (first | (go_at_call 46; with_reducible refine (HW1.out _).mono ?_; rintro e w_ ⟨rfl, rfl⟩) | (go_at_call 46; with_reducible refine (HW2.out _).mono ?_; rintro e w_ ⟨rfl, rfl⟩))
            have hW2 := hide (B1.out.alloc (by omega) (.cells (hoC x) 47))
            refine (HCO.out _ hW2.out (by simp; omega) (by simp; omega) (k7' _) (k6' _)).mono ?_
            rintro e w2 ⟨rfl, hb⟩
            have B2 := hide (hW2.out.trans (hb.mono (by simp; omega)))
            clear hb
            go_wp2
            go_ret2
            exact ResH.nil B2.out
          | false =>
            have e1 : catchH xs id item state unt = (0, xs.set i (catF item state unt x)) := by rw [hcs, hC]; unfold catchA catchB; simp_all
            rw [e1]
            rw [HQ1] at HW1
            rw [HQ2] at HW2
            rw [hC] at hco
            have HCO := hide hco
            have hp := fun W hW => hpt W (catF item state unt x) hW
            have hyl : (xs.set i (catF item state unt x)).length = xs.length := List.length_set
            generalize xs.set i (catF item state unt x) = ys at hp hyl ⊢
            unfold hoV at hp
            simp only [catF] at hp
            have HP := hide hp
            have HYL := hide hyl
            clear hcs e1 hpt hco HQ1 HQ2 hC hp hyl
            go_enter Try.func24, Try.ntmps24
            go_wp2_with fail
            refine HF.out.mono ?_
            rintro e w1 ⟨rfl, hb⟩
            have B1 := hide (B0.out.trans (hb.mono (by simp; omega)))
            have Z1 := hide (Z0.out.trans (hb.mono (by simp)))
            have hz1 : w.heap.size + 2 ≤ w1.heap.size := by have := Z1.out.size; simpa using this
            obtain ⟨bx6, bx7⟩ := HX.out _ Z1.out
            have k6 := bx6.cell 0
            have k7 := bx7.cell 0
            simp at k6 k7
            have hcc : ∀ o, w1.cell? ⟨b, o, none⟩ = w.cell? ⟨b, o, none⟩ := fun o => B1.out.cell (p := ⟨b, o, none⟩) hbB
            rw [← hcc] at c0 c1 c2 c3 c4 c5 c6 c7 c8 c9 c10
            clear hcc hb bx6 bx7
            have k6' := fun o => (World.cell?_alloc_lt w1 o ⟨w.heap.size, 0, none⟩ (show w.heap.size < w1.heap.size by omega)).trans k6
            have k7' := fun o => (World.cell?_alloc_lt w1 o ⟨w.heap.size + 1, 0, none⟩ (show w.heap.size + 1 < w1.heap.size by omega)).trans k7
            have hbB1 : b < w1.heap.size := by omega
            go_wp2_with (first | (go_at_call 46; with_reducible refine (HW1.out _).mono ?_; rintro e w_ ⟨rfl, rfl⟩) | (go_at_call 46; with_reducible refine (HW2.out _).mono ?_; rintro e w_ ⟨rfl, rfl⟩))
            have hW2 := hide (B1.out.alloc (by omega) (.cells (hoC x) 47))
            refine (HCO.out _ hW2.out (by simp; omega) (by simp; omega) (k7' _) (k6' _)).mono ?_
            rintro e w2 ⟨rfl, hb⟩
            have B2 := hide (hW2.out.trans (hb.mono (by simp; omega)))
            have hz2 : w1.heap.size < w2.heap.size := by have := hb.size; simp at this; omega
            obtain ⟨_, r0, r1, r2, r3, r4, r5, r6, r7, r8, r9, r10⟩ := ho_box (x := x) (Box.new w1 47 (hoC x)) (hb.mono (by simp))
            have bxx := (Box.new w1 47 (hoC x)).below hb (by simp)
            have hfz := fun j => bxx.frz j
            have j7 : w2.cell? ⟨w.heap.size + 1, 0, none⟩ = some (.int .i64 item) := ((hb.cell (p := ⟨w.heap.size + 1, 0, none⟩) (by simp; omega)).trans (World.cell?_alloc_lt _ _ _ (by simp; omega))).trans k7
            have hne : w.heap.size + 1 ≠ w1.heap.size := by omega
            have HBX := hide bxx
            clear hb k6 k7 k6' k7' bxx
            have hB3 := fun v6 v7 v8 => (((B2.out.setCell (p := ⟨w1.heap.size, 6, none⟩) (show w.heap.size ≤ w1.heap.size by omega) v6).setCell (p := ⟨w1.heap.size, 7, none⟩) (show w.heap.size ≤ w1.heap.size by omega) v7).setCell (p := ⟨w1.heap.size, 8, none⟩) (show w.heap.size ≤ w1.heap.size by omega) v8).drew
            have HB3 := hide hB3
            clear hB3
            go_wp2_with fail
            go_big_region
            all_goals
              go_wp2_with fail
              refine (HP.out _ (HB3.out _ _ _)).mono ?_
              rintro e w3 ⟨v, rfl, hown, hb3⟩
              have B3 := hide ((HB3.out (.int .i64 state) (.int .i64 item) (.int .i64 unt)).trans (hb3.mono (Below.size (HB3.out _ _ _))))
              obtain ⟨A1, c1, hv, hsl3⟩ := Hoo_sl hown (by rw [HYL.out]; omega)
              subst hv
              have HS3 := hide hsl3
              clear hown hb3 hsl3
              go_wp2
              go_ret2
              exact ⟨_, _, _, rfl, HS3.out, B3.out⟩
      · have s3' : (state == 3) = false := by simpa using s3
        have s3n : (state != 3) = true := ne3' s3'
        clear s3
        by_cases s2 : (state != 2) = true
        · have e1 : catchH xs id item state unt = (1, []) := by rw [hcs]; unfold catchA catchB; simp_all
          rw [e1]
          rw [HQ1] at HW1
          rw [HQ2] at HW2
          clear hcs e1 hpt hco HQ1 HQ2
          go_enter Try.func24, Try.ntmps24
          go_wp2_with fail
          refine HF.out.mono ?_
          rintro e w1 ⟨rfl, hb⟩
          have B1 := hide (B0.out.trans (hb.mono (by simp; omega)))
          have Z1 := hide (Z0.out.trans (hb.mono (by simp)))
          have hz1 : w.heap.size + 2 ≤ w1.heap.size := by have := Z1.out.size; simpa using this
          obtain ⟨bx6, bx7⟩ := HX.out _ Z1.out
          have k6 := bx6.cell 0
          have k7 := bx7.cell 0
          simp at k6 k7
          have hcc : ∀ o, w1.cell? ⟨b, o, none⟩ = w.cell? ⟨b, o, none⟩ := fun o => B1.out.cell (p := ⟨b, o, none⟩) hbB
          rw [← hcc] at c0 c1 c2 c3 c4 c5 c6 c7 c8 c9 c10
          clear hcc hb bx6 bx7
          have k6' := fun o => (World.cell?_alloc_lt w1 o ⟨w.heap.size, 0, none⟩ (show w.heap.size < w1.heap.size by omega)).trans k6
          have k7' := fun o => (World.cell?_alloc_lt w1 o ⟨w.heap.size + 1, 0, none⟩ (show w.heap.size + 1 < w1.heap.size by omega)).trans k7
          have hbB1 : b < w1.heap.size := by omega
          go_wp2_with (first | (go_at_call 46; with_reducible refine (HW1.out _).mono ?_; rintro e w_ ⟨rfl, rfl⟩) | (go_at_call 46; with_reducible refine (HW2.out _).mono ?_; rintro e w_ ⟨rfl, rfl⟩))
          go_ret2
          exact ResH.nil (B1.out)
        · have s2' : (state != 2) = false := by simpa using s2
          clear s2
          by_cases u0 : (unt != 0) = true
          · have e1 : catchH xs id item state unt = (1, []) := by rw [hcs]; unfold catchA catchB; simp_all
            rw [e1]
            rw [HQ1] at HW1
            rw [HQ2] at HW2
            clear hcs e1 hpt hco HQ1 HQ2
            go_enter Try.func24, Try.ntmps24
            go_wp2_with fail
            refine HF.out.mono ?_
            rintro e w1 ⟨rfl, hb⟩
            have B1 := hide (B0.out.trans (hb.mono (by simp; omega)))
            have Z1 := hide (Z0.out.trans (hb.mono (by simp)))
            have hz1 : w.heap.size + 2 ≤ w1.heap.size := by have := Z1.out.size; simpa using this
            obtain ⟨bx6, bx7⟩ := HX.out _ Z1.out
            have k6 := bx6.cell 0
            have k7 := bx7.cell 0
            simp at k6 k7
            have hcc : ∀ o, w1.cell? ⟨b, o, none⟩ = w.cell? ⟨b, o, none⟩ := fun o => B1.out.cell (p := ⟨b, o, none⟩) hbB
            rw [← hcc] at c0 c1 c2 c3 c4 c5 c6 c7 c8 c9 c10
            clear hcc hb bx6 bx7
            have k6' := fun o => (World.cell?_alloc_lt w1 o ⟨w.heap.size, 0, none⟩ (show w.heap.size < w1.heap.size by omega)).trans k6
            have k7' := fun o => (World.cell?_alloc_lt w1 o ⟨w.heap.size + 1, 0, none⟩ (show w.heap.size + 1 < w1.heap.size by omega)).trans k7
            have hbB1 : b < w1.heap.size := by omega
            go_wp2_with (first | (go_at_call 46; with_reducible refine (HW1.out _).mono ?_; rintro e w_ ⟨rfl, rfl⟩) | (go_at_call 46; with_reducible refine (HW2.out _).mono ?_; rintro e w_ ⟨rfl, rfl⟩))
            go_ret2
            exact ResH.nil (B1.out)
          · have u0' : (unt != 0) = false := by simpa using u0
            clear u0
            by_cases t1 : (x.st != 1) = true
            · by_cases t2 : (x.st != 2) = true
              · have e1 : catchH xs id item state unt = (12, []) := by rw [hcs]; unfold catchA catchB; simp_all
                rw [e1]
                rw [HQ1] at HW1
                rw [HQ2] at HW2
                clear hcs e1 hpt hco HQ1 HQ2
                go_enter Try.func24, Try.ntmps24
                go_wp2_with fail
                refine HF.out.mono ?_
                rintro e w1 ⟨rfl, hb⟩
                have B1 := hide (B0.out.trans (hb.mono (by simp; omega)))
                have Z1 := hide (Z0.out.trans (hb.mono (by simp)))
                have hz1 : w.heap.size + 2 ≤ w1.heap.size := by have := Z1.out.size; simpa using this
                obtain ⟨bx6, bx7⟩ := HX.out _ Z1.out
                have k6 := bx6.cell 0
                have k7 := bx7.cell 0
                simp at k6 k7
                have hcc : ∀ o, w1.cell? ⟨b, o, none⟩ = w.cell? ⟨b, o, none⟩ := fun o => B1.out.cell (p := ⟨b, o, none⟩) hbB
                rw [← hcc] at c0 c1 c2 c3 c4 c5 c6 c7 c8 c9 c10
                clear hcc hb bx6 bx7
                have k6' := fun o => (World.cell?_alloc_lt w1 o ⟨w.heap.size, 0, none⟩ (show w.heap.size < w1.heap.size by omega)).trans k6
                have k7' := fun o => (World.cell?_alloc_lt w1 o ⟨w.heap.size + 1, 0, none⟩ (show w.heap.size + 1 < w1.heap.size by omega)).trans k7
                have hbB1 : b < w1.heap.size := by omega
                go_wp2_with (first | (go_at_call 46; with_reducible refine (HW1.out _).mono ?_; rintro e w_ ⟨rfl, rfl⟩) | (go_at_call 46; with_reducible refine (HW2.out _).mono ?_; rintro e w_ ⟨rfl, rfl⟩))
                go_ret2
                exact ResH.nil (B1.out.alloc (by omega) _)
              · have t2' : (x.st != 2) = false := by simpa using t2
                clear t2
                by_cases t3 : (x.got != item) = true
                · have e1 : catchH xs id item state unt = (12, []) := by rw [hcs]; unfold catchA catchB; simp_all
                  rw [e1]
                  rw [HQ1] at HW1
                  rw [HQ2] at HW2
                  clear hcs e1 hpt hco HQ1 HQ2
                  go_enter Try.func24, Try.ntmps24
                  go_wp2_with fail
                  refine HF.out.mono ?_
                  rintro e w1 ⟨rfl, hb⟩
                  have B1 := hide (B0.out.trans (hb.mono (by simp; omega)))
                  have Z1 := hide (Z0.out.trans (hb.mono (by simp)))
                  have hz1 : w.heap.size + 2 ≤ w1.heap.size := by have := Z1.out.size; simpa using this
                  obtain ⟨bx6, bx7⟩ := HX.out _ Z1.out
                  have k6 := bx6.cell 0
                  have k7 := bx7.cell 0
                  simp at k6 k7
                  have hcc : ∀ o, w1.cell? ⟨b, o, none⟩ = w.cell? ⟨b, o, none⟩ := fun o => B1.out.cell (p := ⟨b, o, none⟩) hbB
                  rw [← hcc] at c0 c1 c2 c3 c4 c5 c6 c7 c8 c9 c10
                  clear hcc hb bx6 bx7
                  have k6' := fun o => (World.cell?_alloc_lt w1 o ⟨w.heap.size, 0, none⟩ (show w.heap.size < w1.heap.size by omega)).trans k6
                  have k7' := fun o => (World.cell?_alloc_lt w1 o ⟨w.heap.size + 1, 0, none⟩ (show w.heap.size + 1 < w1.heap.size by omega)).trans k7
                  have hbB1 : b < w1.heap.size := by omega
                  go_wp2_with (first | (go_at_call 46; with_reducible refine (HW1.out _).mono ?_; rintro e w_ ⟨rfl, rfl⟩) | (go_at_call 46; with_reducible refine (HW2.out _).mono ?_; rintro e w_ ⟨rfl, rfl⟩))
                  go_ret2
                  exact ResH.nil (B1.out.alloc (by omega) _)
                · have t3' : (x.got != item) = false := by simpa using t3
                  clear t3
                  have e1 : catchH xs id item state unt = (12, []) := by rw [hcs]; unfold catchA catchB; simp_all
                  rw [e1]
                  rw [HQ1] at HW1
                  rw [HQ2] at HW2
                  clear hcs e1 hpt hco HQ1 HQ2
                  go_enter Try.func24, Try.ntmps24
                  go_wp2_with fail
                  refine HF.out.mono ?_
                  rintro e w1 ⟨rfl, hb⟩
                  have B1 := hide (B0.out.trans (hb.mono (by simp; omega)))
                  have Z1 := hide (Z0.out.trans (hb.mono (by simp)))
                  have hz1 : w.heap.size + 2 ≤ w1.heap.size := by have := Z1.out.size; simpa using this
                  obtain ⟨bx6, bx7⟩ := HX.out _ Z1.out
                  have k6 := bx6.cell 0
                  have k7 := bx7.cell 0
                  simp at k6 k7
                  have hcc : ∀ o, w1.cell? ⟨b, o, none⟩ = w.cell? ⟨b, o, none⟩ := fun o => B1.out.cell (p := ⟨b, o, none⟩) hbB
                  rw [← hcc] at c0 c1 c2 c3 c4 c5 c6 c7 c8 c9 c10
                  clear hcc hb bx6 bx7
                  have k6' := fun o => (World.cell?_alloc_lt w1 o ⟨w.heap.size, 0, none⟩ (show w.heap.size < w1.heap.size by omega)).trans k6
                  have k7' := fun o => (World.cell?_alloc_lt w1 o ⟨w.heap.size + 1, 0, none⟩ (show w.heap.size + 1 < w1.heap.size by omega)).trans k7
                  have hbB1 : b < w1.heap.size := by omega
                  go_wp2_with (first | (go_at_call 46; with_reducible refine (HW1.out _).mono ?_; rintro e w_ ⟨rfl, rfl⟩) | (go_at_call 46; with_reducible refine (HW2.out _).mono ?_; rintro e w_ ⟨rfl, rfl⟩))
                  go_ret2
                  exact ResH.nil (B1.out.alloc (by omega) _)
            · have t1' : (x.st != 1) = false := by simpa using t1
              clear t1
              cases hC : catchC xs id item with
              | true =>
                have e1 : catchH xs id item state unt = (7, []) := by rw [hcs, hC]; unfold catchA catchB; simp_all
                rw [e1]
                rw [HQ1] at HW1
                rw [HQ2] at HW2
                rw [hC] at hco
                have HCO := hide hco
                clear hcs e1 hpt hco HQ1 HQ2 hC
                go_enter Try.func24, Try.ntmps24
                go_wp2_with fail
                refine HF.out.mono ?_
                rintro e w1 ⟨rfl, hb⟩
                have B1 := hide (B0.out.trans (hb.mono (by simp; omega)))
                have Z1 := hide (Z0.out.trans (hb.mono (by simp)))
                have hz1 : w.heap.size + 2 ≤ w1.heap.size := by have := Z1.out.size; simpa using this
                obtain ⟨bx6, bx7⟩ := HX.out _ Z1.out
                have k6 := bx6.cell 0
                have k7 := bx7.cell 0
                simp at k6 k7
                have hcc : ∀ o, w1.cell? ⟨b, o, none⟩ = w.cell? ⟨b, o, none⟩ := fun o => B1.out.cell (p := ⟨b, o, none⟩) hbB
                rw [← hcc] at c0 c1 c2 c3 c4 c5 c6 c7 c8 c9 c10
                clear hcc hb bx6 bx7
                have k6' := fun o => (World.cell?_alloc_lt w1 o ⟨w.heap.size, 0, none⟩ (show w.heap.size < w1.heap.size by omega)).trans k6
                have k7' := fun o => (World.cell?_alloc_lt w1 o ⟨w.heap.size + 1, 0, none⟩ (show w.heap.size + 1 < w1.heap.size by omega)).trans k7
                have hbB1 : b < w1.heap.size := by omega
                go_wp2_with (first | (go_at_call 46; with_reducible refine (HW1.out _).mono ?_; rintro e w_ ⟨rfl, rfl⟩) | (go_at_call 46; with_reducible refine (HW2.out _).mono ?_; rintro e w_ ⟨rfl, rfl⟩))
                have hW2 := hide (B1.out.alloc (by omega) (.cells (hoC x) 47))
                refine (HCO.out _ hW2.out (by simp; omega) (by simp; omega) (k7' _) (k6' _)).mono ?_
                rintro e w2 ⟨rfl, hb⟩
                have B2 := hide (hW2.out.trans (hb.mono (by simp; omega)))
                clear hb
                go_wp2
                go_ret2
                exact ResH.nil B2.out
              | false =>
                have e1 : catchH xs id item state unt = (0, xs.set i (catF item state unt x)) := by rw [hcs, hC]; unfold catchA catchB; simp_all
                rw [e1]
                rw [HQ1] at HW1
                rw [HQ2] at HW2
                rw [hC] at hco
                have HCO := hide hco
                have hp := fun W hW => hpt W (catF item state unt x) hW
                have hyl : (xs.set i (catF item state unt x)).length = xs.length := List.length_set
                generalize xs.set i (catF item state unt x) = ys at hp hyl ⊢
                unfold hoV at hp
                simp only [catF] at hp
                have HP := hide hp
                have HYL := hide hyl
                clear hcs e1 hpt hco HQ1 HQ2 hC hp hyl
                go_enter Try.func24, Try.ntmps24
                go_wp2_with fail
                refine HF.out.mono ?_
                rintro e w1 ⟨rfl, hb⟩
                have B1 := hide (B0.out.trans (hb.mono (by simp; omega)))
                have Z1 := hide (Z0.out.trans (hb.mono (by simp)))
                have hz1 : w.heap.size + 2 ≤ w1.heap.size := by have := Z1.out.size; simpa using this
                obtain ⟨bx6, bx7⟩ := HX.out _ Z1.out
                have k6 := bx6.cell 0
                have k7 := bx7.cell 0
                simp at k6 k7
                have hcc : ∀ o, w1.cell? ⟨b, o, none⟩ = w.cell? ⟨b, o, none⟩ := fun o => B1.out.cell (p := ⟨b, o, none⟩) hbB
                rw [← hcc] at c0 c1 c2 c3 c4 c5 c6 c7 c8 c9 c10
                clear hcc hb bx6 bx7
                have k6' := fun o => (World.cell?_alloc_lt w1 o ⟨w.heap.size, 0, none⟩ (show w.heap.size < w1.heap.size by omega)).trans k6
                have k7' := fun o => (World.cell?_alloc_lt w1 o ⟨w.heap.size + 1, 0, none⟩ (show w.heap.size + 1 < w1.heap.size by omega)).trans k7
                have hbB1 : b < w1.heap.size := by omega
                go_wp2_with (first | (go_at_call 46; with_reducible refine (HW1.out _).mono ?_; rintro e w_ ⟨rfl, rfl⟩) | (go_at_call 46; with_reducible refine (HW2.out _).mono ?_; rintro e w_ ⟨rfl, rfl⟩))
                have hW2 := hide (B1.out.alloc (by omega) (.cells (hoC x) 47))
                refine (HCO.out _ hW2.out (by simp; omega) (by simp; omega) (k7' _) (k6' _)).mono ?_
                rintro e w2 ⟨rfl, hb⟩
                have B2 := hide (hW2.out.trans (hb.mono (by simp; omega)))
                have hz2 : w1.heap.size < w2.heap.size := by have := hb.size; simp at this; omega
                obtain ⟨_, r0, r1, r2, r3, r4, r5, r6, r7, r8, r9, r10⟩ := ho_box (x := x) (Box.new w1 47 (hoC x)) (hb.mono (by simp))
                have bxx := (Box.new w1 47 (hoC x)).below hb (by simp)
                have hfz := fun j => bxx.frz j
                have j7 : w2.cell? ⟨w.heap.size + 1, 0, none⟩ = some (.int .i64 item) := ((hb.cell (p := ⟨w.heap.size + 1, 0, none⟩) (by simp; omega)).trans (World.cell?_alloc_lt _ _ _ (by simp; omega))).trans k7
                have hne : w.heap.size + 1 ≠ w1.heap.size := by omega
                have HBX := hide bxx
                clear hb k6 k7 k6' k7' bxx
                have hB3 := fun v6 v7 v8 => (((B2.out.setCell (p := ⟨w1.heap.size, 6, none⟩) (show w.heap.size ≤ w1.heap.size by omega) v6).setCell (p := ⟨w1.heap.size, 7, none⟩) (show w.heap.size ≤ w1.heap.size by omega) v7).setCell (p := ⟨w1.heap.size, 8, none⟩) (show w.heap.size ≤ w1.heap.size by omega) v8).drew
                have HB3 := hide hB3
                clear hB3
                go_wp2_with fail
                go_big_region
                all_goals
                  go_wp2_with fail
                  refine (HP.out _ (HB3.out _ _ _)).mono ?_
                  rintro e w3 ⟨v, rfl, hown, hb3⟩
                  have B3 := hide ((HB3.out (.int .i64 state) (.int .i64 item) (.int .i64 unt)).trans (hb3.mono (Below.size (HB3.out _ _ _))))
                  obtain ⟨A1, c1, hv, hsl3⟩ := Hoo_sl hown (by rw [HYL.out]; omega)
                  subst hv
                  have HS3 := hide hsl3
                  clear hown hb3 hsl3
                  go_wp2
                  go_ret2
                  exact ⟨_, _, _, rfl, HS3.out, B3.out⟩
end Go.Proofs.Ytgjhjabnnhhkbaa
