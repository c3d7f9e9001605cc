/- Walks: Drop, Sleep of hold. -/
import Derived.Test.YtgjhjabnnhhkbaaHoH
namespace Go.Proofs.Ytgjhjabnnhhkbaa
open Go.RowKit

def gotP (item : Int) (o : Ho) : Bool := o.got == item
def dropF (h : Ho) : Ho := { h with st := 1, got := 0, unt := 0 }
def dropH (xs : List Ho) (item : Int) : Int × List Ho := if ix (gotP item) xs = -1 ∨ item = 0 then (9, []) else (0, xs.set (ix (gotP item) xs).toNat (dropF (xs.getD (ix (gotP item) xs).toNat ho0)))
theorem drop1_any (o : Ho) (item : Int) (a : Nat) (w : World) (ha : a < w.heap.size) (hc : w.cell? ⟨a, 0, none⟩ = some (.int .i64 item)) :
    Calls Try.prog 54 #[hoV o, .pointer (some ⟨a, 0, none⟩)] w fun e w' => e = .returned (.bool (gotP item o)) ∧ Below w.heap.size w w' := by
  unfold hoV
  go_enter Try.func54, Try.ntmps54
  go_wp2
  go_ret
  exact ⟨rfl, (Below.refl _ _).alloc (Nat.le_refl _) _⟩
theorem e_drop1 : ∀ args w, (callFunc 54 args).run Try.prog w = .ok (.enter 54 args) w := enters_of Try.func54 (by kernel_rfl) rfl

set_option maxRecDepth 100000 in
set_option maxHeartbeats 2000000 in
theorem hdrop_any (A : Option Addr) (n c : Nat) (xs : List Ho) (item : Int) (w : World) (hs : Hos w w.heap.size A n c xs) (hn : n ≤ 1000) :
    Calls Try.prog 27 #[.slice A n c, .int .i64 item] w (ResH w (dropH xs item)) := by
  obtain rfl := hs.len
  have hle := hs.le
  have hbig := hs.big
  have hsl : ∀ W, Below w.heap.size w W → Hos W W.heap.size A xs.length c xs := fun W hW => (hs.below hW).more hW.size
  have B0 := hide ((Below.refl w.heap.size w).alloc (Nat.le_refl _) (.cells #[.int .i64 item] 3))
  have hf := ho_indexFunc 54 #[.pointer (some ⟨w.heap.size, 0, none⟩)] (gotP item) e_drop1 A xs.length c xs (w.alloc (.cells #[.int .i64 item] 3)) (hsl _ B0.out)
    (fun W o _ hb => drop1_any o item w.heap.size W (by have := hb.size; simp at this; omega) ((hb.cell (p := ⟨w.heap.size, 0, none⟩) (by simp)).trans (cell_new w _ _)))
  rcases ix_cases (gotP item) xs with ⟨h1, _⟩ | ⟨i, x, h1, h2, h3, h4⟩
  · have e1 : dropH xs item = (9, []) := by unfold dropH; rw [if_pos (.inl h1)]
    rw [e1]
    rw [h1] at hf
    have HF := hide hf
    clear hf hsl hs h1 e1
    go_enter Try.func27, Try.ntmps27
    go_wp2_with fail
    refine HF.out.mono ?_
    rintro e w1 ⟨rfl, hb⟩
    have B1 := hide (B0.out.trans (hb.mono (by simp)))
    clear hb
    go_wp2
    go_ret2
    exact ResH.nil B1.out
  · have hi : i < xs.length := (List.getElem?_eq_some_iff.1 h2).1
    rw [h1] at hf
    have hgd : xs.getD i ho0 = x := by rw [List.getD_eq_getElem?_getD, h2]; rfl
    by_cases h0 : item = 0
    · have e1 : dropH xs item = (9, []) := by unfold dropH; rw [if_pos (.inr h0)]
      rw [e1]
      have HF := hide hf
      have hb0 : (item == 0) = true := by simpa using h0
      have X0 := hide (Box.new w 3 #[.int .i64 item])
      clear hf hsl hs h1 e1 h0 h2 h3 h4 hgd
      go_enter Try.func27, Try.ntmps27
      go_wp2_with fail
      refine HF.out.mono ?_
      rintro e w1 ⟨rfl, hb⟩
      have B1 := hide (B0.out.trans (hb.mono (by simp)))
      have k0 := (X0.out.below hb (by simp)).cell 0
      simp at k0
      clear hb
      go_wp2
      go_ret2
      exact ResH.nil B1.out
    · obtain ⟨b, off, y, rfl, hbB, hy, c0, c1, c2, c3, c4, c5, c6, c7, c8, c9, c10⟩ := Hos_at hs hi
      obtain rfl : x = y := by rw [hy] at h2; exact (Option.some.inj h2).symm
      have e1 : dropH xs item = (0, xs.set i (dropF x)) := by
        unfold dropH
        rw [if_neg (by rw [h1]; omega), h1, Int.toNat_natCast, hgd]
      rw [e1]
      have hb0 : (item == 0) = false := by simpa using h0
      have hp := fun (W : World) (hW : Below w.heap.size w W) => hput_any (some ⟨b, off, none⟩) xs.length c i (dropF x) xs W (hsl W hW) hn hi
      have hyl : (xs.set i (dropF x)).length = xs.length := List.length_set
      generalize xs.set i (dropF x) = ys at hp hyl ⊢
      unfold hoV at hp
      simp only [dropF] at hp
      have HP := hide hp
      have HYL := hide hyl
      have HF := hide hf
      have X0 := hide (Box.new w 3 #[.int .i64 item])
      clear hf hsl hs h1 e1 h0 h2 h3 h4 hgd hy hp hyl
      go_enter Try.func27, Try.ntmps27
      go_wp2_with fail
      refine HF.out.mono ?_
      rintro e w1 ⟨rfl, hb⟩
      have B1 := hide (B0.out.trans (hb.mono (by simp)))
      have k0 := (X0.out.below hb (by simp)).cell 0
      simp at k0
      have hcc : ∀ o, w1.cell? ⟨b, o, none⟩ = w.cell? ⟨b, o, none⟩ := fun o => B1.out.cell (p := ⟨b, o, none⟩) hbB
      rw [← hcc] at c0 c1 c2 c3 c4 c5 c6 c7 c8 c9 c10
      have hz1 := B1.out.size
      have hbB1 : b < w1.heap.size := by omega
      clear hb hcc HF
      go_wp2_with fail
      refine (HP.out _ (B1.out.alloc hz1 _)).mono ?_
      rintro e w3 ⟨v, rfl, hown, hb3⟩
      have B3 := hide ((B1.out.alloc hz1 _).trans (hb3.mono (by simp; omega)))
      obtain ⟨A1, c1', hv, hsl3⟩ := Hoo_sl hown (by rw [HYL.out]; omega)
      subst hv
      have HS3 := hide hsl3
      clear hown hb3 hsl3
      go_wp2
      go_ret2
      exact ⟨_, _, _, rfl, HS3.out, B3.out⟩

def slpF (u : Int) (h : Ho) : Ho := { h with slp := u }
def sleepH (xs : List Ho) (id u : Int) : Int × List Ho :=
  if atH xs id = -1 then (9, []) else if ((getH xs id).1.st != 1) = true then (12, []) else if dayB u = false then (2, []) else (0, xs.set (atH xs id).toNat (slpF u (getH xs id).1))
theorem sleep_some {xs : List Ho} {id u : Int} {i : Nat} {x : Ho} (h : atH xs id = i) (hg : getH xs id = (x, true)) :
    sleepH xs id u = if (x.st != 1) = true then (12, []) else if dayB u = false then (2, []) else (0, xs.set i (slpF u x)) := by
  unfold sleepH; rw [if_neg (by omega), h, hg]; rfl
set_option maxRecDepth 100000 in
set_option maxHeartbeats 2000000 in
theorem hsleep_any (A : Option Addr) (n c : Nat) (xs : List Ho) (id u : Int) (w : World) (hs : Hos w w.heap.size A n c xs) (hn : n ≤ 1000) :
    Calls Try.prog 29 #[.slice A n c, .int .i64 id, .int .i64 u] w (ResH w (sleepH xs id u)) := by
  obtain rfl := hs.len
  have hle := hs.le
  have hbig := hs.big
  have hsl : ∀ W, Below w.heap.size w W → Hos W W.heap.size A xs.length c xs := fun W hW => (hs.below hW).more hW.size
  have hf := hfind_any A xs.length c xs id w hs
  have HD := hide (fun W => hday_any u W)
  rcases getH_cases xs id with ⟨h1, h2, _⟩ | ⟨i, x, h1, h2, h3, h4, _⟩
  · have e1 : sleepH xs id u = (9, []) := by unfold sleepH; rw [if_pos h1]
    rw [e1]
    rw [h1] at hf
    have HF := hide hf
    clear hf hsl hs h1 h2 e1
    go_enter Try.func29, Try.ntmps29
    go_wp2_with fail
    refine HF.out.mono ?_
    rintro e w1 ⟨rfl, hb⟩
    go_wp2
    go_ret2
    exact ResH.nil hb
  · have hi : i < xs.length := (List.getElem?_eq_some_iff.1 h2).1
    rw [h1] at hf
    obtain ⟨b, off, y, rfl, hbB, hy, c0, c1, c2, c3, c4, c5, c6, c7, c8, c9, c10⟩ := Hos_at hs hi
    obtain rfl : x = y := by rw [hy] at h2; exact (Option.some.inj h2).symm
    have hp := fun (W : World) (hW : Below w.heap.size w W) => hput_any (some ⟨b, off, none⟩) xs.length c i (slpF u x) xs W (hsl W hW) hn hi
    have hyl : (xs.set i (slpF u x)).length = xs.length := List.length_set
    rw [sleep_some h1 h4]
    generalize xs.set i (slpF u x) = ys at hp hyl ⊢
    unfold hoV at hp
    simp only [slpF] at hp
    have HP := hide hp
    have HYL := hide hyl
    have HF := hide hf
    clear hf hsl hs h1 h2 h3 h4 hy hp hyl
    by_cases t1 : (x.st != 1) = true
    · rw [if_pos t1]
      go_enter Try.func29, Try.ntmps29
      go_wp2_with fail
      refine HF.out.mono ?_
      rintro e w1 ⟨rfl, hb⟩
      have B1 := hide hb
      have hcc : ∀ o, w1.cell? ⟨b, o, none⟩ = w.cell? ⟨b, o, none⟩ := fun o => B1.out.cell (p := ⟨b, o, none⟩) hbB
      rw [← hcc] at c0 c1 c2 c3 c4 c5 c6 c7 c8 c9 c10
      clear hb hcc
      go_wp2
      go_ret2
      exact ResH.nil B1.out
    · rw [if_neg t1]
      have t1' : (x.st != 1) = false := by simpa using t1
      clear t1
      cases hd : dayB u with
      | false =>
        rw [if_pos rfl]
        rw [hd] at HD
        clear hd
        go_enter Try.func29, Try.ntmps29
        go_wp2_with fail
        refine HF.out.mono ?_
        rintro e w1 ⟨rfl, hb⟩
        have B1 := hide hb
        have hcc : ∀ o, w1.cell? ⟨b, o, none⟩ = w.cell? ⟨b, o, none⟩ := fun o => B1.out.cell (p := ⟨b, o, none⟩) hbB
        rw [← hcc] at c0 c1 c2 c3 c4 c5 c6 c7 c8 c9 c10
        clear hb hcc
        go_wp2_with (go_at_call 55; refine (HD.out _).mono ?_; rintro e w_ ⟨rfl, rfl⟩)
        go_ret2
        exact ResH.nil B1.out
      | true =>
        rw [if_neg (by decide)]
        rw [hd] at HD
        clear hd
        go_enter Try.func29, Try.ntmps29
        go_wp2_with fail
        refine HF.out.mono ?_
        rintro e w1 ⟨rfl, hb⟩
        have B1 := hide hb
        have hcc : ∀ o, w1.cell? ⟨b, o, none⟩ = w.cell? ⟨b, o, none⟩ := fun o => B1.out.cell (p := ⟨b, o, none⟩) hbB
        rw [← hcc] at c0 c1 c2 c3 c4 c5 c6 c7 c8 c9 c10
        have hz1 := B1.out.size
        have hbB1 : b < w1.heap.size := by omega
        clear hb hcc HF
        go_wp2_with fail
        refine (HD.out _).mono ?_
        rintro e w_ ⟨rfl, rfl⟩
        go_wp2_with fail
        refine (HP.out _ (B1.out.alloc hz1 _)).mono ?_
        rintro e w3 ⟨v, rfl, hown, hb3⟩
        have B3 := hide ((B1.out.alloc hz1 _).trans (hb3.mono (by simp; omega)))
        obtain ⟨A1, c1', hv, hsl3⟩ := Hoo_sl hown (by rw [HYL.out]; omega)
        subst hv
        have HS3 := hide hsl3
        clear hown hb3 hsl3
        go_wp2
        go_ret2
        exact ⟨_, _, _, rfl, HS3.out, B3.out⟩
end Go.Proofs.Ytgjhjabnnhhkbaa
