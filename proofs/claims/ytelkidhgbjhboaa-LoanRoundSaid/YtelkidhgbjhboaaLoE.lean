/- Walks: the reference's Find; checked of both; with, without. -/
import Derived.Test.YtelkidhgbjhboaaLoB
import Derived.Test.YtelkidhgbjhboaaLoC
import Derived.Test.YtelkidhgbjhboaaLoD
namespace Go.Proofs.Ytelkidhgbjhboaa
open Go.RowKit

/-- What a change of loans hands back: the error and the loans. -/
def ResL (w : World) (r : Int × List Lo) (e : Ending) (w' : World) : Prop :=
  ∃ A n c, e = .returned (.tuple #[.slice A n c, .int .i64 r.1]) ∧ Los w' w'.heap.size A n c r.2 ∧ Below w.heap.size w w'
theorem ResL.nil {w w' : World} {er : Int} (h : Below w.heap.size w w') : ResL w (er, []) (.returned (.tuple #[.slice none 0 0, .int .i64 er])) w' := ⟨none, 0, 0, rfl, Sl.none_, h⟩

theorem rlfind_any (A : Option Addr) (n c : Nat) (xs : List Lo) (item : Int) (w : World) (hs : Los w w.heap.size A n c xs) :
    Calls Try.prog 23 #[.slice A n c, .int .i64 item] w fun e w' => e = .returned (.tuple #[loV (findL xs item).1, .bool (findL xs item).2]) ∧ Below w.heap.size w w' := by
  have hle := hs.le
  have hbig := hs.big
  have HS := hide hs
  clear hs
  have hp := fun o => lat_any A n c xs item (w.alloc o) _ ((HS.out.alloc (Nat.le_refl _) o).more (Nat.le_refl _))
  rcases fst_cases (fun x => x.item == item) xs with ⟨h1, h2, _⟩ | ⟨i, x, h1, h2, h3, h4, _⟩
  · have e1 : findL xs item = (lo0, false) := by unfold findL atL; rw [h2, h1]; rfl
    unfold atL at hp
    rw [h1] at hp
    rw [e1]
    have HP := hide hp
    clear hp h1 h2 e1
    go_enter Try.func23, Try.ntmps23
    go_wp2_with fail
    refine (HP.out _).mono ?_
    rintro e w1 ⟨rfl, rfl⟩
    go_wp2
    refine bodyPost_ret (v := .tuple #[loV lo0, .bool false]) (by simp [results, Try.results23, go_sem, loV, lo0]) rfl ⟨rfl, ?_⟩
    exact (Below.refl _ _).alloc (Nat.le_refl _) _
  · have e1 : findL xs item = (x, true) := by unfold findL atL; rw [h4, h1]; simp
    unfold atL at hp
    rw [h1] at hp
    rw [e1]
    have HP := hide hp
    have hi : i < n := by have := (List.getElem?_eq_some_iff.1 h2).1; have := HS.out.len; omega
    obtain ⟨b, off, y, rfl, hbB, hy, c0, c1, c2, c3, c4, c5⟩ := Los_at HS.out hi
    obtain rfl : x = y := by rw [hy] at h2; exact (Option.some.inj h2).symm
    clear hp h1 h2 hy h4 h3 e1
    go_enter Try.func23, Try.ntmps23
    go_wp2_with fail
    refine (HP.out _).mono ?_
    rintro e w1 ⟨rfl, rfl⟩
    go_wp2
    refine bodyPost_ret (v := .tuple #[loV x, .bool true]) (by simp [results, Try.results23, go_sem, loV]) rfl ⟨rfl, ?_⟩
    exact (Below.refl _ _).alloc (Nat.le_refl _) _

theorem lchecked_any (A : Option Addr) (n c : Nat) (xs : List Lo) (w : World) (hs : Los w w.heap.size A n c xs) :
    Calls Try.prog 36 #[.slice A n c] w (ResL w (chd xs)) := by
  have hr := lright_any A n c xs w hs
  have HS := hide hs
  clear hs
  by_cases h0 : rightL xs = 0
  · have e : chd xs = (0, xs) := by unfold chd; rw [if_pos h0]
    rw [h0] at hr
    rw [e]
    have HR := hide hr
    clear hr e h0
    go_enter Try.func36, Try.ntmps36
    go_wp2_with fail
    refine HR.out.mono ?_
    rintro e w1 ⟨rfl, hb⟩
    go_wp2
    go_ret2
    exact ⟨A, n, c, rfl, (HS.out.below hb).more hb.size, hb⟩
  · have e : chd xs = (rightL xs, []) := by unfold chd; rw [if_neg h0]
    rw [e]
    have h0b : (rightL xs != 0) = true := by simpa using h0
    generalize rightL xs = er at hr h0b ⊢
    have HR := hide hr
    clear hr e h0
    go_enter Try.func36, Try.ntmps36
    go_wp2_with fail
    refine HR.out.mono ?_
    rintro e w1 ⟨rfl, hb⟩
    go_wp2
    go_ret2
    exact ResL.nil hb
theorem rchecked_any (A : Option Addr) (n c : Nat) (xs : List Lo) (w : World) (hs : Los w w.heap.size A n c xs) :
    Calls Try.prog 40 #[.slice A n c] w (ResL w (chd xs)) := by
  have hr := rright_any A n c xs w hs
  have HS := hide hs
  clear hs
  by_cases h0 : rightL xs = 0
  · have e : chd xs = (0, xs) := by unfold chd; rw [if_pos h0]
    rw [h0] at hr
    rw [e]
    have HR := hide hr
    clear hr e h0
    go_enter Try.func40, Try.ntmps40
    go_wp2_with fail
    refine HR.out.mono ?_
    rintro e w1 ⟨rfl, hb⟩
    go_wp2
    go_ret2
    exact ⟨A, n, c, rfl, (HS.out.below hb).more hb.size, hb⟩
  · have e : chd xs = (rightL xs, []) := by unfold chd; rw [if_neg h0]
    rw [e]
    have h0b : (rightL xs != 0) = true := by simpa using h0
    generalize rightL xs = er at hr h0b ⊢
    have HR := hide hr
    clear hr e h0
    go_enter Try.func40, Try.ntmps40
    go_wp2_with fail
    refine HR.out.mono ?_
    rintro e w1 ⟨rfl, hb⟩
    go_wp2
    go_ret2
    exact ResL.nil hb

/-- with: a copy in which one element is replaced. -/
theorem lwith_any (A : Option Addr) (n c i : Nat) (x : Lo) (xs : List Lo) (w : World) (hs : Los w w.heap.size A n c xs) (hn : n ≤ 1000) (hi : i < n) :
    Calls Try.prog 41 #[.slice A n c, .int .i64 i, loV x] w fun e w' => ∃ v, e = .returned v ∧ Loo w' w.heap.size v (xs.set i x) ∧ Below w.heap.size w w' := by
  obtain rfl := hs.len
  have hcl := fun o => lo_clone A xs.length c xs (w.alloc o) ((hs.alloc (Nat.le_refl _) o).more (by simp)) hn
  have HC := hide hcl
  clear hcl hs
  unfold loV
  go_enter Try.func41, Try.ntmps41
  go_wp2_with fail
  refine (HC.out _).mono ?_
  rintro e w1 ⟨v, rfl, hown, hb⟩
  obtain ⟨bx, r0, r1, r2, r3, r4, r5⟩ := lo_box (x := x) (Box.new w 28 (loC x)) (hb.mono (by simp))
  rcases own_box hown with ⟨_, h0⟩ | ⟨g, cap, cur, rfl, hbg, hB, hnc, hcm, hcs, htk⟩
  · omega
  · have hcl : ∀ j, i * 6 ≤ j → j < (i + 1) * 6 → ∃ u, w1.cell? ⟨g, j, none⟩ = some u := fun j _ h2 => by
      rw [hB.cell, Array.getElem?_eq_getElem (by omega)]; exact ⟨_, rfl⟩
    obtain ⟨u0, q0⟩ := hcl (i * 6) (by omega) (by omega)
    obtain ⟨u1, q1⟩ := hcl (i * 6 + 1) (by omega) (by omega)
    obtain ⟨u2, q2⟩ := hcl (i * 6 + 2) (by omega) (by omega)
    obtain ⟨u3, q3⟩ := hcl (i * 6 + 3) (by omega) (by omega)
    obtain ⟨u4, q4⟩ := hcl (i * 6 + 4) (by omega) (by omega)
    obtain ⟨u5, q5⟩ := hcl (i * 6 + 5) (by omega) (by omega)
    have hfz := fun j => hB.frz j
    have HO := hide hown
    have hbg' : w.heap.size ≤ g := by simp at hbg; omega
    have hin : i < xs.length := hi
    clear bx hcl htk hcs hB hown
    go_wp2
    go_ret
    refine ⟨_, rfl, ?_, below_setCells hbg' (loE x) (i * 6) _ (below_call hb)⟩
    have := own_setk loE_len HO.out rfl hi x
    unfold Loo
    rw [List.length_set]
    exact own_base this (by simp)
/-- without: a copy without one element. -/
theorem lwithout_any (A : Option Addr) (n c i : Nat) (xs : List Lo) (w : World) (hs : Los w w.heap.size A n c xs) (hn : n ≤ 1000) (hi : i < n) :
    Calls Try.prog 42 #[.slice A n c, .int .i64 i] w fun e w' => ∃ v, e = .returned v ∧ Loo w' w.heap.size v (xs.take i ++ xs.drop (i + 1)) ∧ Below w.heap.size w w' := by
  obtain rfl := hs.len
  have HC := hide (lo_clone A xs.length c xs w hs hn)
  clear hs
  go_enter Try.func42, Try.ntmps42
  go_wp2_with fail
  refine HC.out.mono ?_
  rintro e w1 ⟨v, rfl, hown, hb⟩
  have HD := hide (lo_delete w.heap.size v xs.length i xs w1 hown rfl hi hn)
  clear hown HC
  go_wp2_with fail
  refine HD.out.mono ?_
  rintro e w2 ⟨v', rfl, hown, hb2⟩
  go_wp2
  go_ret
  refine ⟨v', rfl, ?_, hb.trans hb2⟩
  unfold Loo
  rw [show (xs.take i ++ xs.drop (i + 1)).length = xs.length - 1 from by simp; omega]
  exact hown
end Go.Proofs.Ytelkidhgbjhboaa
