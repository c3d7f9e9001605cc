/- Walks: change, Encumber, Release, Spend, Budget, and the reference's. -/
import Derived.Test.YtbcapljiangjcaaFuE
namespace Go.Proofs.Ytbcapljiangjcaa
open Go.RowKit

/-- What changing one fund by F makes of a list: the error code, and the list (empty where there is an error). -/
def chR (F : Fu → Int × Fu) (xs : List Fu) (id : Int) : Int × List Fu :=
  if atF xs id < 0 then (9, []) else if (F (getF xs id).1).1 = 0 then (0, xs.set (atF xs id).toNat (F (getF xs id).1).2) else ((F (getF xs id).1).1, [])

theorem chR_none {F : Fu → Int × Fu} {xs : List Fu} {id : Int} (h : atF xs id = -1) : chR F xs id = (9, []) := by simp [chR, h]
theorem chR_ok {F : Fu → Int × Fu} {xs : List Fu} {id : Int} {i : Nat} {x : Fu} (h : atF xs id = i) (hg : getF xs id = (x, true)) (h0 : (F x).1 = 0) : chR F xs id = (0, xs.set i (F x).2) := by
  unfold chR; rw [h, hg, if_neg (by omega), if_pos h0]; rfl
theorem chR_err {F : Fu → Int × Fu} {xs : List Fu} {id : Int} {i : Nat} {x : Fu} (h : atF xs id = i) (hg : getF xs id = (x, true)) (h0 : (F x).1 ≠ 0) : chR F xs id = ((F x).1, []) := by
  unfold chR; rw [h, hg, if_neg (by omega), if_neg h0]

/-- What is asked of the function that is handed to change. -/
def Mut (gc : Nat) (lb : Array Value) (F : Fu → Int × Fu) (w : World) : Prop :=
  ∀ (W : World) (base g n cap i : Nat) (ys : List Fu) (x : Fu), Below w.heap.size w W → w.heap.size ≤ base → base ≤ W.heap.size → Rw W base g n cap ys → ys[i]? = some x → FuM x →
    Calls Try.prog gc (#[.pointer (some ⟨g, i * 5, none⟩)] ++ lb) W fun e w' => e = .returned (.int .i64 (F x).1) ∧ Rw w' base g n cap (ys.set i (F x).2) ∧ Below base W w'

set_option maxHeartbeats 400000 in
theorem change_any (gc : Nat) (lb : Array Value) (F : Fu → Int × Fu) (eg : ∀ args w, (callFunc gc args).run Try.prog w = .ok (.enter gc args) w)
    (A : Option Addr) (n c : Nat) (xs : List Fu) (id : Int) (w : World) (hs : Fs w w.heap.size A n c xs) (hn : n ≤ 1000) (hm : ∀ x ∈ xs, FuM x) (hF : Mut gc lb F w) :
    Calls Try.prog 42 #[.slice A n c, .int .i64 id, .func (.func gc) #[] lb] w fun e w' => ∃ v, e = .returned (.tuple #[v, .int .i64 (chR F xs id).1]) ∧ Fo w' w.heap.size v (chR F xs id).2 ∧ Below w.heap.size w w' := by
  obtain rfl := hs.len
  have hp := place_any A xs.length c xs id w hs
  have hle := hs.le
  have hbig := hs.big
  have HS := hide hs
  have HM := hide hm
  have HF := hide hF
  clear hs hm hF
  rcases getF_at (xs := xs) (id := id) with ⟨h1, h2⟩ | ⟨i, x, h1, h2, h3, h4⟩
  · rw [chR_none h1]
    rw [h1] at hp
    have HP := hide hp
    clear hp h1 h2
    go_enter Try.func42, Try.ntmps42
    go_wp2_with fail
    refine HP.out.mono ?_
    rintro e w1 ⟨rfl, hb⟩
    go_wp2
    go_ret2
    exact ⟨_, rfl, World.ownsRow_nil _ _ _ _, hb⟩
  · have hi : i < xs.length := (List.getElem?_eq_some_iff.1 h2).1
    rw [h1] at hp
    have HP := hide hp
    have HX := hide h2
    have hcl := fun (w1 : World) (hb : Below w.heap.size w w1) => clone_any A xs.length c xs w1 ((HS.out.below hb).more hb.size) hn
    have HC := hide hcl
    have HE := hide (And.intro h1 h4)
    clear hp hcl h1 h2 h3 h4
    by_cases h0 : (F x).1 = 0
    · rw [chR_ok HE.out.1 HE.out.2 h0]
      have H0 := hide h0
      clear h0
      go_enter Try.func42, Try.ntmps42
      go_wp2_with fail
      refine HP.out.mono ?_
      rintro e w1 ⟨rfl, hb⟩
      have hz1 := hb.size
      go_wp2_with fail
      refine (HC.out _ hb).mono ?_
      rintro e w2 ⟨v, rfl, hown, hb2⟩
      have hz2 := hb2.size
      obtain ⟨g, cap, hv, hgb, hgl⟩ := hown.form (by omega)
      subst hv
      have hr : Rw w2 w1.heap.size g xs.length cap xs := ⟨hown, rfl⟩
      have hcall := HF.out w2 w1.heap.size g xs.length cap i xs x (hb.trans (hb2.mono hb.size)) hb.size hb2.size hr HX.out (HM.out x (List.mem_of_getElem? HX.out))
      rw [H0.out] at hcall
      have HCALL := hide hcall
      have HR := hide hr
      clear hr hcall hown
      go_wp2_with fail
      refine HCALL.out.mono ?_
      rintro e w3 ⟨rfl, hr3, hb3⟩
      go_wp2
      go_ret2
      refine ⟨_, rfl, ?_, hb.trans ((hb2.mono hz1).trans (hb3.mono hz1))⟩
      unfold Fo
      rw [hr3.2]
      exact own_base hr3.1 hz1
    · rw [chR_err HE.out.1 HE.out.2 h0]
      generalize hF1 : (F x).1 = er at h0 ⊢
      have H0 := hide hF1
      have he0 : (er == 0) = false := by simpa using h0
      have he1 : (er != 0) = true := by simpa using h0
      clear h0 hF1
      go_enter Try.func42, Try.ntmps42
      go_wp2_with fail
      refine HP.out.mono ?_
      rintro e w1 ⟨rfl, hb⟩
      have hz1 := hb.size
      go_wp2_with fail
      refine (HC.out _ hb).mono ?_
      rintro e w2 ⟨v, rfl, hown, hb2⟩
      have hz2 := hb2.size
      obtain ⟨g, cap, hv, hgb, hgl⟩ := hown.form (by omega)
      subst hv
      have hr : Rw w2 w1.heap.size g xs.length cap xs := ⟨hown, rfl⟩
      have hcall := HF.out w2 w1.heap.size g xs.length cap i xs x (hb.trans (hb2.mono hb.size)) hb.size hb2.size hr HX.out (HM.out x (List.mem_of_getElem? HX.out))
      rw [H0.out] at hcall
      have HCALL := hide hcall
      have HR := hide hr
      clear hr hcall hown
      go_wp2_with fail
      refine HCALL.out.mono ?_
      rintro e w3 ⟨rfl, hr3, hb3⟩
      go_wp2
      go_ret2
      exact ⟨_, rfl, World.ownsRow_nil _ _ _ _, hb.trans ((hb2.mono hz1).trans (hb3.mono hz1))⟩

theorem e_enc1 : ∀ args w, (callFunc 48 args).run Try.prog w = .ok (.enter 48 args) w := enters_of Try.func48 (by kernel_rfl) rfl
theorem penc_any (A : Option Addr) (n c : Nat) (xs : List Fu) (id am : Int) (w : World) (hs : Fs w w.heap.size A n c xs) (hn : n ≤ 1000) (hm : ∀ x ∈ xs, FuM x) :
    Calls Try.prog 24 #[.slice A n c, .int .i64 id, .int .i64 am] w fun e w' => ∃ v, e = .returned (.tuple #[v, .int .i64 (chR (encF am) xs id).1]) ∧ Fo w' w.heap.size v (chR (encF am) xs id).2 ∧ Below w.heap.size w w' := by
  have hb0 : Below w.heap.size w (w.alloc (.cells #[.int .i64 am] 3)) := (Below.refl _ _).alloc (Nat.le_refl _) _
  have HB := hide hb0
  have HS := hide ((hs.below hb0).more hb0.size)
  have HM := hide hm
  clear hs hm hb0
  go_enter Try.func24, Try.ntmps24
  go_wp2_with fail
  refine (change_any 48 _ (encF am) e_enc1 A n c xs id _ HS.out hn HM.out (fun W base g n' cap i ys x hb h1 h2 hr hx hm => ?_)).mono ?_
  · exact enc1_any base g n' cap i w.heap.size ys x am W hr hx hm h2 ((hb.cell (p := ⟨w.heap.size, 0, none⟩) (by simp)).trans (by simp [go_sem]))
  rintro e w' ⟨v, rfl, hown, hb'⟩
  have hz := HB.out.size
  go_wp2
  go_ret2
  exact ⟨_, rfl, own_base hown hz, HB.out.trans (hb'.mono hz)⟩

theorem e_rel1 : ∀ args w, (callFunc 49 args).run Try.prog w = .ok (.enter 49 args) w := enters_of Try.func49 (by kernel_rfl) rfl
theorem prel_any (A : Option Addr) (n c : Nat) (xs : List Fu) (id am : Int) (w : World) (hs : Fs w w.heap.size A n c xs) (hn : n ≤ 1000) (hm : ∀ x ∈ xs, FuM x) :
    Calls Try.prog 26 #[.slice A n c, .int .i64 id, .int .i64 am] w fun e w' => ∃ v, e = .returned (.tuple #[v, .int .i64 (chR (relF am) xs id).1]) ∧ Fo w' w.heap.size v (chR (relF am) xs id).2 ∧ Below w.heap.size w w' := by
  have hb0 : Below w.heap.size w (w.alloc (.cells #[.int .i64 am] 3)) := (Below.refl _ _).alloc (Nat.le_refl _) _
  have HB := hide hb0
  have HS := hide ((hs.below hb0).more hb0.size)
  have HM := hide hm
  clear hs hm hb0
  go_enter Try.func26, Try.ntmps26
  go_wp2_with fail
  refine (change_any 49 _ (relF am) e_rel1 A n c xs id _ HS.out hn HM.out (fun W base g n' cap i ys x hb h1 h2 hr hx hm => ?_)).mono ?_
  · exact rel1_any base g n' cap i w.heap.size ys x am W hr hx hm ((hb.cell (p := ⟨w.heap.size, 0, none⟩) (by simp)).trans (by simp [go_sem]))
  rintro e w' ⟨v, rfl, hown, hb'⟩
  have hz := HB.out.size
  go_wp2
  go_ret2
  exact ⟨_, rfl, own_base hown hz, HB.out.trans (hb'.mono hz)⟩

theorem e_bud1 : ∀ args w, (callFunc 43 args).run Try.prog w = .ok (.enter 43 args) w := enters_of Try.func43 (by kernel_rfl) rfl
theorem pbud_any (A : Option Addr) (n c : Nat) (xs : List Fu) (id am : Int) (w : World) (hs : Fs w w.heap.size A n c xs) (hn : n ≤ 1000) (hm : ∀ x ∈ xs, FuM x) (ham : I64 am) :
    Calls Try.prog 19 #[.slice A n c, .int .i64 id, .int .i64 am] w fun e w' => ∃ v, e = .returned (.tuple #[v, .int .i64 (chR (budF am) xs id).1]) ∧ Fo w' w.heap.size v (chR (budF am) xs id).2 ∧ Below w.heap.size w w' := by
  have hb0 : Below w.heap.size w (w.alloc (.cells #[.int .i64 am] 3)) := (Below.refl _ _).alloc (Nat.le_refl _) _
  have HB := hide hb0
  have HS := hide ((hs.below hb0).more hb0.size)
  have HM := hide hm
  clear hs hm hb0
  go_enter Try.func19, Try.ntmps19
  go_wp2_with fail
  refine (change_any 43 _ (budF am) e_bud1 A n c xs id _ HS.out hn HM.out (fun W base g n' cap i ys x hb h1 h2 hr hx hm => ?_)).mono ?_
  · exact bud1_any base g n' cap i w.heap.size ys x am W hr hx hm ham ((hb.cell (p := ⟨w.heap.size, 0, none⟩) (by simp)).trans (by simp [go_sem]))
  rintro e w' ⟨v, rfl, hown, hb'⟩
  have hz := HB.out.size
  go_wp2
  go_ret2
  exact ⟨_, rfl, own_base hown hz, HB.out.trans (hb'.mono hz)⟩

theorem e_spd1 : ∀ args w, (callFunc 50 args).run Try.prog w = .ok (.enter 50 args) w := enters_of Try.func50 (by kernel_rfl) rfl
theorem pspd_any (A : Option Addr) (n c : Nat) (xs : List Fu) (id re am : Int) (w : World) (hs : Fs w w.heap.size A n c xs) (hn : n ≤ 1000) (hm : ∀ x ∈ xs, FuM x) :
    Calls Try.prog 28 #[.slice A n c, .int .i64 id, .int .i64 re, .int .i64 am] w fun e w' => ∃ v, e = .returned (.tuple #[v, .int .i64 (chR (spdF re am) xs id).1]) ∧ Fo w' w.heap.size v (chR (spdF re am) xs id).2 ∧ Below w.heap.size w w' := by
  have hb0 : Below w.heap.size w ((w.alloc (.cells #[.int .i64 re] 3)).alloc (.cells #[.int .i64 am] 3)) := ((Below.refl _ _).alloc (Nat.le_refl _) _).alloc (by simp) _
  have HB := hide hb0
  have HS := hide ((hs.below hb0).more hb0.size)
  have HM := hide hm
  clear hs hm hb0
  go_enter Try.func28, Try.ntmps28
  go_wp2_with fail
  refine (change_any 50 _ (spdF re am) e_spd1 A n c xs id _ HS.out hn HM.out (fun W base g n' cap i ys x hb h1 h2 hr hx hm => ?_)).mono ?_
  · exact spd1_any base g n' cap i w.heap.size (w.heap.size + 1) ys x re am W hr hx hm h2 ((hb.cell (p := ⟨w.heap.size, 0, none⟩) (by simp; omega)).trans (cell_new1 _ _ _ _)) ((hb.cell (p := ⟨w.heap.size + 1, 0, none⟩) (by simp)).trans (cell_new2 _ _ _ _))
  rintro e w' ⟨v, rfl, hown, hb'⟩
  have hz := HB.out.size
  go_wp2
  go_ret2
  exact ⟨_, rfl, own_base hown hz, HB.out.trans (hb'.mono hz)⟩
end Go.Proofs.Ytbcapljiangjcaa
