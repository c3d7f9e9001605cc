/- Texts laid together by merge.py: FuF, FuG, FuH, FuH2, FuI, FuJ, FuK, FuN. -/
import Derived.Test.YtbhndfphegflhaaGreatMrg1
set_option linter.unusedSimpArgs false
set_option linter.unusedVariables false
/- Walks: change, Encumber, Release, Spend, Budget, and the reference's. -/
namespace Go.Proofs.YtbhndfphegflhaaGreat
open Go.RowKit

/-- What changing one fund by F makes of a list: the error code, and the list (empty where there is an error). -/
def chR (F : Fu → Int × Fu) (xs : List Fu) (id : Int) : Int × List Fu :=
  if atF xs id < 0 then (9, []) else if (F (getF xs id).1).1 = 0 then (0, xs.set (atF xs id).toNat (F (getF xs id).1).2) else ((F (getF xs id).1).1, [])

theorem chR_none {F : Fu → Int × Fu} {xs : List Fu} {id : Int} (h : atF xs id = -1) : chR F xs id = (9, []) := by simp [chR, h]
theorem chR_ok {F : Fu → Int × Fu} {xs : List Fu} {id : Int} {i : Nat} {x : Fu} (h : atF xs id = i) (hg : getF xs id = (x, true)) (h0 : (F x).1 = 0) : chR F xs id = (0, xs.set i (F x).2) := by
  unfold chR; rw [h, hg, if_neg (by omega), if_pos h0]; rfl
theorem chR_err {F : Fu → Int × Fu} {xs : List Fu} {id : Int} {i : Nat} {x : Fu} (h : atF xs id = i) (hg : getF xs id = (x, true)) (h0 : (F x).1 ≠ 0) : chR F xs id = ((F x).1, []) := by
  unfold chR; rw [h, hg, if_neg (by omega), if_neg h0]

/-- What is asked of the function that is handed to change. -/
def Mut (gc : Nat) (lb : Array Value) (F : Fu → Int × Fu) (w : World) : Prop :=
  ∀ (W : World) (base g n cap i : Nat) (ys : List Fu) (x : Fu), Below w.heap.size w W → w.heap.size ≤ base → base ≤ W.heap.size → Rw W base g n cap ys → ys[i]? = some x → FuM x →
    Calls Tryz.prog gc (#[.pointer (some ⟨g, i * 5, none⟩)] ++ lb) W fun e w' => e = .returned (.int .i64 (F x).1) ∧ Rw w' base g n cap (ys.set i (F x).2) ∧ Below base W w'

set_option maxHeartbeats 400000 in
theorem change_any (gc : Nat) (lb : Array Value) (F : Fu → Int × Fu) (eg : ∀ args w, (callFunc gc args).run Tryz.prog w = .ok (.enter gc args) w)
    (A : Option Addr) (n c : Nat) (xs : List Fu) (id : Int) (w : World) (hs : Fs w w.heap.size A n c xs) (hn : n ≤ 1000) (hm : ∀ x ∈ xs, FuM x) (hF : Mut gc lb F w) :
    Calls Tryz.prog 120 #[.slice A n c, .int .i64 id, .func (.func gc) #[] lb] w fun e w' => ∃ v, e = .returned (.tuple #[v, .int .i64 (chR F xs id).1]) ∧ Fo w' w.heap.size v (chR F xs id).2 ∧ Below w.heap.size w w' := by
  obtain rfl := hs.len
  have hp := place_any A xs.length c xs id w hs
  have hle := hs.le
  have hbig := hs.big
  have HS := hide hs
  have HM := hide hm
  have HF := hide hF
  clear hs hm hF
  rcases getF_at (xs := xs) (id := id) with ⟨h1, h2⟩ | ⟨i, x, h1, h2, h3, h4⟩
  · rw [chR_none h1]
    rw [h1] at hp
    have HP := hide hp
    clear hp h1 h2
    go_enter Tryz.func120, Tryz.ntmps120
    go_wp2_with fail
    refine HP.out.mono ?_
    rintro e w1 ⟨rfl, hb⟩
    go_wp2
    go_ret2
    exact ⟨_, rfl, World.ownsRow_nil _ _ _ _, hb⟩
  · have hi : i < xs.length := (List.getElem?_eq_some_iff.1 h2).1
    rw [h1] at hp
    have HP := hide hp
    have HX := hide h2
    have hcl := fun (w1 : World) (hb : Below w.heap.size w w1) => clone_any A xs.length c xs w1 ((HS.out.below hb).more hb.size) hn
    have HC := hide hcl
    have HE := hide (And.intro h1 h4)
    clear hp hcl h1 h2 h3 h4
    by_cases h0 : (F x).1 = 0
    · rw [chR_ok HE.out.1 HE.out.2 h0]
      have H0 := hide h0
      clear h0
      go_enter Tryz.func120, Tryz.ntmps120
      go_wp2_with fail
      refine HP.out.mono ?_
      rintro e w1 ⟨rfl, hb⟩
      have hz1 := hb.size
      go_wp2_with fail
      refine (HC.out _ hb).mono ?_
      rintro e w2 ⟨v, rfl, hown, hb2⟩
      have hz2 := hb2.size
      obtain ⟨g, cap, hv, hgb, hgl⟩ := hown.form (by omega)
      subst hv
      have hr : Rw w2 w1.heap.size g xs.length cap xs := ⟨hown, rfl⟩
      have hcall := HF.out w2 w1.heap.size g xs.length cap i xs x (hb.trans (hb2.mono hb.size)) hb.size hb2.size hr HX.out (HM.out x (List.mem_of_getElem? HX.out))
      rw [H0.out] at hcall
      have HCALL := hide hcall
      have HR := hide hr
      clear hr hcall hown
      go_wp2_with fail
      refine HCALL.out.mono ?_
      rintro e w3 ⟨rfl, hr3, hb3⟩
      go_wp2
      go_ret2
      refine ⟨_, rfl, ?_, hb.trans ((hb2.mono hz1).trans (hb3.mono hz1))⟩
      unfold Fo
      rw [hr3.2]
      exact own_base hr3.1 hz1
    · rw [chR_err HE.out.1 HE.out.2 h0]
      generalize hF1 : (F x).1 = er at h0 ⊢
      have H0 := hide hF1
      have he0 : (er == 0) = false := by simpa using h0
      have he1 : (er != 0) = true := by simpa using h0
      clear h0 hF1
      go_enter Tryz.func120, Tryz.ntmps120
      go_wp2_with fail
      refine HP.out.mono ?_
      rintro e w1 ⟨rfl, hb⟩
      have hz1 := hb.size
      go_wp2_with fail
      refine (HC.out _ hb).mono ?_
      rintro e w2 ⟨v, rfl, hown, hb2⟩
      have hz2 := hb2.size
      obtain ⟨g, cap, hv, hgb, hgl⟩ := hown.form (by omega)
      subst hv
      have hr : Rw w2 w1.heap.size g xs.length cap xs := ⟨hown, rfl⟩
      have hcall := HF.out w2 w1.heap.size g xs.length cap i xs x (hb.trans (hb2.mono hb.size)) hb.size hb2.size hr HX.out (HM.out x (List.mem_of_getElem? HX.out))
      rw [H0.out] at hcall
      have HCALL := hide hcall
      have HR := hide hr
      clear hr hcall hown
      go_wp2_with fail
      refine HCALL.out.mono ?_
      rintro e w3 ⟨rfl, hr3, hb3⟩
      go_wp2
      go_ret2
      exact ⟨_, rfl, World.ownsRow_nil _ _ _ _, hb.trans ((hb2.mono hz1).trans (hb3.mono hz1))⟩

theorem e_enc1 : ∀ args w, (callFunc 121 args).run Tryz.prog w = .ok (.enter 121 args) w := enters_of Tryz.func121 (by kernel_rfl) rfl
theorem penc_any (A : Option Addr) (n c : Nat) (xs : List Fu) (id am : Int) (w : World) (hs : Fs w w.heap.size A n c xs) (hn : n ≤ 1000) (hm : ∀ x ∈ xs, FuM x) :
    Calls Tryz.prog 63 #[.slice A n c, .int .i64 id, .int .i64 am] w fun e w' => ∃ v, e = .returned (.tuple #[v, .int .i64 (chR (encF am) xs id).1]) ∧ Fo w' w.heap.size v (chR (encF am) xs id).2 ∧ Below w.heap.size w w' := by
  have hb0 : Below w.heap.size w (w.alloc (.cells #[.int .i64 am] 3)) := (Below.refl _ _).alloc (Nat.le_refl _) _
  have HB := hide hb0
  have HS := hide ((hs.below hb0).more hb0.size)
  have HM := hide hm
  clear hs hm hb0
  go_enter Tryz.func63, Tryz.ntmps63
  go_wp2_with fail
  refine (change_any 121 _ (encF am) e_enc1 A n c xs id _ HS.out hn HM.out (fun W base g n' cap i ys x hb h1 h2 hr hx hm => ?_)).mono ?_
  · exact enc1_any base g n' cap i w.heap.size ys x am W hr hx hm h2 ((hb.cell (p := ⟨w.heap.size, 0, none⟩) (by simp)).trans (by simp [go_sem]))
  rintro e w' ⟨v, rfl, hown, hb'⟩
  have hz := HB.out.size
  go_wp2
  go_ret2
  exact ⟨_, rfl, own_base hown hz, HB.out.trans (hb'.mono hz)⟩

theorem e_bud1 : ∀ args w, (callFunc 137 args).run Tryz.prog w = .ok (.enter 137 args) w := enters_of Tryz.func137 (by kernel_rfl) rfl
theorem pbud_any (A : Option Addr) (n c : Nat) (xs : List Fu) (id am : Int) (w : World) (hs : Fs w w.heap.size A n c xs) (hn : n ≤ 1000) (hm : ∀ x ∈ xs, FuM x) (ham : I64 am) :
    Calls Tryz.prog 91 #[.slice A n c, .int .i64 id, .int .i64 am] w fun e w' => ∃ v, e = .returned (.tuple #[v, .int .i64 (chR (budF am) xs id).1]) ∧ Fo w' w.heap.size v (chR (budF am) xs id).2 ∧ Below w.heap.size w w' := by
  have hb0 : Below w.heap.size w (w.alloc (.cells #[.int .i64 am] 3)) := (Below.refl _ _).alloc (Nat.le_refl _) _
  have HB := hide hb0
  have HS := hide ((hs.below hb0).more hb0.size)
  have HM := hide hm
  clear hs hm hb0
  go_enter Tryz.func91, Tryz.ntmps91
  go_wp2_with fail
  refine (change_any 137 _ (budF am) e_bud1 A n c xs id _ HS.out hn HM.out (fun W base g n' cap i ys x hb h1 h2 hr hx hm => ?_)).mono ?_
  · exact bud1_any base g n' cap i w.heap.size ys x am W hr hx hm ham ((hb.cell (p := ⟨w.heap.size, 0, none⟩) (by simp)).trans (by simp [go_sem]))
  rintro e w' ⟨v, rfl, hown, hb'⟩
  have hz := HB.out.size
  go_wp2
  go_ret2
  exact ⟨_, rfl, own_base hown hz, HB.out.trans (hb'.mono hz)⟩

end Go.Proofs.YtbhndfphegflhaaGreat

/- Walks: the reference's Encumber, Release, Spend, Budget. -/
namespace Go.Proofs.YtbhndfphegflhaaGreat
open Go.RowKit

end Go.Proofs.YtbhndfphegflhaaGreat

/- Walks: Transfer, and the reference's. -/
namespace Go.Proofs.YtbhndfphegflhaaGreat
open Go.RowKit

theorem idxP_map {α : Type} (p : α → Bool) : ∀ (xs ys : List α) (k : Int), xs.map p = ys.map p → idxP p xs k = idxP p ys k
  | [], [], _, _ => rfl
  | [], _ :: _, _, h => by simp at h
  | _ :: _, [], _, h => by simp at h
  | x :: r, y :: s, k, h => by
    simp only [List.map_cons, List.cons.injEq] at h
    rw [idxP, idxP, h.1, idxP_map p r s (k + 1) h.2]
theorem atF_set {xs : List Fu} {k : Nat} {x y : Fu} (hx : xs[k]? = some x) (he : y.id = x.id) (id : Int) : atF (xs.set k y) id = atF xs id := by
  unfold atF ix
  apply idxP_map
  rw [List.map_set, he]
  exact set_same (by rw [List.getElem?_map, hx]; rfl)

end Go.Proofs.YtbhndfphegflhaaGreat

/- Walks: Transfer. -/
namespace Go.Proofs.YtbhndfphegflhaaGreat
open Go.RowKit


end Go.Proofs.YtbhndfphegflhaaGreat

/- Walks: parents, Within, loop. -/
namespace Go.Proofs.YtbhndfphegflhaaGreat
open Go.RowKit Go.Maps

theorem wf64 {a : Int} (h : I64 a) : (Lit.int .i64 a).wf = true := by
  obtain ⟨h1, h2⟩ := h
  exact WalkArith.wf_i64 (by omega)

/-- The parent of the last fund with an ID; 0 if there is none. -/
def upF (xs : List Fu) : Int → Int := xs.foldl (fun f x => fun y => if y = x.id then x.parent else f y) (fun _ => 0)
theorem upF_snoc (xs : List Fu) (x : Fu) (y : Int) : upF (xs ++ [x]) y = if y = x.id then x.parent else upF xs y := by
  simp [upF, List.foldl_append]
theorem upF_step {xs : List Fu} {k : Nat} {x : Fu} (h : xs[k]? = some x) (y : Int) : upF (xs.take (k + 1)) y = if y = x.id then x.parent else upF (xs.take k) y := by
  obtain ⟨hk, rfl⟩ := List.getElem?_eq_some_iff.1 h
  rw [List.take_succ_eq_append_getElem hk, upF_snoc]

theorem zero_int (w : World) : (zeroValue 3).run Tryz.prog w = .ok (.int .i64 0) w := by kernel_rfl
set_option maxHeartbeats 400000 in
theorem parents_any (A : Option Addr) (n c : Nat) (xs : List Fu) (w : World) (hs : Fs w w.heap.size A n c xs) (hw : ∀ x ∈ xs, I64 x.id) :
    Calls Tryz.prog 181 #[.slice A n c] w fun e w' => ∃ b, e = .returned (.map (some b)) ∧ w.heap.size ≤ b ∧ MapI Tryz.prog 3 w' b n (.int .i64 0) (fun y => .int .i64 (upF xs y)) ∧ Below w.heap.size w w' := by
  have hle := hs.le
  have hbig := hs.big
  have HS := hide hs
  have HW := hide hw
  clear hs hw
  have hmm := @run_makeMap Tryz.prog
  go_enter Tryz.func181, Tryz.ntmps181
  go_wp2
  go_loopw [9] (fun i wr => ∃ k : Nat, k ≤ n ∧ i = .int .i64 k ∧ MapI Tryz.prog 3 wr w.heap.size k (.int .i64 0) (fun y => .int .i64 (upF (xs.take k) y)) ∧ Below w.heap.size w wr) (fun i _ => n - (intOf i).toNat)
  case atStart => exact ⟨0, Nat.zero_le _, rfl, MapI.made _ _ _ _, (Below.refl _ _).alloc (Nat.le_refl _) _⟩
  case round =>
    obtain ⟨k, hk, rfl, hmap, hb⟩ := hrel
    have HB := hide hb
    have HM := hide hmap
    have hz := hb.size
    clear hb hmap
    by_cases hlt : k < n
    · obtain ⟨b, off, x, rfl, hbB, hx, c0, c1, c2, c3, c4⟩ := Fs_at (HS.out.below HB.out) hlt
      have HX := hide hx
      have hwf := wf64 (HW.out x (List.mem_of_getElem? hx))
      have HWF := hide hwf
      clear hx hwf
      go_wp2_with (at_mapUpdate; go_must (refine wpList_updateI _ rfl _ _ _ 89 rfl 3 3 Tryz.underlying3 Tryz.underlying89 (.int .i64 0) w.heap.size k _ rfl (HM.out.alloc _) (by unfold maxLen; omega) _ _ rfl rfl HWF.out ?_))
      intro w1 hm1 hg1
      have HM1 := hide hm1
      have hb1 := (HB.out.alloc hz (.cells #[.int .i64 x.id, .int .i64 x.parent, .int .i64 x.budget, .int .i64 x.enc, .int .i64 x.spent] 57)).grown hg1 (by simp; omega) (fun j hj => by cases hj; exact Nat.le_refl _)
      have HB1 := hide hb1
      clear hm1 hg1 hb1
      go_wp2
      go_roundw
      case rel =>
        refine ⟨k + 1, by omega, by go_num, HM1.out.congr (fun y _ => ?_), HB1.out⟩
        rw [upF_step HX.out]
        by_cases e : y = x.id <;> simp [e]
      case measure => simp [intOf]; omega
    · obtain rfl : k = n := by omega
      go_wp2
      go_ret
      refine ⟨_, rfl, Nat.le_refl _, HM.out.congr (fun y _ => ?_), HB.out⟩
      rw [List.take_of_length_le (by have := HS.out.len; omega)]

/-- Whether a fund is another one or below it, looking at most f steps up. -/
def wiR (xs : List Fu) : Nat → Int → Int → Bool
  | 0, _, _ => false
  | f + 1, id, top => if id = top then true else if (getF xs id).2 = true then wiR xs f (getF xs id).1.parent top else false

set_option maxHeartbeats 400000 in
theorem within_any (A : Option Addr) (n c : Nat) (xs : List Fu) (id top : Int) (w : World) (B : Nat) (hs : Fs w B A n c xs) :
    Calls Tryz.prog 84 #[.slice A n c, .int .i64 id, .int .i64 top] w fun e w' => e = .returned (.bool (wiR xs (n + 1) id top)) ∧ w = w' := by
  have hle := hs.le
  have hbig := hs.big
  have HS := hide hs
  clear hs
  go_enter Tryz.func84, Tryz.ntmps84
  go_wp2
  go_loop [1, 7] (fun d i => ∃ (k : Nat) (id' : Int), k ≤ n + 1 ∧ i = .int .i64 k ∧ d = .int .i64 id' ∧ wiR xs (n + 1) id top = wiR xs (n + 1 - k) id' top) (fun _ i => n + 1 - (intOf i).toNat)
  case atStart => exact ⟨0, id, Nat.zero_le _, rfl, rfl, rfl⟩
  case round =>
    obtain ⟨k, id', hk, rfl, rfl, ha⟩ := hrel
    have HA := hide ha
    clear ha
    by_cases hlt : k ≤ n
    · have e1 : n + 1 - k = (n - k) + 1 := by omega
      by_cases hit : id' = top
      · have hit' : (id' == top) = true := by simpa using hit
        have HI := hide hit
        clear hit
        go_wp2
        go_ret
        exact ⟨ret_bool (by rw [HA.out, e1, wiR, if_pos HI.out]), rfl⟩
      · have hit' : (id' == top) = false := by simpa using hit
        have HI := hide hit
        clear hit
        have hp := fun w1 (_ : w = w1) => at_any A n c xs id' w _ HS.out
        rcases getF_at (xs := xs) (id := id') with ⟨h1, h2⟩ | ⟨i, x, h1, h2, h3, h4⟩
        · rw [h1] at hp
          have HP := hide hp
          have HG := hide h2
          clear hp h1 h2
          go_wp2_with fail
          refine (HP.out _ rfl).mono ?_
          rintro e w1 ⟨rfl, rfl⟩
          go_wp2
          go_ret
          exact ⟨ret_bool (by rw [HA.out, e1, wiR, if_neg HI.out, HG.out, if_neg (by decide)]), rfl⟩
        · rw [h1] at hp
          have hi : i < n := by have := (List.getElem?_eq_some_iff.1 h2).1; have := HS.out.len; omega
          obtain ⟨b, off, y, rfl, hbB, hy, c0, c1, c2, c3, c4⟩ := Fs_at HS.out hi
          obtain rfl : x = y := by rw [hy] at h2; exact (Option.some.inj h2).symm
          have HP := hide hp
          have HG := hide h4
          clear hp h1 h2 h3 h4 hy c0 c2 c3 c4
          go_wp2_with fail
          refine (HP.out _ rfl).mono ?_
          rintro e w1 ⟨rfl, rfl⟩
          go_wp2
          go_round
          case rel => exact ⟨k + 1, x.parent, by omega, by go_num, rfl, by rw [HA.out, e1, wiR, if_neg HI.out, HG.out, if_pos rfl, show n + 1 - (k + 1) = n - k from by omega]⟩
          case measure => simp [intOf]; omega
    · go_wp2
      go_ret
      exact ⟨ret_bool (by rw [HA.out, show n + 1 - k = 0 from by omega]; rfl), rfl⟩

/-- The program's way up: f steps at most until 0; true if it is not reached. -/
def lpR (up : Int → Int) : Nat → Int → Bool
  | 0, id => decide (id ≠ 0)
  | f + 1, id => if id = 0 then false else lpR up f (up id)
end Go.Proofs.YtbhndfphegflhaaGreat

/- Walks: loop. -/
namespace Go.Proofs.YtbhndfphegflhaaGreat
open Go.RowKit Go.Maps

theorem upF_in : ∀ (xs : List Fu) (f : Int → Int) (P : Int → Prop), (∀ y, P (f y)) → (∀ x ∈ xs, P x.parent) → ∀ y, P (xs.foldl (fun f x => fun y => if y = x.id then x.parent else f y) f y)
  | [], _, _, hf, _, y => hf y
  | x :: r, f, P, hf, hx, y => by
    rw [List.foldl_cons]
    refine upF_in r _ P (fun z => ?_) (fun z hz => hx z (by simp [hz])) y
    by_cases e : z = x.id
    · simp only [e, if_true]; exact hx x (by simp)
    · simp only [e, if_false]; exact hf z
theorem upF_I64 {xs : List Fu} (h : ∀ x ∈ xs, FuW x) (y : Int) : I64 (upF xs y) :=
  upF_in xs _ I64 (fun _ => ⟨by omega, by omega⟩) (fun x hx => (h x hx).parent) y

def loopR (xs : List Fu) : Bool := xs.any (fun f => lpR (upF xs) (xs.length + 1) f.parent)

theorem any_stepF {α : Type} {p : α → Bool} {xs : List α} {k : Nat} {x : α} (h : xs[k]? = some x) : (xs.drop k).any p = (p x || (xs.drop (k + 1)).any p) := by
  obtain ⟨hk, rfl⟩ := List.getElem?_eq_some_iff.1 h
  rw [List.drop_eq_getElem_cons hk, List.any_cons]

set_option maxHeartbeats 400000 in
theorem loop_any (A : Option Addr) (n c : Nat) (xs : List Fu) (w : World) (hs : Fs w w.heap.size A n c xs) (hw : ∀ x ∈ xs, FuW x) :
    Calls Tryz.prog 153 #[.slice A n c] w fun e w' => e = .returned (.bool (loopR xs)) ∧ Below w.heap.size w w' := by
  obtain rfl := hs.len
  have hle := hs.le
  have hbig := hs.big
  have hpar := parents_any A xs.length c xs w hs (fun x hx => (hw x hx).id)
  have hup := upF_I64 hw
  have HS := hide hs
  have HW := hide hw
  have HP := hide hpar
  have HU := hide hup
  clear hs hw hpar hup
  go_enter Tryz.func153, Tryz.ntmps153
  go_wp2_with fail
  refine HP.out.mono ?_
  rintro e w1 ⟨mb, rfl, hmb, hmap, hb1⟩
  have HM := hide hmap
  have HB1 := hide hb1
  have hz1 := hb1.size
  have hml := hmap.lt
  clear hmap hb1
  go_wp2
  go_loopw [12] (fun i wr => ∃ k : Nat, k ≤ xs.length ∧ i = .int .i64 k ∧ Below w1.heap.size w1 wr ∧ loopR xs = (xs.drop k).any (fun f => lpR (upF xs) (xs.length + 1) f.parent)) (fun i _ => xs.length - (intOf i).toNat)
  case atStart => exact ⟨0, Nat.zero_le _, rfl, Below.refl _ _, rfl⟩
  case round =>
    obtain ⟨k, hk, rfl, hb, ha⟩ := hrel
    have HA := hide ha
    have HB := hide hb
    have hz := hb.size
    clear ha hb
    by_cases hlt : k < xs.length
    · obtain ⟨b, off, x, rfl, hbB, hx, c0, c1, c2, c3, c4⟩ := Fs_at (HS.out.below (HB1.out.trans (HB.out.mono hz1))) hlt
      have hxw := HW.out x (List.mem_of_getElem? hx)
      have HX := hide (any_stepF (p := fun f => lpR (upF xs) (xs.length + 1) f.parent) hx)
      have hxp := hxw.parent
      have HXP := hide hxp
      clear hx hxw hxp
      go_wp2
      have hmw : MapI Tryz.prog 3 (wr.alloc (.cells #[.int .i64 x.id, .int .i64 x.parent, .int .i64 x.budget, .int .i64 x.enc, .int .i64 x.spent] 57)) mb xs.length (.int .i64 0) (fun y => .int .i64 (upF xs y)) := (HM.out.below HB.out hml).alloc _
      have hbw := HB.out.alloc hz (.cells #[.int .i64 x.id, .int .i64 x.parent, .int .i64 x.budget, .int .i64 x.enc, .int .i64 x.spent] 57)
      clear c0 c1 c2 c3 c4
      obtain ⟨wo, hwo⟩ : ∃ wo : World, wo = wr.alloc (.cells #[.int .i64 x.id, .int .i64 x.parent, .int .i64 x.budget, .int .i64 x.enc, .int .i64 x.spent] 57) := ⟨_, rfl⟩
      rw [← hwo] at hmw hbw ⊢
      clear hwo
      have HMW := hide hmw
      have HBW := hide hbw
      clear hmw hbw
      go_loop [6, 7] (fun d s => ∃ (j : Nat) (id' : Int), j ≤ xs.length + 1 ∧ s = .int .i64 j ∧ d = .int .i64 id' ∧ I64 id' ∧ lpR (upF xs) (xs.length + 1) x.parent = lpR (upF xs) (xs.length + 1 - j) id') (fun _ s => xs.length + 1 - (intOf s).toNat)
      case atStart => exact ⟨0, x.parent, by omega, rfl, rfl, HXP.out, rfl⟩
      case round =>
        obtain ⟨j, id', hj, rfl, rfl, hid, hl⟩ := hrel
        have HL := hide hl
        have HI := hide hid
        clear hl hid
        by_cases h0 : id' = 0
        · subst h0
          go_wp2
          go_roundw
          case rel => 
            refine ⟨k + 1, by omega, by go_num, HBW.out, ?_⟩
            rw [HA.out, HX.out, HL.out]
            cases hjj : xs.length + 1 - j <;> simp [lpR]
          case measure => simp [intOf]; omega
        · have h0' : (id' == 0) = false := by simpa using h0
          have h0'' : (id' != 0) = true := by simpa using h0
          have H0 := hide h0
          clear h0
          by_cases hjn : xs.length < j
          · go_wp2
            go_ret
            refine ⟨ret_bool ?_, HB1.out.trans (HBW.out.mono hz1)⟩
            rw [HA.out, HX.out, HL.out, show xs.length + 1 - j = 0 from by omega]
            simp [lpR, H0.out]
          · go_wp2_with (at_lookup; go_must (refine wpList_lookupI _ rfl _ _ 89 rfl 3 3 Tryz.underlying3 Tryz.underlying89 (.int .i64 0) (zero_int _) mb _ _ rfl HMW.out _ rfl (wf64 HI.out) ?_))
            go_round
            case rel =>
              refine ⟨j + 1, upF xs id', by omega, by go_num, rfl, HU.out id', ?_⟩
              rw [HL.out, show xs.length + 1 - j = (xs.length + 1 - (j + 1)) + 1 from by omega, lpR, if_neg H0.out]
            case measure => simp [intOf]; omega
    · go_wp2
      go_ret
      exact ⟨ret_bool (by rw [HA.out, List.drop_eq_nil_of_le (by omega)]; rfl), HB1.out.trans (HB.out.mono hz1)⟩
end Go.Proofs.YtbhndfphegflhaaGreat

/- Walks: Right. -/
namespace Go.Proofs.YtbhndfphegflhaaGreat
open Go.RowKit Go.Maps

/-- A fund whose numbers are not within their limits. -/
def badF (x : Fu) : Bool := decide (x.id < 1) || decide (9999 < x.id) || decide (x.parent < 0) || decide (9999 < x.parent) || !mny x.budget || !mny x.enc || !mny x.spent
/-- The first error of the first pass; p is the ID before. -/
def chkA : Option Int → List Fu → Int
  | _, [] => 0
  | p, x :: r => if p.any (fun q => decide (x.id ≤ q)) = true then 7 else if badF x = true then 2 else chkA (some x.id) r
def prevAt (xs : List Fu) : Nat → Option Int
  | 0 => none
  | k + 1 => (xs[k]?).map (·.id)

theorem chkA_step {xs : List Fu} {k : Nat} {x : Fu} (h : xs[k]? = some x) :
    chkA (prevAt xs k) (xs.drop k) = if (prevAt xs k).any (fun q => decide (x.id ≤ q)) = true then 7 else if badF x = true then 2 else chkA (prevAt xs (k + 1)) (xs.drop (k + 1)) := by
  obtain ⟨hk, rfl⟩ := List.getElem?_eq_some_iff.1 h
  rw [List.drop_eq_getElem_cons hk, chkA, prevAt, h]; rfl

theorem badF_ok {x : Fu} (h : badF x = false) : (1 ≤ x.id ∧ x.id ≤ 9999) ∧ (0 ≤ x.parent ∧ x.parent ≤ 9999) ∧ FuM x ∧ FuW x := by
  simp only [badF, mny, Bool.or_eq_false_iff, decide_eq_false_iff_not, Bool.not_eq_false', Bool.and_eq_true, decide_eq_true_eq] at h
  obtain ⟨⟨⟨⟨⟨⟨h1, h2⟩, h3⟩, h4⟩, h5, h6⟩, h7, h8⟩, h9, h10⟩ := h
  refine ⟨⟨by omega, by omega⟩, ⟨by omega, by omega⟩, ⟨⟨h5, h6⟩, ⟨h7, h8⟩, ⟨h9, h10⟩⟩, ?_⟩
  constructor <;> (unfold I64; omega)
theorem chkA_ok : ∀ (xs : List Fu) (p : Option Int), chkA p xs = 0 → ∀ x ∈ xs, badF x = false
  | [], _, _, x, hx => by simp at hx
  | y :: r, p, h, x, hx => by
    rw [chkA] at h
    split at h
    · simp at h
    · split at h
      · simp at h
      · rename_i hb
        rcases List.mem_cons.1 hx with rfl | hx
        · simpa using hb
        · exact chkA_ok r _ h x hx

def noneF (xs : List Fu) : Bool := xs.any (fun f => decide (f.parent ≠ 0) && decide (atF xs f.parent < 0))

/-- Where the first pass finds nothing all is within its limits. -/
theorem mny_iff {n : Int} : mny n = true ↔ 0 ≤ n ∧ n ≤ 100000000 := by simp [mny]
theorem any_none {f : Int → Bool} : (none : Option Int).any f = false := rfl

def rightP (xs : List Fu) : Int :=
  if 32 < xs.length then 13 else if chkA none xs ≠ 0 then chkA none xs else if noneF xs = true then 9 else if loopR xs = true then 11
  else if 0 ≤ ix (fun f => decide (freeF f < 0)) xs then 17 else 0
/-- A fund is above itself, as the reference looks for it. -/
def cycR (xs : List Fu) : Bool := xs.any (fun f => decide (f.parent ≠ 0) && wiR xs (xs.length + 1) f.parent f.id)
def overF (xs : List Fu) : Bool := xs.any (fun f => decide (f.budget < f.enc + f.spent))
def rightR (xs : List Fu) : Int :=
  if 32 < xs.length then 13 else if chkA none xs ≠ 0 then chkA none xs else if noneF xs = true then 9 else if cycR xs = true then 11
  else if overF xs = true then 17 else 0
end Go.Proofs.YtbhndfphegflhaaGreat

/- Walks: Close, budgets. -/
namespace Go.Proofs.YtbhndfphegflhaaGreat
open Go.RowKit Go.Maps

/-- What closing a year makes of a fund. -/
def clsF (keep : Bool) (x : Fu) : Fu := if keep = true then { x with budget := x.budget - x.spent, spent := 0 } else { x with budget := x.enc, spent := 0 }

theorem mapTo {α : Type} {f : α → α} {xs : List α} {k : Nat} {x : α} (h : xs[k]? = some x) : ((xs.take k).map f ++ xs.drop k).set k (f x) = (xs.take (k + 1)).map f ++ xs.drop (k + 1) := by
  obtain ⟨hk, rfl⟩ := List.getElem?_eq_some_iff.1 h
  have e : k - (List.map f (List.take k xs)).length = 0 := by simp; omega
  rw [List.set_append_right _ _ (by simp; omega), e, List.drop_eq_getElem_cons hk, List.set_cons_zero, List.take_succ_eq_append_getElem hk, List.map_append, List.append_assoc]
  rfl
theorem mapAt {α : Type} {f : α → α} {xs : List α} {k : Nat} {x : α} (h : xs[k]? = some x) : ((xs.take k).map f ++ xs.drop k)[k]? = some x := by
  obtain ⟨hk, rfl⟩ := List.getElem?_eq_some_iff.1 h
  rw [List.getElem?_append_right (by simp; omega)]
  have e : k - (List.map f (List.take k xs)).length = 0 := by simp; omega
  rw [e]
  simp
set_option maxHeartbeats 400000 in
theorem pclose_any (A : Option Addr) (n c : Nat) (xs : List Fu) (keep : Bool) (w : World) (hs : Fs w w.heap.size A n c xs) (hn : n ≤ 1000) (hm : ∀ x ∈ xs, FuM x) :
    Calls Tryz.prog 85 #[.slice A n c, .bool keep] w fun e w' => ∃ v, e = .returned (.tuple #[v, .int .i64 0]) ∧ Fo w' w.heap.size v (xs.map (clsF keep)) ∧ Below w.heap.size w w' := by
  obtain rfl := hs.len
  have hcl := clone_any A xs.length c xs w hs hn
  have HC := hide hcl
  have HM := hide hm
  clear hs hm hcl
  go_enter Tryz.func85, Tryz.ntmps85
  go_wp2_with fail
  refine HC.out.mono ?_
  rintro e w1 ⟨v, rfl, hown, hb⟩
  by_cases h0 : xs.length = 0
  · have hx : xs = [] := List.eq_nil_of_length_eq_zero h0
    subst hx
    have hform : ∃ A' c', v = .slice A' 0 c' := by
      rcases hown.2 with ⟨rfl, _⟩ | ⟨g, cap, _, rfl, _⟩
      · exact ⟨none, 0, rfl⟩
      · exact ⟨_, cap, rfl⟩
    obtain ⟨A', c', hv⟩ := hform
    subst hv
    have HO := hide hown
    clear hown h0
    go_wp2
    refine wp_loop_rounds 1 ?_
    rw [rounds_succ]
    go_wp2
    go_ret2
    exact ⟨_, rfl, HO.out, hb⟩
  · obtain ⟨g, cap, hv, hgb, hgl⟩ := hown.form (by omega)
    subst hv
    have hr : Rw w1 w.heap.size g xs.length cap xs := ⟨hown, rfl⟩
    have HR := hide hr
    have HB := hide hb
    clear hr hown hb h0
    go_wp2
    go_loopw [7, 8, 13] (fun _ _ i wr => ∃ k : Nat, k ≤ xs.length ∧ i = .int .i64 k ∧ Rw wr w.heap.size g xs.length cap ((xs.take k).map (clsF keep) ++ xs.drop k) ∧ Below w.heap.size w wr) (fun _ _ i _ => xs.length - (intOf i).toNat)
    case atStart => exact ⟨0, Nat.zero_le _, rfl, by simpa using HR.out, HB.out⟩
    case round =>
      obtain ⟨k, hk, rfl, hr, hb⟩ := hrel
      have HRR := hide hr
      have HBB := hide hb
      clear HR HB
      by_cases hlt : k < xs.length
      · have hx : xs[k]? = some (xs[k]) := List.getElem?_eq_getElem hlt
        generalize xs[k] = x at hx
        obtain ⟨⟨c0, c1, c2, c3, c4⟩, hfz⟩ := Rw_cells hr (mapAt hx)
        have hM := HM.out x (List.mem_of_getElem? hx)
        have HX := hide hx
        obtain ⟨b1, b2⟩ := hM.b
        obtain ⟨s1, s2⟩ := hM.s
        clear hr hb hx hM
        cases keep with
        | true =>
          go_wp2
          go_region
          go_wp2
          go_roundw
          case rel =>
            have r1 := Rw_set (j := 2) (y := { x with budget := x.budget - x.spent }) (u := .int .i64 (x.budget - x.spent)) HRR.out (mapAt HX.out) (by omega) rfl
            have r2 := Rw_set (j := 4) (y := clsF true x) (u := .int .i64 0) r1 (set_get (mapAt HX.out)) (by omega) rfl
            rw [List.set_set, mapTo HX.out] at r2
            exact ⟨k + 1, by omega, by go_num, r2, (HBB.out.drew.setCell hgb _).setCell hgb _⟩
          case measure => simp [intOf]; omega
        | false =>
          go_wp2
          go_roundw
          case rel =>
            have r1 := Rw_set (j := 2) (y := { x with budget := x.enc }) (u := .int .i64 x.enc) HRR.out (mapAt HX.out) (by omega) rfl
            have r2 := Rw_set (j := 4) (y := clsF false x) (u := .int .i64 0) r1 (set_get (mapAt HX.out)) (by omega) rfl
            rw [List.set_set, mapTo HX.out] at r2
            exact ⟨k + 1, by omega, by go_num, r2, (HBB.out.setCell hgb _).setCell hgb _⟩
          case measure => simp [intOf]; omega
      · obtain rfl : k = xs.length := by omega
        clear hr hb
        go_wp2
        go_ret2
        refine ⟨_, rfl, ?_, HBB.out⟩
        have h1 := HRR.out.1
        rw [List.take_of_length_le (Nat.le_refl _), List.drop_eq_nil_of_le (Nat.le_refl _), List.append_nil] at h1
        unfold Fo
        rw [List.length_map]
        exact h1

end Go.Proofs.YtbhndfphegflhaaGreat
