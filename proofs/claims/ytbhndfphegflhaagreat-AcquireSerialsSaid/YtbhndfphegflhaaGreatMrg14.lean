/- Texts laid together by merge.py: FuAd. -/
import Derived.Test.YtbhndfphegflhaaGreatMrg13
import Derived.Test.YtbhndfphegflhaaGreatMrg11
import Derived.Test.YtbhndfphegflhaaGreatMrg12
import Derived.Test.YtbhndfphegflhaaGreatMrg3
set_option linter.unusedSimpArgs false
set_option linter.unusedVariables false
/- Walks: Add of fund. -/
namespace Go.Proofs.YtbhndfphegflhaaGreat
open Go.RowKit

/-- The place of a fund that is added. -/
def plcF (xs : List Fu) (n : Fu) : Nat := (xs.takeWhile (fun x => decide (x.id ≤ n.id))).length
def cho (er : Int) (ys : List Fu) : Int × List Fu := if er = 0 then (0, ys) else (er, [])
def adnF (xs : List Fu) (n : Fu) : Int × List Fu := cho (rightR (xs.take (plcF xs n) ++ n :: xs.drop (plcF xs n))) (xs.take (plcF xs n) ++ n :: xs.drop (plcF xs n))
theorem cho_ok (ys : List Fu) : cho 0 ys = (0, ys) := rfl
theorem cho_err {er : Int} (h : ¬ er = 0) (ys : List Fu) : cho er ys = (er, []) := by unfold cho; rw [if_neg h]
theorem plcF_none {xs : List Fu} {n : Fu} (h : ∀ x ∈ xs, decide (n.id < x.id) = false) : plcF xs n = xs.length := by
  unfold plcF
  have : ∀ ys : List Fu, (∀ x ∈ ys, decide (n.id < x.id) = false) → ys.takeWhile (fun x => decide (x.id ≤ n.id)) = ys := by
    intro ys
    induction ys with
    | nil => intro _; rfl
    | cons y r ih =>
      intro h
      have hy := h y (by simp)
      rw [List.takeWhile_cons, if_pos (by simp at hy ⊢; omega), ih (fun x hx => h x (by simp [hx]))]
  rw [this xs h]
theorem takeWhile_atF {α : Type} {p : α → Bool} : ∀ {xs : List α} {i : Nat} {x : α}, xs[i]? = some x → p x = false → (∀ y ∈ xs.take i, p y = true) → (xs.takeWhile p).length = i
  | [], i, x, h, _, _ => by simp at h
  | y :: r, 0, x, h, hp, _ => by
    simp at h; subst h
    rw [List.takeWhile_cons, if_neg (by rw [hp]; decide)]; rfl
  | y :: r, i + 1, x, h, hp, ha => by
    have hy := ha y (by simp)
    rw [List.takeWhile_cons, if_pos hy, List.length_cons, takeWhile_atF (xs := r) (by simpa using h) hp (fun z hz => ha z (by simp [hz]))]
theorem plcF_some {xs : List Fu} {n x : Fu} {i : Nat} (h : xs[i]? = some x) (hx : decide (n.id < x.id) = true) (ha : ∀ y ∈ xs.take i, decide (n.id < y.id) = false) : plcF xs n = i := by
  unfold plcF
  refine takeWhile_atF h ?_ (fun y hy => ?_)
  · simp at hx ⊢; omega
  · have := ha y hy
    simp at this ⊢; omega
theorem plcF_le {xs : List Fu} {n : Fu} : plcF xs n ≤ xs.length := by
  unfold plcF
  exact (List.takeWhile_sublist _).length_le

/-- What Add hands back: the error and the funds. -/
def FResF (w : World) (r : Int × List Fu) (e : Ending) (w' : World) : Prop :=
  ∃ A n c, e = .returned (.tuple #[.slice A n c, .int .i64 r.1]) ∧ Fs w' w'.heap.size A n c r.2 ∧ Below w.heap.size w w'

theorem add1_any (x : Fu) (id : Int) (a : Nat) (w : World) (ha : a < w.heap.size) (hc : w.cell? ⟨a, 0, none⟩ = some (.int .i64 id)) :
    Calls Tryz.prog 135 #[fuV x, .pointer (some ⟨a, 0, none⟩)] w fun e w' => e = .returned (.bool (decide (id < x.id))) ∧ Below w.heap.size w w' := by
  unfold fuV
  go_enter Tryz.func135, Tryz.ntmps135
  go_wp2
  go_ret
  exact ⟨rfl, (Below.refl _ _).alloc (Nat.le_refl _) _⟩

theorem fclone_at (A : Option Addr) (c : Nat) (xs : List Fu) (w W : World) (hs : Fs W W.heap.size A xs.length c xs) (hn : xs.length ≤ 1000) (hW : Below w.heap.size w W) :
    Calls Tryz.prog 133 #[.slice A xs.length c] W fun e w' => ∃ v, e = .returned v ∧ Fo w' W.heap.size v xs ∧ Below W.heap.size W w' ∧ Below w.heap.size w w' :=
  (clone_any A xs.length c xs W hs hn).mono fun _ _ ⟨v, he, ho, hb⟩ => ⟨v, he, ho, hb, hW.trans (hb.mono hW.size)⟩
theorem finsert_at (v : Value) (i : Nat) (xs : List Fu) (x : Fu) (vb : Nat) (w W : World) (hown : W.ownsRow w.heap.size 57 5 v xs.length (xs.flatMap fuE)) (hi : i ≤ xs.length) (hn : xs.length ≤ 1000)
    (hV : Box W vb 57 (fuC x)) (hne : v.ownBlock ≠ some vb) (hW : Below w.heap.size w W) :
    Calls Tryz.prog 136 #[v, .int .i64 i, .slice (some ⟨vb, 0, none⟩) 1 1] W fun e w' =>
      ∃ A c, e = .returned (.slice A (xs.take i ++ x :: xs.drop i).length c) ∧ Fs w' w'.heap.size A (xs.take i ++ x :: xs.drop i).length c (xs.take i ++ x :: xs.drop i) ∧ Below w.heap.size w w' :=
  (fu_insert w.heap.size v xs.length i xs x vb W hown rfl hi hn hW.size hV hne).mono fun _ w' ⟨v', he, ho, hb⟩ => by
    have hl : (xs.take i ++ x :: xs.drop i).length = xs.length + 1 := by simp; omega
    have ho' : Fo w' w.heap.size v' (xs.take i ++ x :: xs.drop i) := by unfold Fo; rw [hl]; exact ho
    obtain ⟨A1, c1, hv, hsl⟩ := Fo_sl ho' (by omega)
    exact ⟨A1, c1, by rw [he, hv], hsl, hW.trans hb⟩

set_option maxRecDepth 100000 in
set_option maxHeartbeats 2000000 in
theorem padd_any (A : Option Addr) (n c : Nat) (xs : List Fu) (y : Fu) (w : World) (hs : Fs w w.heap.size A n c xs) (hn : n ≤ 1000) :
    Calls Tryz.prog 89 #[.slice A n c, fuV y] w (FResF w (adnF xs y)) := by
  obtain rfl := hs.len
  have hle := hs.le
  have hsl : ∀ W, Below w.heap.size w W → Fs W W.heap.size A xs.length c xs := fun W hW => (hs.below hW).more hW.size
  have HX := hide (Box.new w 57 (fuC y))
  have HSL := hide hsl
  have B0 := hide ((Below.refl w.heap.size w).alloc (Nat.le_refl _) (.cells (fuC y) 57))
  have C0 := hide (Below.refl (w.heap.size + 1) (w.alloc (.cells (fuC y) 57)))
  have h2' := fun W (hW : Below w.heap.size w W) (b : Nat) (hb : b < W.heap.size) (hc : W.cell? ⟨b, 0, none⟩ = some (.int .i64 y.id)) => indexFunc_any 135 #[.pointer (some ⟨b, 0, none⟩)] (fun x => decide (y.id < x.id)) e_add1 A xs.length c xs W (hsl W hW) (fun W' x _ hb' => add1_any x y.id b W' (by have := hb'.size; omega) ((hb'.cell (p := ⟨b, 0, none⟩) hb).trans hc))
  have hP : (ix (fun x => decide (y.id < x.id)) xs = -1 ∧ plcF xs y = xs.length) ∨ (0 ≤ ix (fun x => decide (y.id < x.id)) xs ∧ ix (fun x => decide (y.id < x.id)) xs = plcF xs y) := by
    rcases ix_cases (fun x : Fu => decide (y.id < x.id)) xs with ⟨g1, g3⟩ | ⟨j, z, g1, g2, g3, g5⟩
    · exact .inl ⟨g1, plcF_none g3⟩
    · exact .inr ⟨by omega, by rw [plcF_some g2 g3 g5, g1]⟩
  generalize ix (fun x => decide (y.id < x.id)) xs = k at h2' hP
  have hpl := plcF_le (xs := xs) (n := y)
  have e1 : adnF xs y = cho (rightR (xs.take (plcF xs y) ++ y :: xs.drop (plcF xs y))) (xs.take (plcF xs y) ++ y :: xs.drop (plcF xs y)) := rfl
  rw [e1]
  clear e1
  generalize plcF xs y = m at hP hpl ⊢
  have HC := hide (fun W (hW : Below w.heap.size w W) => fclone_at A c xs w W (hsl W hW) hn hW)
  have hI := fun v vb W => finsert_at v m xs y vb w W
  have hK := fun A1 n1 c1 W hsl => pright_any A1 n1 c1 (xs.take m ++ y :: xs.drop m) W hsl
  generalize xs.take m ++ y :: xs.drop m = ys at hI hK ⊢
  have hK' : ∀ A1 n1 c1 W, Fs W W.heap.size A1 n1 c1 ys → Calls Tryz.prog 107 #[.slice A1 n1 c1] W fun e w' => e = .returned (.int .i64 (rightR ys)) ∧ Below W.heap.size W w' := fun A1 n1 c1 W hs => by
    have := hK A1 n1 c1 W hs
    rwa [right_eq] at this
  generalize rightR ys = er at hK' ⊢
  have HI := hide hI
  have HK := hide hK'
  have H2 := hide h2'
  clear hI hK hK' h2' hsl hs
  obtain ⟨y0, y1, y2, y3, y4⟩ := y
  unfold fuV
  simp only at H2 ⊢
  have q0 := (fu_box HX.out C0.out).2.1
  simp only at q0
  go_enter Tryz.func89, Tryz.ntmps89
  go_wp2_with fail
  refine (H2.out _ B0.out _ (by simp) q0).mono ?_
  rintro e w3 ⟨rfl, hb⟩
  have B3 := hide (B0.out.trans (hb.mono (by simp)))
  have C3 := hide (C0.out.trans (hb.mono (by simp)))
  have hz3 := C3.out.size
  simp at hz3
  clear hb q0 H2
  obtain ⟨_, r0, r1, r2, r3, r4⟩ := fu_box HX.out C3.out
  simp only at r0 r1 r2 r3 r4
  have hzz : w.heap.size < w3.heap.size := by omega
  have HRK := hide (fun W (hW : Below w3.drew.heap.size w3.drew W) => (fu_box HX.out (C3.out.drew.trans (hW.mono (by simpa using hz3)))).2)
  have hvb : ∀ W, Below (w3.alloc (.cells #[.int .i64 y0, .int .i64 y1, .int .i64 y2, .int .i64 y3, .int .i64 y4] 57)).drew.heap.size (w3.alloc (.cells #[.int .i64 y0, .int .i64 y1, .int .i64 y2, .int .i64 y3, .int .i64 y4] 57)).drew W → Box W w3.heap.size 57 (fuC ⟨y0, y1, y2, y3, y4⟩) := fun W hW =>
    ((Box.new w3 57 (fuC ⟨y0, y1, y2, y3, y4⟩)).drew).below hW (by simp)
  have HVB := hide hvb
  clear hvb HX
  have hmm : m ≤ xs.length := hpl
  rcases hP with ⟨rfl, rfl⟩ | ⟨hk0, rfl⟩
  all_goals
    go_wp2_with fail
    go_region_with (first
      | (go_at_call 133; refine (HC.out _ (by first | exact B3.out.drew | exact (B3.out.alloc (by omega) _).drew)).mono ?_; rintro e w4 ⟨v, rfl, hown, hb, hb4⟩;
         first
          | (obtain ⟨s0, s1, s2, s3, s4⟩ := HRK.out _ hb; (try simp only at s0 s1 s2 s3 s4); have hz4 := hb4.size; have HO4 := hide hown; have HB := hide hb; have HB4 := hide hb4; clear hown hb hb4)
          | (have hz4 := hb4.size; have HO4 := hide hown; have HB := hide hb; have HB4 := hide hb4; clear hown hb hb4))
      | (go_at_call 136; refine (HI.out _ _ _ (by first | exact own_base (HO4.out.alloc _) (by simp; omega) | exact own_base HO4.out (by simp; omega)) (by omega) hn (by first | exact Box.new _ _ _ | exact HVB.out _ HB.out) (by intro e; have := HO4.out.lt _ e; simp at this <;> omega) (by first | exact HB4.out.alloc (by omega) _ | exact HB4.out)).mono ?_; rintro e w5 ⟨A1, c1, rfl, hsl5, hb5⟩; have HS5 := hide hsl5; have HB5 := hide hb5; clear hsl5 hb5))
    all_goals
      by_cases he : er = 0
      · subst he
        go_wp2_with fail
        refine (HK.out _ _ _ _ HS5.out).mono ?_
        rintro e w6 ⟨rfl, hb⟩
        go_wp2
        go_ret2
        rw [cho_ok]
        exact ⟨_, _, _, rfl, (HS5.out.below hb).more hb.size, HB5.out.trans (hb.mono HB5.out.size)⟩
      · have heb : (er != 0) = true := by simpa using he
        have HE := hide he
        clear he
        go_wp2_with fail
        refine (HK.out _ _ _ _ HS5.out).mono ?_
        rintro e w6 ⟨rfl, hb⟩
        go_wp2
        go_ret2
        rw [cho_err HE.out]
        exact ⟨none, 0, 0, rfl, Sl.none_, HB5.out.trans (hb.mono HB5.out.size)⟩
end Go.Proofs.YtbhndfphegflhaaGreat
