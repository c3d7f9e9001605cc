/- Walks: Out of loan. -/
import Derived.Test.YtelkidhgbjhboaaLoG
namespace Go.Proofs.Ytelkidhgbjhboaa
open Go.RowKit

theorem plc_none {xs : List Lo} {n : Lo} (h : ∀ x ∈ xs, decide (n.item < x.item) = false) : plcL xs n = xs.length := by
  unfold plcL
  have : ∀ ys : List Lo, (∀ x ∈ ys, decide (n.item < x.item) = false) → ys.takeWhile (fun x => decide (x.item ≤ n.item)) = ys := by
    intro ys
    induction ys with
    | nil => intro _; rfl
    | cons y r ih =>
      intro h
      have hy := h y (by simp)
      rw [List.takeWhile_cons, if_pos (by simp at hy ⊢; omega), ih (fun x hx => h x (by simp [hx]))]
  rw [this xs h]
theorem takeWhile_at {α : Type} {p : α → Bool} : ∀ {xs : List α} {i : Nat} {x : α}, xs[i]? = some x → p x = false → (∀ y ∈ xs.take i, p y = true) → (xs.takeWhile p).length = i
  | [], i, x, h, _, _ => by simp at h
  | y :: r, 0, x, h, hp, _ => by
    simp at h; subst h
    rw [List.takeWhile_cons, if_neg (by rw [hp]; decide)]; rfl
  | y :: r, i + 1, x, h, hp, ha => by
    have hy := ha y (by simp)
    rw [List.takeWhile_cons, if_pos hy, List.length_cons, takeWhile_at (xs := r) (by simpa using h) hp (fun z hz => ha z (by simp [hz]))]
theorem plc_some {xs : List Lo} {n x : Lo} {i : Nat} (h : xs[i]? = some x) (hx : decide (n.item < x.item) = true) (ha : ∀ y ∈ xs.take i, decide (n.item < y.item) = false) : plcL xs n = i := by
  unfold plcL
  refine takeWhile_at h ?_ (fun y hy => ?_)
  · simp at hx ⊢; omega
  · have := ha y hy
    simp at this ⊢; omega
theorem plc_le {xs : List Lo} {n : Lo} : plcL xs n ≤ xs.length := by
  unfold plcL
  exact (List.takeWhile_sublist _).length_le

/-- Clone, with what it leaves of an older world. -/
theorem lclone_at (A : Option Addr) (c : Nat) (xs : List Lo) (w W : World) (hs : Los W W.heap.size A xs.length c xs) (hn : xs.length ≤ 1000) (hW : Below w.heap.size w W) :
    Calls Try.prog 38 #[.slice A xs.length c] W fun e w' => ∃ v, e = .returned v ∧ Loo w' W.heap.size v xs ∧ Below W.heap.size W w' ∧ Below w.heap.size w w' :=
  (lo_clone A xs.length c xs W hs hn).mono fun _ _ ⟨v, he, ho, hb⟩ => ⟨v, he, ho, hb, hW.trans (hb.mono hW.size)⟩
/-- Insert, with what it leaves of an older world. -/
theorem linsert_at (v : Value) (i : Nat) (xs : List Lo) (x : Lo) (vb : Nat) (w W : World) (hown : W.ownsRow w.heap.size 28 6 v xs.length (xs.flatMap loE)) (hi : i ≤ xs.length) (hn : xs.length ≤ 1000)
    (hV : Box W vb 28 (loC x)) (hne : v.ownBlock ≠ some vb) (hW : Below w.heap.size w W) :
    Calls Try.prog 37 #[v, .int .i64 i, .slice (some ⟨vb, 0, none⟩) 1 1] W fun e w' =>
      ∃ A c, e = .returned (.slice A (xs.take i ++ x :: xs.drop i).length c) ∧ Los w' w'.heap.size A (xs.take i ++ x :: xs.drop i).length c (xs.take i ++ x :: xs.drop i) ∧ Below w.heap.size w w' :=
  (lo_insert w.heap.size v xs.length i xs x vb W hown rfl hi hn hW.size hV hne).mono fun _ w' ⟨v', he, ho, hb⟩ => by
    have hl : (xs.take i ++ x :: xs.drop i).length = xs.length + 1 := by simp; omega
    have ho' : Loo w' w.heap.size v' (xs.take i ++ x :: xs.drop i) := by unfold Loo; rw [hl]; exact ho
    obtain ⟨A1, c1, hv, hsl⟩ := Loo_sl ho' (by omega)
    exact ⟨A1, c1, by rw [he, hv], hsl, hW.trans hb⟩

set_option maxRecDepth 100000 in
set_option maxHeartbeats 2000000 in
theorem lout_any (A : Option Addr) (n c : Nat) (xs : List Lo) (y : Lo) (w : World) (hs : Los w w.heap.size A n c xs) (hn : n ≤ 1000) :
    Calls Try.prog 15 #[.slice A n c, loV y] w (ResL w (outL xs y)) := by
  obtain rfl := hs.len
  have hle := hs.le
  have hsl : ∀ W, Below w.heap.size w W → Los W W.heap.size A xs.length c xs := fun W hW => (hs.below hW).more hW.size
  have hf := fun W (hW : Below w.heap.size w W) b hb hc => firstOf_any y.item b A xs.length c xs W (hsl W hW) hb hc
  have HX := hide (Box.new w 28 (loC y))
  have HSL := hide hsl
  have B0 := hide ((Below.refl w.heap.size w).alloc (Nat.le_refl _) (.cells (loC y) 28))
  have B1 := hide (B0.out.alloc (by simp) (.cells #[.int .i64 y.item] 3))
  have C1 := hide ((Below.refl (w.heap.size + 1) (w.alloc (.cells (loC y) 28))).alloc (by simp) (.cells #[.int .i64 y.item] 3))
  rcases fst_cases (fun x => x.item == y.item) xs with ⟨h1, h2, _⟩ | ⟨i, x, h1, h2, h3, h4, _⟩
  · have e1 : outL xs y = chd (xs.take (plcL xs y) ++ y :: xs.drop (plcL xs y)) := by unfold outL atL; rw [h1, if_neg (by omega)]
    rw [e1]
    rw [h2] at hf
    have h2' := fun W (hW : Below w.heap.size w W) (b : Nat) (hb : b < W.heap.size) (hc : W.cell? ⟨b, 0, none⟩ = some (.int .i64 y.item)) => first_any 35 #[.pointer (some ⟨b, 0, none⟩)] (fun x => decide (y.item < x.item)) e_out1 A xs.length c xs W (hsl W hW) (fun W' x _ hb' => out1_any x y.item b W' (by have := hb'.size; omega) ((hb'.cell (p := ⟨b, 0, none⟩) hb).trans hc))
    have hP : ∃ k : Int, ∃ z : Lo, fstF (fun x => decide (y.item < x.item)) xs = (z, k) ∧ ((k = -1 ∧ plcL xs y = xs.length) ∨ (0 ≤ k ∧ k = plcL xs y)) := by
      rcases fst_cases (fun x => decide (y.item < x.item)) xs with ⟨g1, g2, g3⟩ | ⟨j, z, g1, g2, g3, g4, g5⟩
      · exact ⟨_, _, g2, .inl ⟨rfl, plc_none g3⟩⟩
      · exact ⟨_, _, g4, .inr ⟨by omega, by rw [plc_some g2 g3 g5]⟩⟩
    obtain ⟨k, z, hz, hk⟩ := hP
    rw [hz] at h2'
    have hpl := plc_le (xs := xs) (n := y)
    generalize plcL xs y = m at hk hpl ⊢
    have HC := hide (fun W (hW : Below w.heap.size w W) => lclone_at A c xs w W (hsl W hW) hn hW)
    have hI := fun v vb W => linsert_at v m xs y vb w W
    have hK := fun A1 n1 c1 W hsl => lchecked_any A1 n1 c1 (xs.take m ++ y :: xs.drop m) W hsl
    generalize xs.take m ++ y :: xs.drop m = ys at hI hK ⊢
    have HI := hide hI
    have HK := hide hK
    clear hI hK
    have HF := hide hf
    have H2 := hide h2'
    clear hf hsl hs h1 h2 e1 h2' hz
    obtain ⟨y0, y1, y2, y3, y4, y5⟩ := y
    obtain ⟨z0, z1, z2, z3, z4, z5⟩ := z
    unfold loV lo0 at HF
    unfold loV at H2
    unfold loV
    simp only at HF H2 ⊢
    go_enter Try.func15, Try.ntmps15
    go_wp2_with fail
    refine (of_any y0 _).mono ?_
    rintro e w1 ⟨rfl, rfl⟩
    go_wp2_with fail
    refine (HF.out _ B1.out _ (by simp) (by simp [go_sem])).mono ?_
    rintro e w2 ⟨rfl, hb⟩
    have B2 := hide (B1.out.trans (hb.mono (by simp; omega)))
    have C2 := hide (C1.out.trans (hb.mono (by simp)))
    have hz2 := C2.out.size
    simp at hz2
    have C2a := hide (C2.out.alloc (by simpa using hz2) (.cells #[.int .i64 0, .int .i64 0, .int .i64 0, .int .i64 0, .int .i64 0, .bool false] 28))
    have B2a := hide (B2.out.alloc (by omega) (.cells #[.int .i64 0, .int .i64 0, .int .i64 0, .int .i64 0, .int .i64 0, .bool false] 28))
    have q0 := (lo_box HX.out C2a.out).2.1
    clear hb HF B1 C1
    go_wp2_with fail
    refine (H2.out _ B2a.out _ (by simp; omega) q0).mono ?_
    rintro e w3 ⟨rfl, hb⟩
    have B3 := hide (B2a.out.trans (hb.mono (by simp; omega)))
    have C3 := hide (C2a.out.trans (hb.mono (by simp; omega)))
    have hz3 := C3.out.size
    simp at hz3
    clear hb q0 B2a C2a H2
    have B3a := hide (B3.out.alloc (by omega) (.cells #[.int .i64 z0, .int .i64 z1, .int .i64 z2, .int .i64 z3, .int .i64 z4, .bool z5] 28))
    have C3a := hide (C3.out.alloc (by omega) (.cells #[.int .i64 z0, .int .i64 z1, .int .i64 z2, .int .i64 z3, .int .i64 z4, .bool z5] 28))
    obtain ⟨_, r0, r1, r2, r3, r4, r5⟩ := lo_box HX.out C3.out
    simp only at r0 r1 r2 r3 r4 r5
    have hzz : w.heap.size < w3.heap.size := by omega
    have HRK := hide (fun W (hW : Below (w3.alloc (.cells #[.int .i64 z0, .int .i64 z1, .int .i64 z2, .int .i64 z3, .int .i64 z4, .bool z5] 28)).drew.heap.size (w3.alloc (.cells #[.int .i64 z0, .int .i64 z1, .int .i64 z2, .int .i64 z3, .int .i64 z4, .bool z5] 28)).drew W) => (lo_box HX.out (C3a.out.drew.trans (hW.mono (by simp; omega)))).2)
    have hvb : ∀ W, Below ((w3.alloc (.cells #[.int .i64 z0, .int .i64 z1, .int .i64 z2, .int .i64 z3, .int .i64 z4, .bool z5] 28)).alloc (.cells #[.int .i64 y0, .int .i64 y1, .int .i64 y2, .int .i64 y3, .int .i64 y4, .bool y5] 28)).drew.heap.size ((w3.alloc (.cells #[.int .i64 z0, .int .i64 z1, .int .i64 z2, .int .i64 z3, .int .i64 z4, .bool z5] 28)).alloc (.cells #[.int .i64 y0, .int .i64 y1, .int .i64 y2, .int .i64 y3, .int .i64 y4, .bool y5] 28)).drew W → Box W (w3.heap.size + 1) 28 (loC ⟨y0, y1, y2, y3, y4, y5⟩) := fun W hW => by
      have h := ((Box.new (w3.alloc (.cells #[.int .i64 z0, .int .i64 z1, .int .i64 z2, .int .i64 z3, .int .i64 z4, .bool z5] 28)) 28 (loC ⟨y0, y1, y2, y3, y4, y5⟩)).drew).below hW (by simp)
      rwa [World.size_alloc] at h
    have HVB := hide hvb
    clear B2 C2 HX hvb
    have hmm : m ≤ xs.length := hpl
    rcases hk with ⟨rfl, rfl⟩ | ⟨hk0, rfl⟩
    all_goals
      go_wp2_with fail
      go_region_with (first
        | (go_at_call 38; refine (HC.out _ (by first | exact B3a.out.drew | exact (B3a.out.alloc (by simp; omega) _).drew | exact B3a.out.drew.alloc (by simp; omega) _)).mono ?_; rintro e w4 ⟨v, rfl, hown, hb, hb4⟩;
           first
            | (obtain ⟨s0, s1, s2, s3, s4, s5⟩ := HRK.out _ hb; (try simp only at s0 s1 s2 s3 s4 s5); have hz4 := hb4.size; have HO4 := hide hown; have HB := hide hb; have HB4 := hide hb4; clear hown hb hb4)
            | (have hz4 := hb4.size; have HO4 := hide hown; have HB := hide hb; have HB4 := hide hb4; clear hown hb hb4))
        | (go_at_call 37; refine (HI.out _ _ _ (by first | exact own_base (HO4.out.alloc _) (by simp; omega) | exact own_base HO4.out (by simp; omega)) (by omega) hn (by first | exact Box.new _ _ _ | exact HVB.out _ HB.out) (by intro e; have := HO4.out.lt _ e; simp at this <;> omega) (by first | exact HB4.out.alloc (by omega) _ | exact HB4.out)).mono ?_; rintro e w5 ⟨A1, c1, rfl, hsl5, hb5⟩; have HS5 := hide hsl5; have HB5 := hide hb5; clear hsl5 hb5)
        | (go_at_call 36; refine (HK.out _ _ _ _ HS5.out).mono ?_; rintro e w6 ⟨A2, n2, c2, rfl, hsl6, hb6⟩; have HS6 := hide hsl6; have HB6 := hide (HB5.out.trans (hb6.mono HB5.out.size)); clear hsl6 hb6))
      all_goals
        go_wp2
        go_ret2
        exact ⟨A2, n2, c2, rfl, HS6.out, HB6.out⟩
  · have e1 : outL xs y = (7, []) := by unfold outL atL; rw [h1, if_pos (by omega)]
    rw [e1]
    rw [h4] at hf
    have HF := hide hf
    clear hf hsl hs h1 h2 e1 h4
    obtain ⟨y0, y1, y2, y3, y4, y5⟩ := y
    unfold loV at HF ⊢
    simp only at HF
    go_enter Try.func15, Try.ntmps15
    go_wp2_with fail
    refine (of_any y0 _).mono ?_
    rintro e w1 ⟨rfl, rfl⟩
    go_wp2_with fail
    refine (HF.out _ B1.out _ (by simp) (by simp [go_sem])).mono ?_
    rintro e w2 ⟨rfl, hb⟩
    have B2 := hide (B1.out.trans (hb.mono (by simp; omega)))
    have hz2 := B2.out.size
    clear hb
    go_wp2
    go_ret2
    exact ResL.nil (B2.out.alloc hz2 _)
end Go.Proofs.Ytelkidhgbjhboaa
