/- Walks: the program's Total. -/
import Derived.Test.YtbcapljiangjcaaFuO
import Derived.Test.YtbcapljiangjcaaFuJ
namespace Go.Proofs.Ytbcapljiangjcaa
open Go.RowKit Go.Maps

theorem Box.grown {w w' : World} {g : Nat} {t : TypeId} {cs : Array Value} {row : Option Nat} (h : Box w g t cs) (hb : w.grownBy w' row) (hg : some g ≠ row) : Box w' g t cs := (hb.block g h.lt hg).trans h
/-- The program's sums: the fund x is added at each ID on its way up. -/
def chn (up : Int → Int) (x : Fu) : Nat → Int → (Int → Fu) → (Int → Fu)
  | 0, _, S => S
  | f + 1, at_, S => if at_ = 0 then S else chn up x f (up at_) (fun y => if y = at_ then addF (S at_) x else S y)
theorem chn_zero (up : Int → Int) (x : Fu) (S : Int → Fu) : ∀ f, chn up x f 0 S = S
  | 0 => rfl
  | _ + 1 => by simp [chn]

def sumsP (xs ys : List Fu) : Int → Fu := ys.foldl (fun S x => chn (upF xs) x (xs.length + 1) x.id S) (fun _ => fu0)
def totP (xs : List Fu) (id : Int) : Fu :=
  if (getF xs id).2 = true then { sumsP xs xs id with id := (getF xs id).1.id, parent := (getF xs id).1.parent } else fu0

theorem sumsP_step {xs : List Fu} {k : Nat} {x : Fu} (h : xs[k]? = some x) : sumsP xs (xs.take (k + 1)) = chn (upF xs) x (xs.length + 1) x.id (sumsP xs (xs.take k)) := by
  obtain ⟨hk, rfl⟩ := List.getElem?_eq_some_iff.1 h
  rw [List.take_succ_eq_append_getElem hk, sumsP, List.foldl_append]; rfl

/-- All amounts of the sums are between 0 and L; the sums have no ID and no parent. -/
def BS (S : Int → Fu) (L : Int) : Prop := ∀ y, ((S y).id = 0 ∧ (S y).parent = 0) ∧ (0 ≤ (S y).budget ∧ (S y).budget ≤ L) ∧ (0 ≤ (S y).enc ∧ (S y).enc ≤ L) ∧ (0 ≤ (S y).spent ∧ (S y).spent ≤ L)
theorem BS.start : BS (fun _ => fu0) 0 := fun _ => ⟨⟨rfl, rfl⟩, ⟨Int.le_refl 0, Int.le_refl 0⟩, ⟨Int.le_refl 0, Int.le_refl 0⟩, ⟨Int.le_refl 0, Int.le_refl 0⟩⟩
theorem BS.more {S : Int → Fu} {L M : Int} (h : BS S L) (hl : L ≤ M) : BS S M := fun y => by
  obtain ⟨h0, ⟨h1, h2⟩, ⟨h3, h4⟩, ⟨h5, h6⟩⟩ := h y
  exact ⟨h0, ⟨h1, by omega⟩, ⟨h3, by omega⟩, ⟨h5, by omega⟩⟩
theorem BS.step {S : Int → Fu} {L : Int} {x : Fu} (h : BS S L) (hx : FuM x) (a : Int) : BS (fun y => if y = a then addF (S a) x else S y) (L + 100000000) := fun y => by
  have hb := hx.b
  have he := hx.e
  have hs := hx.s
  by_cases e : y = a
  · simp only [e, if_true]
    obtain ⟨h0, ⟨h1, h2⟩, ⟨h3, h4⟩, ⟨h5, h6⟩⟩ := h a
    unfold addF
    exact ⟨h0, ⟨by simp only; omega, by simp only; omega⟩, ⟨by simp only; omega, by simp only; omega⟩, ⟨by simp only; omega, by simp only; omega⟩⟩
  · simp only [e, if_false]
    exact h.more (by omega) y

/-- A bound of the sums behind k funds and j steps. -/
def LL (k j : Nat) : Int := ((k * 1002 + j : Nat) : Int) * 100000000
theorem LL_zero : LL 0 0 = 0 := by unfold LL; omega
theorem LL_step (k j : Nat) : LL k j + 100000000 = LL k (j + 1) := by unfold LL; omega
theorem LL_next (k j : Nat) (h : j ≤ 1002) : LL k j ≤ LL (k + 1) 0 := by unfold LL; omega
theorem LL_top (k j : Nat) (h : j ≤ 1002) (hk : k ≤ 1000) : LL k j ≤ 1000000000000000 := by unfold LL; omega
abbrev agV (x : Fu) : Value := .agg #[.int .i64 x.id, .int .i64 x.parent, .int .i64 x.budget, .int .i64 x.enc, .int .i64 x.spent]
theorem zero_ag (w : World) : (zeroValue 26).run Try.prog w = .ok (.agg #[.int .i64 0, .int .i64 0, .int .i64 0, .int .i64 0, .int .i64 0]) w := by kernel_rfl
abbrev SM (w : World) (b n : Nat) (S : Int → Fu) : Prop := MapI Try.prog 3 w b n (.agg #[.int .i64 0, .int .i64 0, .int .i64 0, .int .i64 0, .int .i64 0]) (fun y => agV (S y))

set_option maxHeartbeats 2000000 in
theorem ptotal_any (A : Option Addr) (n c : Nat) (xs : List Fu) (id : Int) (w : World) (hs : Fs w w.heap.size A n c xs) (hn : n ≤ 1000) (hm : ∀ x ∈ xs, FuM x) (hw : ∀ x ∈ xs, FuW x) :
    Calls Try.prog 17 #[.slice A n c, .int .i64 id] w fun e w' => e = .returned (fuV (totP xs id)) ∧ Below w.heap.size w w' := by
  obtain rfl := hs.len
  have hup := upF_I64 hw
  have hmm := @run_makeMap Try.prog
  have hb0 : ∀ o1 o2, Below w.heap.size w ((w.alloc o1).alloc o2) := fun o1 o2 => ((Below.refl _ _).alloc (Nat.le_refl _) _).alloc (by simp) _
  have hpar := fun o1 o2 => parents_any A xs.length c xs ((w.alloc o1).alloc o2) ((hs.below (hb0 o1 o2)).more (hb0 o1 o2).size) (fun x hx => (hw x hx).id)
  have HS := hide hs
  have HM := hide hm
  have HW := hide hw
  have HU := hide hup
  have HP := hide hpar
  have HB0 := hide hb0
  clear hs hm hw hup hpar hb0
  go_enter Try.func17, Try.ntmps17
  go_wp2_with fail
  refine (HP.out _ _).mono ?_
  rintro e w1 ⟨ub, rfl, hub, humap, hb1⟩
  have hz1 : w.heap.size + 2 ≤ w1.heap.size := by have := hb1.size; simp at this; omega
  have hbx : Box w1 w.heap.size 26 (fuA fu0) := ((Box.new w 26 _).alloc _).below hb1 (by simp only [World.size_alloc]; omega)
  have hsm : SM w1 (w.heap.size + 1) 0 (fun _ => fu0) := by
    have := (MapI.made Try.prog 3 (w.alloc (.cells #[.int .i64 0, .int .i64 0, .int .i64 0, .int .i64 0, .int .i64 0] 26)) (.agg #[.int .i64 0, .int .i64 0, .int .i64 0, .int .i64 0, .int .i64 0])).below hb1 (by simp only [World.size_alloc]; omega)
    rw [World.size_alloc] at this
    exact this
  have hul := humap.lt
  have HUM := hide humap
  have HBX := hide hbx
  have HSM := hide hsm
  have HB1 := hide ((HB0.out _ _).trans (hb1.mono (by simp; omega)))
  have hub' : w.heap.size + 2 ≤ ub := by simpa using hub
  clear humap hbx hsm hb1 hub HB0 HP
  go_wp2
  go_loopw [20] (fun i wr => ∃ k : Nat, k ≤ xs.length ∧ i = .int .i64 k ∧ Box wr w.heap.size 26 (fuA fu0) ∧ MapI Try.prog 3 wr ub xs.length (.int .i64 0) (fun y => .int .i64 (upF xs y))
      ∧ SM wr (w.heap.size + 1) (k * 1002) (sumsP xs (xs.take k)) ∧ BS (sumsP xs (xs.take k)) (LL k 0) ∧ Below w.heap.size w wr) (fun i _ => xs.length - (intOf i).toNat)
  case atStart => exact ⟨0, Nat.zero_le _, rfl, HBX.out, HUM.out, by simpa [sumsP] using HSM.out, by rw [LL_zero]; exact BS.start, HB1.out⟩
  case round =>
    clear HUM HBX HSM HB1
    obtain ⟨k, hk, rfl, hbx, hum, hsm, hbs, hb⟩ := hrel
    have hzr := hb.size
    have hul := hum.lt
    have hsl := hsm.lt
    have HBX := hide hbx
    have HUM := hide hum
    have HSM := hide hsm
    have HBS := hide hbs
    have HB := hide hb
    clear hbx hum hsm hbs hb
    by_cases hlt : k < xs.length
    · obtain ⟨b, off, x, rfl, hbB, hx, c0, c1, c2, c3, c4⟩ := Fs_at (HS.out.below HB.out) hlt
      have HXW := hide (HW.out x (List.mem_of_getElem? hx))
      have HXM := hide (HM.out x (List.mem_of_getElem? hx))
      have HX := hide (sumsP_step hx)
      clear hx
      go_wp2
      have hfb := Box.new wr 26 #[.int .i64 x.id, .int .i64 x.parent, .int .i64 x.budget, .int .i64 x.enc, .int .i64 x.spent]
      have h1 := HBX.out.alloc (.cells #[.int .i64 x.id, .int .i64 x.parent, .int .i64 x.budget, .int .i64 x.enc, .int .i64 x.spent] 26)
      have h2 := HUM.out.alloc (.cells #[.int .i64 x.id, .int .i64 x.parent, .int .i64 x.budget, .int .i64 x.enc, .int .i64 x.spent] 26)
      have h3 := HSM.out.alloc (.cells #[.int .i64 x.id, .int .i64 x.parent, .int .i64 x.budget, .int .i64 x.enc, .int .i64 x.spent] 26)
      have h4 := HB.out.alloc hzr (.cells #[.int .i64 x.id, .int .i64 x.parent, .int .i64 x.budget, .int .i64 x.enc, .int .i64 x.spent] 26)
      clear c0 c1 c2 c3 c4
      obtain ⟨wo, hwo⟩ : ∃ wo : World, wo = wr.alloc (.cells #[.int .i64 x.id, .int .i64 x.parent, .int .i64 x.budget, .int .i64 x.enc, .int .i64 x.spent] 26) := ⟨_, rfl⟩
      rw [← hwo] at hfb h1 h2 h3 h4 ⊢
      clear hwo
      have G0 := hide hfb
      have G1 := hide h1
      have G2 := hide h2
      have G3 := hide h3
      have G4 := hide h4
      have hzo := hfb.lt
      generalize wr.heap.size = fb at G0 hzo hzr hul hsl ⊢
      clear hfb h1 h2 h3 h4 HBX HUM HSM HB
      go_loopw [9, 10, 11] (fun d s _ wi => ∃ (j : Nat) (at_ : Int) (S : Int → Fu), j ≤ xs.length + 1 ∧ s = .int .i64 j ∧ d = .int .i64 at_ ∧ I64 at_ ∧ Box wi fb 26 (fuA x) ∧ Box wi w.heap.size 26 (fuA fu0) ∧ MapI Try.prog 3 wi ub xs.length (.int .i64 0) (fun y => .int .i64 (upF xs y))
        ∧ SM wi (w.heap.size + 1) (k * 1002 + j) S ∧ BS S (LL k j) ∧ Below w.heap.size w wi ∧ chn (upF xs) x (xs.length + 1) x.id (sumsP xs (xs.take k)) = chn (upF xs) x (xs.length + 1 - j) at_ S) (fun _ s _ _ => xs.length + 1 - (intOf s).toNat)
      case atStart =>
        refine ⟨0, x.id, sumsP xs (xs.take k), by omega, rfl, rfl, HXW.out.id, G0.out, G1.out, G2.out, ?_, ?_, G4.out, rfl⟩
        · exact MapI.mono G3.out (by omega)
        · exact HBS.out
      case round =>
        clear G0 G1 G2 G3 G4
        obtain ⟨j, at_, S, hj, rfl, rfl, hat, g0, g1, g2, g3, g5, g4, hch⟩ := hrel
        have HAT := hide hat
        have G0 := hide g0
        have G1 := hide g1
        have G2 := hide g2
        have G3 := hide g3
        have G4 := hide g4
        have G5 := hide g5
        have HCH := hide hch
        have hzi := g4.size
        have hul' := g2.lt
        have hsl' := g3.lt
        have hfl' := g0.lt
        obtain ⟨⟨d0, d1, d2, d3, d4⟩, hfd⟩ := box5 g0
        clear hat g1 g2 g3 g4 g5 g0 hch hul hzo
        have hend : ∀ (W : World), Box W w.heap.size 26 (fuA fu0) → MapI Try.prog 3 W ub xs.length (.int .i64 0) (fun y => .int .i64 (upF xs y)) → SM W (w.heap.size + 1) (k * 1002 + j) S → Below w.heap.size w W → chn (upF xs) x (xs.length + 1 - j) at_ S = S →
            ∃ k' : Nat, k' ≤ xs.length ∧ Value.int .i64 ((k : Int) + 1) = .int .i64 k' ∧ Box W w.heap.size 26 (fuA fu0) ∧ MapI Try.prog 3 W ub xs.length (.int .i64 0) (fun y => .int .i64 (upF xs y))
              ∧ SM W (w.heap.size + 1) (k' * 1002) (sumsP xs (xs.take k')) ∧ BS (sumsP xs (xs.take k')) (LL k' 0) ∧ Below w.heap.size w W := by
          intro W e1 e2 e3 e4 e5
          refine ⟨k + 1, by omega, by go_num, e1, e2, ?_, ?_, e4⟩
          · rw [HX.out, HCH.out, e5]; exact MapI.mono e3 (by omega)
          · rw [HX.out, HCH.out, e5]; exact G5.out.more (LL_next k j (by omega))
        have HEND := hide hend
        clear hend
        by_cases h0 : at_ = 0
        · subst h0
          go_wp2
          go_roundw
          case rel => exact HEND.out _ G1.out G2.out G3.out G4.out (chn_zero _ _ _ _)
          case measure => simp [intOf]; omega
        · have h0' : (at_ == 0) = false := by simpa using h0
          have h0'' : (at_ != 0) = true := by simpa using h0
          have H0 := hide h0
          clear h0
          by_cases hjn : xs.length < j
          · go_wp2
            go_roundw
            case rel => exact HEND.out _ G1.out G2.out G3.out G4.out (by rw [show xs.length + 1 - j = 0 from by omega]; rfl)
            case measure => simp [intOf]; omega
          · obtain ⟨⟨s0, s1⟩, ⟨q1, q2⟩, ⟨q3, q4⟩, ⟨q5, q6⟩⟩ := G5.out at_
            have hLL := LL_top k j (by omega) (by omega)
            have r2 : (S at_).budget ≤ 1000000000000000 := by omega
            have r4 : (S at_).enc ≤ 1000000000000000 := by omega
            have r6 : (S at_).spent ≤ 1000000000000000 := by omega
            obtain ⟨xb1, xb2⟩ := HXM.out.b
            obtain ⟨xe1, xe2⟩ := HXM.out.e
            obtain ⟨xs1, xs2⟩ := HXM.out.s
            clear q2 q4 q6 hLL s0 s1 d0 d1 hfd
            go_wp2_with (first
              | (at_lookup; go_must (refine wpList_lookupI _ rfl _ _ 47 rfl 3 26 Try.underlying3 Try.underlying47 _ (zero_ag _) (w.heap.size + 1) _ _ rfl G3.out _ rfl (wf64 HAT.out) ?_))
              | (at_mapUpdate; go_must (refine wpList_updateI _ rfl _ _ _ 47 rfl 3 26 Try.underlying3 Try.underlying47 _ (w.heap.size + 1) _ _ rfl (G3.out.alloc _) (by unfold maxLen; omega) _ _ rfl rfl (wf64 HAT.out) ?_)))
            intro w2 hm2 hg2
            have k0 := (G0.out.alloc (.cells #[.int .i64 (S at_).id, .int .i64 (S at_).parent, .int .i64 ((S at_).budget + x.budget), .int .i64 ((S at_).enc + x.enc), .int .i64 ((S at_).spent + x.spent)] 26)).grown hg2 (by simp; omega)
            have k1 := (G1.out.alloc (.cells #[.int .i64 (S at_).id, .int .i64 (S at_).parent, .int .i64 ((S at_).budget + x.budget), .int .i64 ((S at_).enc + x.enc), .int .i64 ((S at_).spent + x.spent)] 26)).grown hg2 (by simp)
            have k2 := (G2.out.alloc (.cells #[.int .i64 (S at_).id, .int .i64 (S at_).parent, .int .i64 ((S at_).budget + x.budget), .int .i64 ((S at_).enc + x.enc), .int .i64 ((S at_).spent + x.spent)] 26)).kept hg2 (by simp; omega)
            have k4 := (G4.out.alloc hzi (.cells #[.int .i64 (S at_).id, .int .i64 (S at_).parent, .int .i64 ((S at_).budget + x.budget), .int .i64 ((S at_).enc + x.enc), .int .i64 ((S at_).spent + x.spent)] 26)).grown hg2 (by simp; omega) (fun i hi => by cases hi; omega)
            have k3' := MapI.congr hm2 (g := fun y => agV (if y = at_ then addF (S at_) x else S y)) (fun y _ => by
              by_cases e : y = at_
              · simp only [e, if_true]; rfl
              · simp only [e, if_false])
            have k3 : SM w2 (w.heap.size + 1) (k * 1002 + (j + 1)) (fun y => if y = at_ then addF (S at_) x else S y) := MapI.mono k3' (by omega)
            have K0 := hide k0
            have K1 := hide k1
            have K2 := hide k2
            have K3 := hide k3
            have K4 := hide k4
            clear k0 k1 k2 k3 k3' k4 hm2 hg2
            go_wp2_with (at_lookup; go_must (refine wpList_lookupI _ rfl _ _ 48 rfl 3 3 Try.underlying3 Try.underlying48 _ (zero_int _) ub _ _ rfl K2.out _ rfl (wf64 HAT.out) ?_))
            go_roundw
            case rel =>
              refine ⟨j + 1, upF xs at_, _, by omega, by go_num, rfl, HU.out at_, K0.out, K1.out, K2.out, K3.out, ?_, K4.out, ?_⟩
              · rw [← LL_step]; exact G5.out.step HXM.out at_
              · rw [HCH.out, show xs.length + 1 - j = (xs.length + 1 - (j + 1)) + 1 from by omega, chn, if_neg H0.out]
            case measure => simp [intOf]; omega
    · have hg := pget_any A xs.length c xs id wr ((HS.out.below HB.out).more hzr)
      have hall : xs.take k = xs := List.take_of_length_le (by omega)
      rw [hall] at HSM HBS
      clear hall
      have htot : totP xs id = if (getF xs id).2 = true then { sumsP xs xs id with id := (getF xs id).1.id, parent := (getF xs id).1.parent } else fu0 := rfl
      rcases getF_at (xs := xs) (id := id) with ⟨h1, h2⟩ | ⟨i, f, h1, h2, h3, h4⟩
      · rw [h2] at hg htot
        simp only [fuV, fu0] at hg
        have HG := hide hg
        have HT0 := hide (show totP xs id = fu0 from htot)
        clear hg htot h1 h2
        go_wp2_with fail
        refine HG.out.mono ?_
        rintro e w2 ⟨rfl, hb2⟩
        have hz2 := hb2.size
        have k1 := HBX.out.below hb2 (by omega)
        obtain ⟨⟨c0, c1, c2, c3, c4⟩, hfz⟩ := box5 k1
        simp only [fu0] at c0 c1 c2 c3 c4
        have hlt0 : w.heap.size < w2.heap.size := by omega
        clear k1
        go_wp2
        refine bodyPost_ret (v := fuV (totP xs id)) (by rw [HT0.out]; simp [results, Try.results17, go_sem, fuV, fu0, hlt0, c0, c1, c2, c3, c4]) rfl ⟨rfl, ?_⟩
        exact (below_box5 (HB.out.trans (hb2.mono hzr)) (Nat.le_refl _) _ _ _ _ _).alloc (by simp; omega) _
      · rw [h4] at hg htot
        simp only [fuV] at hg
        have HG := hide hg
        have HT0 := hide (show totP xs id = { sumsP xs xs id with id := f.id, parent := f.parent } from htot)
        have hid := wf64 (by rw [← h3]; exact (HW.out f (List.mem_of_getElem? h2)).id : I64 id)
        have HID := hide hid
        clear hg htot h1 h2 h3 h4 hid
        go_wp2_with fail
        refine HG.out.mono ?_
        rintro e w2 ⟨rfl, hb2⟩
        have hz2 := hb2.size
        have k1 := HBX.out.below hb2 (by omega)
        have k3 := HSM.out.below hb2 (by omega)
        obtain ⟨⟨c0, c1, c2, c3, c4⟩, hfz⟩ := box5 k1
        simp only [fu0] at c0 c1 c2 c3 c4
        have hlt0 : w.heap.size < w2.heap.size := by omega
        have K3 := hide k3
        clear k1 k3
        go_wp2_with (at_lookup; go_must (refine wpList_lookupI _ rfl _ _ 47 rfl 3 26 Try.underlying3 Try.underlying47 _ (zero_ag _) (w.heap.size + 1) _ _ rfl (K3.out.alloc _) _ rfl HID.out ?_))
        go_region
        go_wp2
        refine bodyPost_ret (v := fuV (totP xs id)) (by rw [HT0.out]; simp [results, Try.results17, go_sem, fuV, hlt0, c0, c1, c2, c3, c4]) rfl ⟨rfl, ?_⟩
        exact (((below_box5 (HB.out.trans (hb2.mono hzr)) (Nat.le_refl _) _ _ _ _ _).alloc (by simp; omega) _).alloc (by simp; omega) _).drew
end Go.Proofs.Ytbcapljiangjcaa
