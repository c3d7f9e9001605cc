/- Walks: the reference's Total. -/
import Derived.Test.YtbcapljiangjcaaFuN
namespace Go.Proofs.Ytbcapljiangjcaa
open Go.RowKit Go.Maps

def addF (t x : Fu) : Fu := { t with budget := t.budget + x.budget, enc := t.enc + x.enc, spent := t.spent + x.spent }
def totA (p : Fu → Bool) (t : Fu) (xs : List Fu) : Fu := xs.foldl (fun t x => if p x = true then addF t x else t) t
def totR (xs : List Fu) (id : Int) : Fu :=
  if (getF xs id).2 = true then totA (fun x => wiR xs (xs.length + 1) x.id id) ⟨(getF xs id).1.id, (getF xs id).1.parent, 0, 0, 0⟩ xs else fu0

theorem totA_step {p : Fu → Bool} {t : Fu} {xs : List Fu} {k : Nat} {x : Fu} (h : xs[k]? = some x) : totA p t (xs.take (k + 1)) = if p x = true then addF (totA p t (xs.take k)) x else totA p t (xs.take k) := by
  obtain ⟨hk, rfl⟩ := List.getElem?_eq_some_iff.1 h
  rw [List.take_succ_eq_append_getElem hk, totA, List.foldl_append]; rfl
theorem totA_bound (p : Fu → Bool) (M : Int) : ∀ (xs : List Fu) (t : Fu) (L : Int), (∀ x ∈ xs, FuM x) → (0 ≤ t.budget ∧ t.budget ≤ L) → (0 ≤ t.enc ∧ t.enc ≤ L) → (0 ≤ t.spent ∧ t.spent ≤ L) → L + xs.length * 100000000 ≤ M →
    (0 ≤ (totA p t xs).budget ∧ (totA p t xs).budget ≤ M) ∧ (0 ≤ (totA p t xs).enc ∧ (totA p t xs).enc ≤ M) ∧ (0 ≤ (totA p t xs).spent ∧ (totA p t xs).spent ≤ M)
  | [], t, L, _, h1, h2, h3, h4 => by
    simp only [totA, List.foldl_nil, List.length_nil] at *
    refine ⟨⟨?_, ?_⟩, ⟨?_, ?_⟩, ⟨?_, ?_⟩⟩ <;> omega
  | x :: r, t, L, hm, h1, h2, h3, h4 => by
    have hx := hm x (by simp)
    have e1 := hx.b
    have e2 := hx.e
    have e3 := hx.s
    have hr := fun y hy => hm y (List.mem_cons_of_mem x hy)
    rw [totA, List.foldl_cons]
    simp only [List.length_cons] at h4
    by_cases hp : p x = true
    · rw [if_pos hp]
      refine totA_bound p M r (addF t x) (L + 100000000) hr ?_ ?_ ?_ (by omega) <;> (unfold addF; constructor <;> (simp only; omega))
    · rw [if_neg hp]
      refine totA_bound p M r t L hr h1 h2 h3 (by omega)
theorem totA_id (p : Fu → Bool) : ∀ (xs : List Fu) (t : Fu), (totA p t xs).id = t.id ∧ (totA p t xs).parent = t.parent
  | [], _ => ⟨rfl, rfl⟩
  | x :: r, t => by
    rw [totA, List.foldl_cons]
    by_cases hp : p x = true
    · rw [if_pos hp]; exact totA_id p r (addF t x)
    · rw [if_neg hp]; exact totA_id p r t

def fuA (x : Fu) : Array Value := #[.int .i64 x.id, .int .i64 x.parent, .int .i64 x.budget, .int .i64 x.enc, .int .i64 x.spent]
theorem box5 {w : World} {g : Nat} {x : Fu} (h : Box w g 26 (fuA x)) :
    (w.cell? ⟨g, 0, none⟩ = some (.int .i64 x.id) ∧ w.cell? ⟨g, 1, none⟩ = some (.int .i64 x.parent) ∧ w.cell? ⟨g, 2, none⟩ = some (.int .i64 x.budget) ∧ w.cell? ⟨g, 3, none⟩ = some (.int .i64 x.enc) ∧ w.cell? ⟨g, 4, none⟩ = some (.int .i64 x.spent)) ∧ ∀ j, w.frozen? ⟨g, j, none⟩ = false :=
  ⟨⟨h.cell 0, h.cell 1, h.cell 2, h.cell 3, h.cell 4⟩, h.frz⟩

set_option maxHeartbeats 1000000 in
theorem rtotal_any (A : Option Addr) (n c : Nat) (xs : List Fu) (id : Int) (w : World) (hs : Fs w w.heap.size A n c xs) (hn : n ≤ 1000) (hm : ∀ x ∈ xs, FuM x) :
    Calls Try.prog 18 #[.slice A n c, .int .i64 id] w fun e w' => e = .returned (fuV (totR xs id)) ∧ Below w.heap.size w w' := by
  obtain rfl := hs.len
  have hg := fun o => rget_any A xs.length c xs id (w.alloc o) ((hs.alloc (Nat.le_refl _) _).more (by simp))
  have HS := hide hs
  have HM := hide hm
  clear hs hm
  have htot : totR xs id = if (getF xs id).2 = true then totA (fun x => wiR xs (xs.length + 1) x.id id) ⟨(getF xs id).1.id, (getF xs id).1.parent, 0, 0, 0⟩ xs else fu0 := rfl
  generalize getF xs id = r at hg htot
  obtain ⟨f, ok⟩ := r
  have HT := hide htot
  simp only at hg
  unfold fuV at hg
  have HG := hide hg
  clear hg htot
  cases ok with
  | false =>
    go_enter Try.func18, Try.ntmps18
    go_wp2_with fail
    refine (HG.out _).mono ?_
    rintro e w1 ⟨rfl, hb⟩
    have hbx := (Box.new w 26 #[.int .i64 0, .int .i64 0, .int .i64 0, .int .i64 0, .int .i64 0]).below hb (by simp)
    obtain ⟨⟨c0, c1, c2, c3, c4⟩, hfz⟩ := box5 (x := fu0) hbx
    simp only [fu0] at c0 c1 c2 c3 c4
    have hz : w.heap.size < w1.heap.size := by have := hb.size; simp at this; omega
    have HT0 := hide (show totR xs id = fu0 from HT.out)
    clear hbx
    go_wp2
    refine bodyPost_ret (v := fuV (totR xs id)) (by rw [HT0.out]; simp [results, Try.results18, go_sem, fuV, fu0, hz, c0, c1, c2, c3, c4]) rfl ⟨rfl, ?_⟩
    exact (below_box5 (below_call hb) (Nat.le_refl _) _ _ _ _ _).alloc (by simp; omega) _
  | true =>
    go_enter Try.func18, Try.ntmps18
    go_wp2_with fail
    refine (HG.out _).mono ?_
    rintro e w1 ⟨rfl, hb⟩
    have hbx := (Box.new w 26 #[.int .i64 0, .int .i64 0, .int .i64 0, .int .i64 0, .int .i64 0]).below hb (by simp)
    have hz : w.heap.size < w1.heap.size := by have := hb.size; simp at this; omega
    have HBX := hide hbx
    have HB := hide (below_call hb)
    have HT0 := hide (show totR xs id = totA (fun x => wiR xs (xs.length + 1) x.id id) ⟨f.id, f.parent, 0, 0, 0⟩ xs from HT.out)
    clear hbx hb HT HG
    go_wp2
    go_loopw [8] (fun i wr => ∃ k : Nat, k ≤ xs.length ∧ i = .int .i64 k ∧ Box wr w.heap.size 26 (fuA fu0) ∧ Box wr (w1.heap.size + 1) 26 (fuA (totA (fun x => wiR xs (xs.length + 1) x.id id) ⟨f.id, f.parent, 0, 0, 0⟩ (xs.take k))) ∧ Below w.heap.size w wr) (fun i _ => xs.length - (intOf i).toNat)
    case atStart =>
      refine ⟨0, Nat.zero_le _, rfl, (HBX.out.alloc _).alloc _, ?_, (HB.out.alloc (by omega) _).alloc (by simp; omega) _⟩
      have := Box.new (w1.alloc (.cells #[.int .i64 f.id, .int .i64 f.parent, .int .i64 f.budget, .int .i64 f.enc, .int .i64 f.spent] 26)) 26 #[.int .i64 f.id, .int .i64 f.parent, .int .i64 0, .int .i64 0, .int .i64 0]
      rw [World.size_alloc] at this
      exact this
    case round =>
      obtain ⟨k, hk, rfl, hx1, hx2, hbl⟩ := hrel
      have HB1 := hide hx1
      have HB2 := hide hx2
      have HBL := hide hbl
      have hzr := hbl.size
      have hzt := hx2.lt
      clear HB HBX hbl
      by_cases hlt : k < xs.length
      · obtain ⟨b, off, x, rfl, hbB, hx, c0, c1, c2, c3, c4⟩ := Fs_at (HS.out.below HBL.out) hlt
        have hbd := totA_bound (fun x => wiR xs (xs.length + 1) x.id id) 100100000000 (xs.take k) ⟨f.id, f.parent, 0, 0, 0⟩ 0 (fun y hy => HM.out y (List.mem_of_mem_take hy)) ⟨by simp, by simp⟩ ⟨by simp, by simp⟩ ⟨by simp, by simp⟩ (by have := List.length_take_le k xs; simp; omega)
        have HX := hide (totA_step (p := fun x => wiR xs (xs.length + 1) x.id id) (t := ⟨f.id, f.parent, 0, 0, 0⟩) hx)
        have hxm := HM.out x (List.mem_of_getElem? hx)
        obtain ⟨x1, x2⟩ := hxm.b
        obtain ⟨x3, x4⟩ := hxm.e
        obtain ⟨x5, x6⟩ := hxm.s
        have hwi := within_any _ xs.length c xs x.id id wr _ (HS.out.below HBL.out)
        have hkk : (k : Int) < (xs.length : Int) := by omega
        generalize totA (fun x => wiR xs (xs.length + 1) x.id id) ⟨f.id, f.parent, 0, 0, 0⟩ (xs.take k) = t at hbd hx2 HX HB2
        obtain ⟨⟨t1, t2⟩, ⟨t3, t4⟩, ⟨t5, t6⟩⟩ := hbd
        obtain ⟨⟨d0, d1, d2, d3, d4⟩, hfz⟩ := box5 hx2
        generalize hq : wiR xs (xs.length + 1) x.id id = q at hwi HX
        have HW := hide hwi
        have HS1 := hide HS.out
        have hne1 : ¬ b = w1.heap.size + 1 := by omega
        clear hwi hx hxm hx1 hx2 hq d0 d1 c1
        cases q with
        | false =>
          go_wp2_with fail
          refine HW.out.mono ?_
          rintro e w2 ⟨rfl, rfl⟩
          go_wp2
          go_roundw
          case rel => exact ⟨k + 1, by omega, by go_num, HB1.out, by rw [HX.out, if_neg (by decide)]; exact HB2.out, HBL.out⟩
          case measure => simp [intOf]; omega
        | true =>
          go_wp2_with fail
          refine HW.out.mono ?_
          rintro e w2 ⟨rfl, rfl⟩
          go_wp2
          go_region
          go_wp2
          go_region
          go_wp2
          go_region
          go_wp2
          go_roundw
          case rel =>
            refine ⟨k + 1, by omega, by go_num, ?_, ?_, ?_⟩
            · exact (((HB1.out.drew.far (p := ⟨w1.heap.size + 1, 2, none⟩) (by simp; omega) _).drew.far (p := ⟨w1.heap.size + 1, 3, none⟩) (by simp; omega) _).drew.far (p := ⟨w1.heap.size + 1, 4, none⟩) (by simp; omega) _)
            · rw [HX.out, if_pos (by simp)]
              exact ((HB2.out.drew.set_ 2 _).drew.set_ 3 _).drew.set_ 4 _
            · exact (((HBL.out.drew.setCell (p := ⟨w1.heap.size + 1, 2, none⟩) (by simp; omega) _).drew.setCell (p := ⟨w1.heap.size + 1, 3, none⟩) (by simp; omega) _).drew.setCell (p := ⟨w1.heap.size + 1, 4, none⟩) (by simp; omega) _)
          case measure => simp [intOf]; omega
      · rw [List.take_of_length_le (by omega)] at hx2
        generalize totA (fun x => wiR xs (xs.length + 1) x.id id) ⟨f.id, f.parent, 0, 0, 0⟩ xs = t at hx2 HT0
        obtain ⟨⟨d0, d1, d2, d3, d4⟩, hfd⟩ := box5 hx2
        obtain ⟨⟨c0, c1, c2, c3, c4⟩, hfz⟩ := box5 hx1
        simp only [fu0] at c0 c1 c2 c3 c4
        clear hx1 hx2 HB2
        go_wp2
        refine bodyPost_ret (v := fuV (totR xs id)) (by rw [HT0.out]; simp [results, Try.results18, go_sem, fuV, c0, c1, c2, c3, c4]) rfl ⟨rfl, ?_⟩
        exact below_box5 HBL.out (Nat.le_refl _) _ _ _ _ _
end Go.Proofs.Ytbcapljiangjcaa
