/- Walks: Get, Free, Clone, ContainsFunc's predicate, Same. -/
import Derived.Test.YtbcapljiangjcaaFuA
namespace Go.Proofs.Ytbcapljiangjcaa
open Go.RowKit

/-- What Get returns: the fund with an ID and true, or the zero fund and false. -/
def getF (xs : List Fu) (id : Int) : Fu × Bool :=
  match xs.find? (fun x => x.id == id) with
  | some x => (x, true)
  | none => (fu0, false)

theorem getF_at {xs : List Fu} {id : Int} : (atF xs id = -1 ∧ getF xs id = (fu0, false)) ∨ ∃ (i : Nat) (x : Fu), atF xs id = i ∧ xs[i]? = some x ∧ x.id = id ∧ getF xs id = (x, true) := by
  rcases ix_cases (fun x : Fu => x.id == id) xs with ⟨h1, h2⟩ | ⟨i, x, h1, h2, h3, h4⟩
  · refine .inl ⟨h1, ?_⟩
    have : xs.find? (fun x => x.id == id) = none := List.find?_eq_none.2 (fun x hx => by rw [h2 x hx]; decide)
    unfold getF; rw [this]
  · refine .inr ⟨i, x, h1, h2, by simpa using h3, ?_⟩
    have : xs.find? (fun x => x.id == id) = some x := by
      obtain ⟨hi, rfl⟩ := List.getElem?_eq_some_iff.1 h2
      rw [List.find?_eq_some_iff_append]
      refine ⟨h3, xs.take i, xs.drop (i + 1), by rw [← List.drop_eq_getElem_cons hi, List.take_append_drop], fun y hy => by rw [h4 y hy]; rfl⟩
    unfold getF; rw [this]

/-- The call's own row of five numbers for a result that is a fund. -/
theorem pget_any (A : Option Addr) (n c : Nat) (xs : List Fu) (id : Int) (w : World) (hs : Fs w w.heap.size A n c xs) :
    Calls Try.prog 13 #[.slice A n c, .int .i64 id] w fun e w' => e = .returned (.tuple #[fuV (getF xs id).1, .bool (getF xs id).2]) ∧ Below w.heap.size w w' := by
  have hle := hs.le
  have hbig := hs.big
  have HS := hide hs
  clear hs
  have hp := fun o => place_any A n c xs id (w.alloc o) ((HS.out.alloc (Nat.le_refl _) _).more (by simp))
  rcases getF_at (xs := xs) (id := id) with ⟨h1, h2⟩ | ⟨i, x, h1, h2, h3, h4⟩
  · rw [h1] at hp
    rw [h2]
    have HP := hide hp
    clear hp h1 h2
    go_enter Try.func13, Try.ntmps13
    go_wp2_with fail
    refine (HP.out _).mono ?_
    rintro e w1 ⟨rfl, hb⟩
    obtain ⟨hc, hf⟩ := bcell hb
    have hz : w.heap.size < w1.heap.size := by have := hb.size; simp at this; omega
    go_wp2
    refine bodyPost_ret (v := .tuple #[fuV fu0, .bool false]) (by simp [results, Try.results13, go_sem, hc, fuV, fu0]) rfl ⟨rfl, ?_⟩
    exact below_box5 (below_call hb) (Nat.le_refl _) _ _ _ _ _
  · rw [h1] at hp
    rw [h4]
    have HP := hide hp
    have hi : i < n := by have := (List.getElem?_eq_some_iff.1 h2).1; have := HS.out.len; omega
    obtain ⟨b, off, y, rfl, hbB, hy, c0, c1, c2, c3, c4⟩ := Fs_at HS.out hi
    obtain rfl : x = y := by rw [hy] at h2; exact (Option.some.inj h2).symm
    clear hp h1 h2 hy h4 h3
    go_enter Try.func13, Try.ntmps13
    go_wp2_with fail
    refine (HP.out _).mono ?_
    rintro e w1 ⟨rfl, hb⟩
    obtain ⟨hc, hf⟩ := bcell hb
    have hz : w.heap.size < w1.heap.size := by have := hb.size; simp at this; omega
    have hcc : ∀ o, w1.cell? ⟨b, o, none⟩ = w.cell? ⟨b, o, none⟩ := fun o => by
      rw [hc b o (by simp; omega)]; exact World.cell?_alloc_lt w _ _ hbB
    rw [← hcc] at c0 c1 c2 c3 c4
    go_wp2
    refine bodyPost_ret (v := .tuple #[fuV x, .bool true]) (by simp [results, Try.results13, go_sem, hc, fuV]) rfl ⟨rfl, ?_⟩
    exact below_box5 (below_call hb) (Nat.le_refl _) _ _ _ _ _

theorem rget_any (A : Option Addr) (n c : Nat) (xs : List Fu) (id : Int) (w : World) (hs : Fs w w.heap.size A n c xs) :
    Calls Try.prog 14 #[.slice A n c, .int .i64 id] w fun e w' => e = .returned (.tuple #[fuV (getF xs id).1, .bool (getF xs id).2]) ∧ Below w.heap.size w w' := by
  have hle := hs.le
  have hbig := hs.big
  have HS := hide hs
  clear hs
  have hp := fun o => at_any A n c xs id (w.alloc o) _ ((HS.out.alloc (Nat.le_refl _) _).more (Nat.le_refl _))
  rcases getF_at (xs := xs) (id := id) with ⟨h1, h2⟩ | ⟨i, x, h1, h2, h3, h4⟩
  · rw [h1] at hp
    rw [h2]
    have HP := hide hp
    clear hp h1 h2
    go_enter Try.func14, Try.ntmps14
    go_wp2_with fail
    refine (HP.out _).mono ?_
    rintro e w1 ⟨rfl, rfl⟩
    go_wp2
    refine bodyPost_ret (v := .tuple #[fuV fu0, .bool false]) (by simp [results, Try.results14, go_sem, fuV, fu0]) rfl ⟨rfl, ?_⟩
    exact (Below.refl _ _).alloc (Nat.le_refl _) _
  · rw [h1] at hp
    rw [h4]
    have HP := hide hp
    have hi : i < n := by have := (List.getElem?_eq_some_iff.1 h2).1; have := HS.out.len; omega
    obtain ⟨b, off, y, rfl, hbB, hy, c0, c1, c2, c3, c4⟩ := Fs_at HS.out hi
    obtain rfl : x = y := by rw [hy] at h2; exact (Option.some.inj h2).symm
    clear hp h1 h2 hy h4 h3
    go_enter Try.func14, Try.ntmps14
    go_wp2_with fail
    refine (HP.out _).mono ?_
    rintro e w1 ⟨rfl, rfl⟩
    go_wp2
    refine bodyPost_ret (v := .tuple #[fuV x, .bool true]) (by simp [results, Try.results14, go_sem, fuV]) rfl ⟨rfl, ?_⟩
    exact (Below.refl _ _).alloc (Nat.le_refl _) _

end Go.Proofs.Ytbcapljiangjcaa
