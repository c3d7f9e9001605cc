/- Walks: Find of both, Same, checked of both, with, without. -/
import Derived.Test.YtelkidhgbjhboaaLoA
import Derived.Test.YtelkidhgbjhboaaLoIns
import Derived.Test.YtelkidhgbjhboaaLoDel
namespace Go.Proofs.Ytelkidhgbjhboaa
open Go.RowKit

/-- The loan of an item, or the zero loan; and whether there is one. -/
def findL (xs : List Lo) (item : Int) : Lo × Bool := ((fstF (fun x => x.item == item) xs).1, decide (0 ≤ atL xs item))

set_option maxHeartbeats 400000 in
theorem lfind_any (A : Option Addr) (n c : Nat) (xs : List Lo) (item : Int) (w : World) (hs : Los w w.heap.size A n c xs) :
    Calls Try.prog 22 #[.slice A n c, .int .i64 item] w fun e w' => e = .returned (.tuple #[loV (findL xs item).1, .bool (findL xs item).2]) ∧ Below w.heap.size w w' := by
  have hf := fun (o o' : Obj) b (hb : b < ((w.alloc o).alloc o').heap.size) hc => firstOf_any item b A n c xs ((w.alloc o).alloc o') (((hs.alloc (Nat.le_refl _) o).alloc (by simp) o').more (by simp; omega)) hb hc
  have e1 : findL xs item = ((fstF (fun x => x.item == item) xs).1, decide (0 ≤ (fstF (fun x => x.item == item) xs).2)) := rfl
  rw [e1]
  clear e1
  generalize fstF (fun x => x.item == item) xs = r at hf
  obtain ⟨r, i⟩ := r
  have HF := hide hf
  clear hf hs
  go_enter Try.func22, Try.ntmps22
  go_wp2_with fail
  refine (of_any item _).mono ?_
  rintro e w1 ⟨rfl, rfl⟩
  go_wp2_with fail
  refine (HF.out _ _ _ (by simp) (by simp [go_sem])).mono ?_
  rintro e w2 ⟨rfl, hb⟩
  have hz : w.heap.size < w2.heap.size := by have := hb.size; simp at this; omega
  obtain ⟨bx, r0, r1, r2, r3, r4, r5⟩ := lo_box (x := lo0) ((Box.new w 28 (loC lo0)).alloc _) (hb.mono (by simp))
  have hfz := fun j => bx.frz j
  clear bx
  simp only [lo0] at r0 r1 r2 r3 r4 r5
  have hbb := below_call (below_call hb)
  obtain ⟨x0, x1, x2, x3, x4, x5⟩ := r
  simp only [loV]
  go_wp2
  have hal : ∀ (W : World) (o : Obj) (j : Nat), w.heap.size < W.heap.size → (W.alloc o).cell? ⟨w.heap.size, j, none⟩ = W.cell? ⟨w.heap.size, j, none⟩ := fun W o j h => World.cell?_alloc_lt W o _ h
  refine bodyPost_ret (v := .tuple #[loV ⟨x0, x1, x2, x3, x4, x5⟩, .bool (decide (0 ≤ i))]) (by simp [results, Try.results22, go_sem, r0, r1, r2, r3, r4, r5, hal, hz, loV]) rfl ⟨rfl, ?_⟩
  exact (below_lo hbb (Nat.le_refl _) _ _ _ _ _ _).alloc (by simp; omega) _
end Go.Proofs.Ytelkidhgbjhboaa
