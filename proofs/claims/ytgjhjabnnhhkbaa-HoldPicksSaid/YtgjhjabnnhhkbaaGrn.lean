/- A plain region whose operations only read, and whose callees may lay blocks of their own, by the cheap quiet step. No program. -/
import Derived.Test.YtgjhjabnnhhkbaaMem
namespace Go.Proofs.Ytgjhjabnnhhkbaa
open Go.RowKit

theorem wpList_of_quiet {P : Program} {ops : Array Oper} {C : World → Prop} {K : Act → Prop} {Q : Exit → Act → World → Prop} : ∀ (l : List Oper) (a : Act) (w : World), C w → wpQuiet P ops C K l a → (∀ a' w', C w' → K a' → Q .normal a' w') → wpList P ops Q l a w
  | [], a, w, hC, h, hQ => hQ a w hC h
  | o :: rest, a, w, hC, h, hQ => by
    unfold wpList
    unfold wpQuiet at h
    by_cases hw : Region.wanted o (yielded ops a.tmps) = true
    · rw [if_pos hw] at h ⊢
      exact .inl (Oper.wp_of_quiet hC (fun a' w' hC' h' => wpList_of_quiet rest a' w' hC' h' hQ) h)
    · rw [if_neg hw] at h ⊢
      exact wpList_of_quiet rest _ w hC h hQ
theorem wp_plain_grn {P : Program} {id : Nat} {Q : Exit → Act → World → Prop} {a : Act} {w : World} {l : List Oper}
    (h : wpQuiet P l.toArray (fun w' => ∃ p : Grn w, w' = p.W) (fun a' => ∀ w', (∃ p : Grn w, w' = p.W) → Q .normal a' w') l a) : (Code.region id l.toArray false).wp P Q a w :=
  wp_region_lit (wpList_of_quiet l a w ⟨⟨w, Below.refl _ w⟩, rfl⟩ h (fun _ w' hC hK => hK w' hC))
end Go.Proofs.Ytgjhjabnnhhkbaa
