/-
  No cell of these rows narrows 'for every input' (looked for: loops, veiled, ifaces, maps, wideKeys, modest, calm, conditions, laid).
  DERIVED. THE GIVEN ROWS OF THIS SEAT. 8 by the template 'for every input the law returns true; each argument reads behind the call as it read before'; 0 by the template 'total and deterministic' (their statements: YtelkidhgbjhboaaTotals.lean).
  GIVEN WITH THE SEED: the statements are not yours to turn. If you find one false, say at which input.
  Laid BY PROGRAM, IN A SANDBOX (cutbox-rows.mjs): the forced cells as the released guide's own fill.sh prints them over the translation 11be88ce25a35791… (all of the seat's roots in one cut). By AI agents, Wed Nov 11 2026. No macro, syntax, notation, axiom, sorry.
-/
import Derived.Test.YtelkidhgbjhboaaChecked
import GoSem.Claim
import GoSem.ClaimJoined
import GoSem.ClaimMapViews
import Derived.JoinedTies
import Derived.KernelRfl
namespace Go.Proofs.Ytelkidhgbjhboaa
/- THE CELL 'sum', in the pinned program and in every row, IS THE sha256 OF THE DUMP (.gsa) THAT YtelkidhgbjhboaaProg.lean LOADS. Nothing in Lean hashes anything: it is a label: what it is worth is what the hold of that sum in a sandbox is worth. -/
noncomputable def Try.pinned : Pinned := { name := "ytelkidhgbjhboaa", sum := "11be88ce25a357910575784965a6fc6ac9cd55cd1d63e8902b52571ab15cd679", checked := Try.checked }
namespace Rows
def none {H : Type} : Left H := { results := [], args := [] }

/-- 'librarylaw31.LoanRight': WHATEVER THE INPUT: true; the input reads as it did. -/
def loanRightSpec : ChangeSpec := { name := "loanRight", fn := fun _ => fun
  | [d] => { results := [.lit (.bool true)], args := [d] }
  | _ => none }
def loanRightRow : OpenClaim := { program := "ytelkidhgbjhboaa", sum := "11be88ce25a357910575784965a6fc6ac9cd55cd1d63e8902b52571ab15cd679", func := "library/librarylaw31.LoanRight", spec := "loanRight", inPlace := ["slices.overlaps[library/api.Loan]"], unfollowed := true, recurses := true, apart := false }
def LoanRightSaid : Prop := loanRightRow.holds Try.pinned (OpenSpec.ofChange loanRightSpec)

/-- ITS FALSE NEIGHBOUR: 'it returns false'. Refute it at one input. -/
def loanRightWrong : ChangeSpec := { name := "loanRight", fn := fun _ => fun
  | [d] => { results := [.lit (.bool false)], args := [d] }
  | _ => none }
def LoanRightWrongFalsely : Prop := loanRightRow.holds Try.pinned (OpenSpec.ofChange loanRightWrong)

/-- 'librarylaw31.LoanOut': WHATEVER THE INPUT: true; the input reads as it did. -/
def loanOutSpec : ChangeSpec := { name := "loanOut", fn := fun _ => fun
  | [d1, d2] => { results := [.lit (.bool true)], args := [d1, d2] }
  | _ => none }
def loanOutRow : OpenClaim := { program := "ytelkidhgbjhboaa", sum := "11be88ce25a357910575784965a6fc6ac9cd55cd1d63e8902b52571ab15cd679", func := "library/librarylaw31.LoanOut", spec := "loanOut", inPlace := ["slices.overlaps[library/api.Loan]"], unfollowed := true, recurses := true, apart := false }
def LoanOutSaid : Prop := loanOutRow.holds Try.pinned (OpenSpec.ofChange loanOutSpec)

/-- ITS FALSE NEIGHBOUR: 'it returns false'. Refute it at one input. -/
def loanOutWrong : ChangeSpec := { name := "loanOut", fn := fun _ => fun
  | [d1, d2] => { results := [.lit (.bool false)], args := [d1, d2] }
  | _ => none }
def LoanOutWrongFalsely : Prop := loanOutRow.holds Try.pinned (OpenSpec.ofChange loanOutWrong)

/-- 'librarylaw31.LoanRenews': WHATEVER THE INPUT: true; the input reads as it did. -/
def loanRenewsSpec : ChangeSpec := { name := "loanRenews", fn := fun _ => fun
  | [d1, d2, d3] => { results := [.lit (.bool true)], args := [d1, d2, d3] }
  | _ => none }
def loanRenewsRow : OpenClaim := { program := "ytelkidhgbjhboaa", sum := "11be88ce25a357910575784965a6fc6ac9cd55cd1d63e8902b52571ab15cd679", func := "library/librarylaw31.LoanRenews", spec := "loanRenews", inPlace := ["slices.overlaps[library/api.Loan]"], unfollowed := true, recurses := true, apart := false }
def LoanRenewsSaid : Prop := loanRenewsRow.holds Try.pinned (OpenSpec.ofChange loanRenewsSpec)

/-- ITS FALSE NEIGHBOUR: 'it returns false'. Refute it at one input. -/
def loanRenewsWrong : ChangeSpec := { name := "loanRenews", fn := fun _ => fun
  | [d1, d2, d3] => { results := [.lit (.bool false)], args := [d1, d2, d3] }
  | _ => none }
def LoanRenewsWrongFalsely : Prop := loanRenewsRow.holds Try.pinned (OpenSpec.ofChange loanRenewsWrong)

/-- 'librarylaw31.LoanRecalls': WHATEVER THE INPUT: true; the input reads as it did. -/
def loanRecallsSpec : ChangeSpec := { name := "loanRecalls", fn := fun _ => fun
  | [d1, d2, d3] => { results := [.lit (.bool true)], args := [d1, d2, d3] }
  | _ => none }
def loanRecallsRow : OpenClaim := { program := "ytelkidhgbjhboaa", sum := "11be88ce25a357910575784965a6fc6ac9cd55cd1d63e8902b52571ab15cd679", func := "library/librarylaw31.LoanRecalls", spec := "loanRecalls", inPlace := ["slices.overlaps[library/api.Loan]"], unfollowed := true, recurses := true, apart := false }
def LoanRecallsSaid : Prop := loanRecallsRow.holds Try.pinned (OpenSpec.ofChange loanRecallsSpec)

/-- ITS FALSE NEIGHBOUR: 'it returns false'. Refute it at one input. -/
def loanRecallsWrong : ChangeSpec := { name := "loanRecalls", fn := fun _ => fun
  | [d1, d2, d3] => { results := [.lit (.bool false)], args := [d1, d2, d3] }
  | _ => none }
def LoanRecallsWrongFalsely : Prop := loanRecallsRow.holds Try.pinned (OpenSpec.ofChange loanRecallsWrong)

/-- 'librarylaw31.LoanFinds': WHATEVER THE INPUT: true; the input reads as it did. -/
def loanFindsSpec : ChangeSpec := { name := "loanFinds", fn := fun _ => fun
  | [d1, d2, d3] => { results := [.lit (.bool true)], args := [d1, d2, d3] }
  | _ => none }
def loanFindsRow : OpenClaim := { program := "ytelkidhgbjhboaa", sum := "11be88ce25a357910575784965a6fc6ac9cd55cd1d63e8902b52571ab15cd679", func := "library/librarylaw31.LoanFinds", spec := "loanFinds", inPlace := ["slices.overlaps[library/api.Loan]"], unfollowed := true, recurses := true, apart := false }
def LoanFindsSaid : Prop := loanFindsRow.holds Try.pinned (OpenSpec.ofChange loanFindsSpec)

/-- ITS FALSE NEIGHBOUR: 'it returns false'. Refute it at one input. -/
def loanFindsWrong : ChangeSpec := { name := "loanFinds", fn := fun _ => fun
  | [d1, d2, d3] => { results := [.lit (.bool false)], args := [d1, d2, d3] }
  | _ => none }
def LoanFindsWrongFalsely : Prop := loanFindsRow.holds Try.pinned (OpenSpec.ofChange loanFindsWrong)

/-- 'librarylaw31.LoanOthers': WHATEVER THE INPUT: true; the input reads as it did. -/
def loanOthersSpec : ChangeSpec := { name := "loanOthers", fn := fun _ => fun
  | [d1, d2, d3] => { results := [.lit (.bool true)], args := [d1, d2, d3] }
  | _ => none }
def loanOthersRow : OpenClaim := { program := "ytelkidhgbjhboaa", sum := "11be88ce25a357910575784965a6fc6ac9cd55cd1d63e8902b52571ab15cd679", func := "library/librarylaw31.LoanOthers", spec := "loanOthers", inPlace := ["slices.overlaps[library/api.Loan]"], unfollowed := true, recurses := true, apart := false }
def LoanOthersSaid : Prop := loanOthersRow.holds Try.pinned (OpenSpec.ofChange loanOthersSpec)

/-- ITS FALSE NEIGHBOUR: 'it returns false'. Refute it at one input. -/
def loanOthersWrong : ChangeSpec := { name := "loanOthers", fn := fun _ => fun
  | [d1, d2, d3] => { results := [.lit (.bool false)], args := [d1, d2, d3] }
  | _ => none }
def LoanOthersWrongFalsely : Prop := loanOthersRow.holds Try.pinned (OpenSpec.ofChange loanOthersWrong)

/-- 'librarylaw31.LoanBack': WHATEVER THE INPUT: true; the input reads as it did. -/
def loanBackSpec : ChangeSpec := { name := "loanBack", fn := fun _ => fun
  | [d1, d2] => { results := [.lit (.bool true)], args := [d1, d2] }
  | _ => none }
def loanBackRow : OpenClaim := { program := "ytelkidhgbjhboaa", sum := "11be88ce25a357910575784965a6fc6ac9cd55cd1d63e8902b52571ab15cd679", func := "library/librarylaw31.LoanBack", spec := "loanBack", inPlace := ["slices.overlaps[library/api.Loan]"], unfollowed := true, recurses := true, apart := false }
def LoanBackSaid : Prop := loanBackRow.holds Try.pinned (OpenSpec.ofChange loanBackSpec)

/-- ITS FALSE NEIGHBOUR: 'it returns false'. Refute it at one input. -/
def loanBackWrong : ChangeSpec := { name := "loanBack", fn := fun _ => fun
  | [d1, d2] => { results := [.lit (.bool false)], args := [d1, d2] }
  | _ => none }
def LoanBackWrongFalsely : Prop := loanBackRow.holds Try.pinned (OpenSpec.ofChange loanBackWrong)

/-- 'librarylaw31.LoanRound': WHATEVER THE INPUT: true; the input reads as it did. -/
def loanRoundSpec : ChangeSpec := { name := "loanRound", fn := fun _ => fun
  | [d1, d2] => { results := [.lit (.bool true)], args := [d1, d2] }
  | _ => none }
def loanRoundRow : OpenClaim := { program := "ytelkidhgbjhboaa", sum := "11be88ce25a357910575784965a6fc6ac9cd55cd1d63e8902b52571ab15cd679", func := "library/librarylaw31.LoanRound", spec := "loanRound", inPlace := ["slices.overlaps[library/api.Loan]"], unfollowed := true, recurses := true, apart := false }
def LoanRoundSaid : Prop := loanRoundRow.holds Try.pinned (OpenSpec.ofChange loanRoundSpec)

/-- ITS FALSE NEIGHBOUR: 'it returns false'. Refute it at one input. -/
def loanRoundWrong : ChangeSpec := { name := "loanRound", fn := fun _ => fun
  | [d1, d2] => { results := [.lit (.bool false)], args := [d1, d2] }
  | _ => none }
def LoanRoundWrongFalsely : Prop := loanRoundRow.holds Try.pinned (OpenSpec.ofChange loanRoundWrong)

/- THE SECOND FORM. 'bulk': how many values and letters a reading holds, each counted each time it is reached (what is shared counts as often as it is met; a slice's spare places count too). A statement '..UptoSaid' is the law's where the arguments, and the package variables that the reading takes, are together of bulk at most 1048576: NARROWER than '..Said'. Prove '..Said' where nothing that the law and all that it calls make is longer than what came in: it says more and counts as full. Else prove '..UptoSaid'. A law counts once. -/
mutual
def uptoBulk {H : Type} : DataW H → Nat
  | .lit (.string bytes) => bytes.length + 1
  | .lit _ => 1
  | .nil => 1
  | .ptr d => uptoBulk d + 1
  | .slice elems spare => uptoBulkAll elems + uptoBulkAll spare + 1
  | .agg parts => uptoBulkAll parts + 1
  | .iface _ d => uptoBulk d + 1
  | .map entries => uptoBulkEntries entries + 1
  | .held _ => 1
def uptoBulkAll {H : Type} : List (DataW H) → Nat
  | [] => 0
  | d :: r => uptoBulk d + uptoBulkAll r
def uptoBulkEntries {H : Type} : List (Lit × DataW H) → Nat
  | [] => 0
  | x :: r => uptoBulkEntry x + uptoBulkEntries r
def uptoBulkEntry {H : Type} : Lit × DataW H → Nat
  | (.string bytes, d) => bytes.length + uptoBulk d + 1
  | (_, d) => uptoBulk d + 1
 end
def uptoSmall : (H : Type) → List (DataW H) → Bool := fun _ ds => decide (uptoBulkAll ds ≤ 1048576)
def OpenSpec.upto (s : _root_.Go.ChangeSpec) : _root_.Go.OpenSpec := { _root_.Go.OpenSpec.ofChange s with cond := some uptoSmall }

/-- 'librarylaw31.LoanRight', WHERE WHAT IT READS IS OF BULK AT MOST 1048576: true; the input reads as it did. -/
def loanRightUptoRow : OpenClaim := { program := "ytelkidhgbjhboaa", sum := "11be88ce25a357910575784965a6fc6ac9cd55cd1d63e8902b52571ab15cd679", func := "library/librarylaw31.LoanRight", spec := "loanRight", inPlace := ["slices.overlaps[library/api.Loan]"], unfollowed := true, recurses := true, apart := false, narrowed := true }
def LoanRightUptoSaid : Prop := loanRightUptoRow.holds Try.pinned (OpenSpec.upto loanRightSpec)

/-- 'librarylaw31.LoanOut', WHERE WHAT IT READS IS OF BULK AT MOST 1048576: true; the input reads as it did. -/
def loanOutUptoRow : OpenClaim := { program := "ytelkidhgbjhboaa", sum := "11be88ce25a357910575784965a6fc6ac9cd55cd1d63e8902b52571ab15cd679", func := "library/librarylaw31.LoanOut", spec := "loanOut", inPlace := ["slices.overlaps[library/api.Loan]"], unfollowed := true, recurses := true, apart := false, narrowed := true }
def LoanOutUptoSaid : Prop := loanOutUptoRow.holds Try.pinned (OpenSpec.upto loanOutSpec)

/-- 'librarylaw31.LoanRenews', WHERE WHAT IT READS IS OF BULK AT MOST 1048576: true; the input reads as it did. -/
def loanRenewsUptoRow : OpenClaim := { program := "ytelkidhgbjhboaa", sum := "11be88ce25a357910575784965a6fc6ac9cd55cd1d63e8902b52571ab15cd679", func := "library/librarylaw31.LoanRenews", spec := "loanRenews", inPlace := ["slices.overlaps[library/api.Loan]"], unfollowed := true, recurses := true, apart := false, narrowed := true }
def LoanRenewsUptoSaid : Prop := loanRenewsUptoRow.holds Try.pinned (OpenSpec.upto loanRenewsSpec)

/-- 'librarylaw31.LoanRecalls', WHERE WHAT IT READS IS OF BULK AT MOST 1048576: true; the input reads as it did. -/
def loanRecallsUptoRow : OpenClaim := { program := "ytelkidhgbjhboaa", sum := "11be88ce25a357910575784965a6fc6ac9cd55cd1d63e8902b52571ab15cd679", func := "library/librarylaw31.LoanRecalls", spec := "loanRecalls", inPlace := ["slices.overlaps[library/api.Loan]"], unfollowed := true, recurses := true, apart := false, narrowed := true }
def LoanRecallsUptoSaid : Prop := loanRecallsUptoRow.holds Try.pinned (OpenSpec.upto loanRecallsSpec)

/-- 'librarylaw31.LoanFinds', WHERE WHAT IT READS IS OF BULK AT MOST 1048576: true; the input reads as it did. -/
def loanFindsUptoRow : OpenClaim := { program := "ytelkidhgbjhboaa", sum := "11be88ce25a357910575784965a6fc6ac9cd55cd1d63e8902b52571ab15cd679", func := "library/librarylaw31.LoanFinds", spec := "loanFinds", inPlace := ["slices.overlaps[library/api.Loan]"], unfollowed := true, recurses := true, apart := false, narrowed := true }
def LoanFindsUptoSaid : Prop := loanFindsUptoRow.holds Try.pinned (OpenSpec.upto loanFindsSpec)

/-- 'librarylaw31.LoanOthers', WHERE WHAT IT READS IS OF BULK AT MOST 1048576: true; the input reads as it did. -/
def loanOthersUptoRow : OpenClaim := { program := "ytelkidhgbjhboaa", sum := "11be88ce25a357910575784965a6fc6ac9cd55cd1d63e8902b52571ab15cd679", func := "library/librarylaw31.LoanOthers", spec := "loanOthers", inPlace := ["slices.overlaps[library/api.Loan]"], unfollowed := true, recurses := true, apart := false, narrowed := true }
def LoanOthersUptoSaid : Prop := loanOthersUptoRow.holds Try.pinned (OpenSpec.upto loanOthersSpec)

/-- 'librarylaw31.LoanBack', WHERE WHAT IT READS IS OF BULK AT MOST 1048576: true; the input reads as it did. -/
def loanBackUptoRow : OpenClaim := { program := "ytelkidhgbjhboaa", sum := "11be88ce25a357910575784965a6fc6ac9cd55cd1d63e8902b52571ab15cd679", func := "library/librarylaw31.LoanBack", spec := "loanBack", inPlace := ["slices.overlaps[library/api.Loan]"], unfollowed := true, recurses := true, apart := false, narrowed := true }
def LoanBackUptoSaid : Prop := loanBackUptoRow.holds Try.pinned (OpenSpec.upto loanBackSpec)

/-- 'librarylaw31.LoanRound', WHERE WHAT IT READS IS OF BULK AT MOST 1048576: true; the input reads as it did. -/
def loanRoundUptoRow : OpenClaim := { program := "ytelkidhgbjhboaa", sum := "11be88ce25a357910575784965a6fc6ac9cd55cd1d63e8902b52571ab15cd679", func := "library/librarylaw31.LoanRound", spec := "loanRound", inPlace := ["slices.overlaps[library/api.Loan]"], unfollowed := true, recurses := true, apart := false, narrowed := true }
def LoanRoundUptoSaid : Prop := loanRoundUptoRow.holds Try.pinned (OpenSpec.upto loanRoundSpec)

end Rows
end Go.Proofs.Ytelkidhgbjhboaa
