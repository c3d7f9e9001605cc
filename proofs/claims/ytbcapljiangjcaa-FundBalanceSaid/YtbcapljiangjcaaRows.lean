/-
  No cell of these rows narrows 'for every input' (looked for: loops, veiled, ifaces, maps, wideKeys, modest, calm, conditions, laid).
  DERIVED. THE GIVEN ROWS OF THIS SEAT. 8 by the template 'for every input the law returns true; each argument reads behind the call as it read before'; 0 by the template 'total and deterministic' (their statements: YtbcapljiangjcaaTotals.lean).
  GIVEN WITH THE SEED: the statements are not yours to turn. If you find one false, say at which input.
  Laid BY PROGRAM, IN A SANDBOX (cutbox-rows.mjs): the forced cells as the released guide's own fill.sh prints them over the translation 00216c01431334c0… (all of the seat's roots in one cut). By AI agents, Wed Nov 11 2026. No macro, syntax, notation, axiom, sorry.
-/
import Derived.Test.YtbcapljiangjcaaChecked
import GoSem.Claim
import GoSem.ClaimJoined
import GoSem.ClaimMapViews
import Derived.JoinedTies
import Derived.KernelRfl
namespace Go.Proofs.Ytbcapljiangjcaa
/- THE CELL 'sum', in the pinned program and in every row, IS THE sha256 OF THE DUMP (.gsa) THAT YtbcapljiangjcaaProg.lean LOADS. Nothing in Lean hashes anything: it is a label: what it is worth is what the hold of that sum in a sandbox is worth. -/
noncomputable def Try.pinned : Pinned := { name := "ytbcapljiangjcaa", sum := "00216c01431334c0fe4fd6952b6875503e27dc3691af7626f66c70ac61ec7469", checked := Try.checked }
namespace Rows
def none {H : Type} : Left H := { results := [], args := [] }

/-- 'librarylaw38.FundTells': WHATEVER THE INPUT: true; the input reads as it did. -/
def fundTellsSpec : ChangeSpec := { name := "fundTells", fn := fun _ => fun
  | [d1, d2] => { results := [.lit (.bool true)], args := [d1, d2] }
  | _ => none }
def fundTellsRow : OpenClaim := { program := "ytbcapljiangjcaa", sum := "00216c01431334c0fe4fd6952b6875503e27dc3691af7626f66c70ac61ec7469", func := "library/librarylaw38.FundTells", spec := "fundTells", unfollowed := true, recurses := true, apart := false }
def FundTellsSaid : Prop := fundTellsRow.holds Try.pinned (OpenSpec.ofChange fundTellsSpec)

/-- ITS FALSE NEIGHBOUR: 'it returns false'. Refute it at one input. -/
def fundTellsWrong : ChangeSpec := { name := "fundTells", fn := fun _ => fun
  | [d1, d2] => { results := [.lit (.bool false)], args := [d1, d2] }
  | _ => none }
def FundTellsWrongFalsely : Prop := fundTellsRow.holds Try.pinned (OpenSpec.ofChange fundTellsWrong)

/-- 'librarylaw38.FundTransfers': WHATEVER THE INPUT: true; the input reads as it did. -/
def fundTransfersSpec : ChangeSpec := { name := "fundTransfers", fn := fun _ => fun
  | [d1, d2] => { results := [.lit (.bool true)], args := [d1, d2] }
  | _ => none }
def fundTransfersRow : OpenClaim := { program := "ytbcapljiangjcaa", sum := "00216c01431334c0fe4fd6952b6875503e27dc3691af7626f66c70ac61ec7469", func := "library/librarylaw38.FundTransfers", spec := "fundTransfers", unfollowed := true, recurses := true, apart := false }
def FundTransfersSaid : Prop := fundTransfersRow.holds Try.pinned (OpenSpec.ofChange fundTransfersSpec)

/-- ITS FALSE NEIGHBOUR: 'it returns false'. Refute it at one input. -/
def fundTransfersWrong : ChangeSpec := { name := "fundTransfers", fn := fun _ => fun
  | [d1, d2] => { results := [.lit (.bool false)], args := [d1, d2] }
  | _ => none }
def FundTransfersWrongFalsely : Prop := fundTransfersRow.holds Try.pinned (OpenSpec.ofChange fundTransfersWrong)

/-- 'librarylaw38.FundTotals': WHATEVER THE INPUT: true; the input reads as it did. -/
def fundTotalsSpec : ChangeSpec := { name := "fundTotals", fn := fun _ => fun
  | [d] => { results := [.lit (.bool true)], args := [d] }
  | _ => none }
def fundTotalsRow : OpenClaim := { program := "ytbcapljiangjcaa", sum := "00216c01431334c0fe4fd6952b6875503e27dc3691af7626f66c70ac61ec7469", func := "library/librarylaw38.FundTotals", spec := "fundTotals", unfollowed := true, recurses := true, apart := false }
def FundTotalsSaid : Prop := fundTotalsRow.holds Try.pinned (OpenSpec.ofChange fundTotalsSpec)

/-- ITS FALSE NEIGHBOUR: 'it returns false'. Refute it at one input. -/
def fundTotalsWrong : ChangeSpec := { name := "fundTotals", fn := fun _ => fun
  | [d] => { results := [.lit (.bool false)], args := [d] }
  | _ => none }
def FundTotalsWrongFalsely : Prop := fundTotalsRow.holds Try.pinned (OpenSpec.ofChange fundTotalsWrong)

/-- 'librarylaw38.FundSpends': WHATEVER THE INPUT: true; the input reads as it did. -/
def fundSpendsSpec : ChangeSpec := { name := "fundSpends", fn := fun _ => fun
  | [d1, d2] => { results := [.lit (.bool true)], args := [d1, d2] }
  | _ => none }
def fundSpendsRow : OpenClaim := { program := "ytbcapljiangjcaa", sum := "00216c01431334c0fe4fd6952b6875503e27dc3691af7626f66c70ac61ec7469", func := "library/librarylaw38.FundSpends", spec := "fundSpends", unfollowed := true, recurses := true, apart := false }
def FundSpendsSaid : Prop := fundSpendsRow.holds Try.pinned (OpenSpec.ofChange fundSpendsSpec)

/-- ITS FALSE NEIGHBOUR: 'it returns false'. Refute it at one input. -/
def fundSpendsWrong : ChangeSpec := { name := "fundSpends", fn := fun _ => fun
  | [d1, d2] => { results := [.lit (.bool false)], args := [d1, d2] }
  | _ => none }
def FundSpendsWrongFalsely : Prop := fundSpendsRow.holds Try.pinned (OpenSpec.ofChange fundSpendsWrong)

/-- 'librarylaw38.FundRight': WHATEVER THE INPUT: true; the input reads as it did. -/
def fundRightSpec : ChangeSpec := { name := "fundRight", fn := fun _ => fun
  | [d] => { results := [.lit (.bool true)], args := [d] }
  | _ => none }
def fundRightRow : OpenClaim := { program := "ytbcapljiangjcaa", sum := "00216c01431334c0fe4fd6952b6875503e27dc3691af7626f66c70ac61ec7469", func := "library/librarylaw38.FundRight", spec := "fundRight", unfollowed := true, recurses := true, apart := false }
def FundRightSaid : Prop := fundRightRow.holds Try.pinned (OpenSpec.ofChange fundRightSpec)

/-- ITS FALSE NEIGHBOUR: 'it returns false'. Refute it at one input. -/
def fundRightWrong : ChangeSpec := { name := "fundRight", fn := fun _ => fun
  | [d] => { results := [.lit (.bool false)], args := [d] }
  | _ => none }
def FundRightWrongFalsely : Prop := fundRightRow.holds Try.pinned (OpenSpec.ofChange fundRightWrong)

/-- 'librarylaw38.FundCloses': WHATEVER THE INPUT: true; the input reads as it did. -/
def fundClosesSpec : ChangeSpec := { name := "fundCloses", fn := fun _ => fun
  | [d1, d2] => { results := [.lit (.bool true)], args := [d1, d2] }
  | _ => none }
def fundClosesRow : OpenClaim := { program := "ytbcapljiangjcaa", sum := "00216c01431334c0fe4fd6952b6875503e27dc3691af7626f66c70ac61ec7469", func := "library/librarylaw38.FundCloses", spec := "fundCloses", unfollowed := true, recurses := true, apart := false }
def FundClosesSaid : Prop := fundClosesRow.holds Try.pinned (OpenSpec.ofChange fundClosesSpec)

/-- ITS FALSE NEIGHBOUR: 'it returns false'. Refute it at one input. -/
def fundClosesWrong : ChangeSpec := { name := "fundCloses", fn := fun _ => fun
  | [d1, d2] => { results := [.lit (.bool false)], args := [d1, d2] }
  | _ => none }
def FundClosesWrongFalsely : Prop := fundClosesRow.holds Try.pinned (OpenSpec.ofChange fundClosesWrong)

/-- 'librarylaw38.FundBalance': WHATEVER THE INPUT: true; the input reads as it did. -/
def fundBalanceSpec : ChangeSpec := { name := "fundBalance", fn := fun _ => fun
  | [d1, d2] => { results := [.lit (.bool true)], args := [d1, d2] }
  | _ => none }
def fundBalanceRow : OpenClaim := { program := "ytbcapljiangjcaa", sum := "00216c01431334c0fe4fd6952b6875503e27dc3691af7626f66c70ac61ec7469", func := "library/librarylaw38.FundBalance", spec := "fundBalance", unfollowed := true, recurses := true, apart := false }
def FundBalanceSaid : Prop := fundBalanceRow.holds Try.pinned (OpenSpec.ofChange fundBalanceSpec)

/-- ITS FALSE NEIGHBOUR: 'it returns false'. Refute it at one input. -/
def fundBalanceWrong : ChangeSpec := { name := "fundBalance", fn := fun _ => fun
  | [d1, d2] => { results := [.lit (.bool false)], args := [d1, d2] }
  | _ => none }
def FundBalanceWrongFalsely : Prop := fundBalanceRow.holds Try.pinned (OpenSpec.ofChange fundBalanceWrong)

/-- 'librarylaw38.FundAdds': WHATEVER THE INPUT: true; the input reads as it did. -/
def fundAddsSpec : ChangeSpec := { name := "fundAdds", fn := fun _ => fun
  | [d1, d2] => { results := [.lit (.bool true)], args := [d1, d2] }
  | _ => none }
def fundAddsRow : OpenClaim := { program := "ytbcapljiangjcaa", sum := "00216c01431334c0fe4fd6952b6875503e27dc3691af7626f66c70ac61ec7469", func := "library/librarylaw38.FundAdds", spec := "fundAdds", inPlace := ["slices.overlaps[library/api.Fund]"], unfollowed := true, recurses := true, apart := false }
def FundAddsSaid : Prop := fundAddsRow.holds Try.pinned (OpenSpec.ofChange fundAddsSpec)

/-- ITS FALSE NEIGHBOUR: 'it returns false'. Refute it at one input. -/
def fundAddsWrong : ChangeSpec := { name := "fundAdds", fn := fun _ => fun
  | [d1, d2] => { results := [.lit (.bool false)], args := [d1, d2] }
  | _ => none }
def FundAddsWrongFalsely : Prop := fundAddsRow.holds Try.pinned (OpenSpec.ofChange fundAddsWrong)

/- THE SECOND FORM. 'bulk': how many values and letters a reading holds, each counted each time it is reached (what is shared counts as often as it is met; a slice's spare places count too). A statement '..UptoSaid' is the law's where the arguments, and the package variables that the reading takes, are together of bulk at most 1048576: NARROWER than '..Said'. Prove '..Said' where nothing that the law and all that it calls make is longer than what came in: it says more and counts as full. Else prove '..UptoSaid'. A law counts once. -/
mutual
def uptoBulk {H : Type} : DataW H → Nat
  | .lit (.string bytes) => bytes.length + 1
  | .lit _ => 1
  | .nil => 1
  | .ptr d => uptoBulk d + 1
  | .slice elems spare => uptoBulkAll elems + uptoBulkAll spare + 1
  | .agg parts => uptoBulkAll parts + 1
  | .iface _ d => uptoBulk d + 1
  | .map entries => uptoBulkEntries entries + 1
  | .held _ => 1
def uptoBulkAll {H : Type} : List (DataW H) → Nat
  | [] => 0
  | d :: r => uptoBulk d + uptoBulkAll r
def uptoBulkEntries {H : Type} : List (Lit × DataW H) → Nat
  | [] => 0
  | x :: r => uptoBulkEntry x + uptoBulkEntries r
def uptoBulkEntry {H : Type} : Lit × DataW H → Nat
  | (.string bytes, d) => bytes.length + uptoBulk d + 1
  | (_, d) => uptoBulk d + 1
 end
def uptoSmall : (H : Type) → List (DataW H) → Bool := fun _ ds => decide (uptoBulkAll ds ≤ 1048576)
def OpenSpec.upto (s : _root_.Go.ChangeSpec) : _root_.Go.OpenSpec := { _root_.Go.OpenSpec.ofChange s with cond := some uptoSmall }

/-- 'librarylaw38.FundTells', WHERE WHAT IT READS IS OF BULK AT MOST 1048576: true; the input reads as it did. -/
def fundTellsUptoRow : OpenClaim := { program := "ytbcapljiangjcaa", sum := "00216c01431334c0fe4fd6952b6875503e27dc3691af7626f66c70ac61ec7469", func := "library/librarylaw38.FundTells", spec := "fundTells", unfollowed := true, recurses := true, apart := false, narrowed := true }
def FundTellsUptoSaid : Prop := fundTellsUptoRow.holds Try.pinned (OpenSpec.upto fundTellsSpec)

/-- 'librarylaw38.FundTransfers', WHERE WHAT IT READS IS OF BULK AT MOST 1048576: true; the input reads as it did. -/
def fundTransfersUptoRow : OpenClaim := { program := "ytbcapljiangjcaa", sum := "00216c01431334c0fe4fd6952b6875503e27dc3691af7626f66c70ac61ec7469", func := "library/librarylaw38.FundTransfers", spec := "fundTransfers", unfollowed := true, recurses := true, apart := false, narrowed := true }
def FundTransfersUptoSaid : Prop := fundTransfersUptoRow.holds Try.pinned (OpenSpec.upto fundTransfersSpec)

/-- 'librarylaw38.FundTotals', WHERE WHAT IT READS IS OF BULK AT MOST 1048576: true; the input reads as it did. -/
def fundTotalsUptoRow : OpenClaim := { program := "ytbcapljiangjcaa", sum := "00216c01431334c0fe4fd6952b6875503e27dc3691af7626f66c70ac61ec7469", func := "library/librarylaw38.FundTotals", spec := "fundTotals", unfollowed := true, recurses := true, apart := false, narrowed := true }
def FundTotalsUptoSaid : Prop := fundTotalsUptoRow.holds Try.pinned (OpenSpec.upto fundTotalsSpec)

/-- 'librarylaw38.FundSpends', WHERE WHAT IT READS IS OF BULK AT MOST 1048576: true; the input reads as it did. -/
def fundSpendsUptoRow : OpenClaim := { program := "ytbcapljiangjcaa", sum := "00216c01431334c0fe4fd6952b6875503e27dc3691af7626f66c70ac61ec7469", func := "library/librarylaw38.FundSpends", spec := "fundSpends", unfollowed := true, recurses := true, apart := false, narrowed := true }
def FundSpendsUptoSaid : Prop := fundSpendsUptoRow.holds Try.pinned (OpenSpec.upto fundSpendsSpec)

/-- 'librarylaw38.FundRight', WHERE WHAT IT READS IS OF BULK AT MOST 1048576: true; the input reads as it did. -/
def fundRightUptoRow : OpenClaim := { program := "ytbcapljiangjcaa", sum := "00216c01431334c0fe4fd6952b6875503e27dc3691af7626f66c70ac61ec7469", func := "library/librarylaw38.FundRight", spec := "fundRight", unfollowed := true, recurses := true, apart := false, narrowed := true }
def FundRightUptoSaid : Prop := fundRightUptoRow.holds Try.pinned (OpenSpec.upto fundRightSpec)

/-- 'librarylaw38.FundCloses', WHERE WHAT IT READS IS OF BULK AT MOST 1048576: true; the input reads as it did. -/
def fundClosesUptoRow : OpenClaim := { program := "ytbcapljiangjcaa", sum := "00216c01431334c0fe4fd6952b6875503e27dc3691af7626f66c70ac61ec7469", func := "library/librarylaw38.FundCloses", spec := "fundCloses", unfollowed := true, recurses := true, apart := false, narrowed := true }
def FundClosesUptoSaid : Prop := fundClosesUptoRow.holds Try.pinned (OpenSpec.upto fundClosesSpec)

/-- 'librarylaw38.FundBalance', WHERE WHAT IT READS IS OF BULK AT MOST 1048576: true; the input reads as it did. -/
def fundBalanceUptoRow : OpenClaim := { program := "ytbcapljiangjcaa", sum := "00216c01431334c0fe4fd6952b6875503e27dc3691af7626f66c70ac61ec7469", func := "library/librarylaw38.FundBalance", spec := "fundBalance", unfollowed := true, recurses := true, apart := false, narrowed := true }
def FundBalanceUptoSaid : Prop := fundBalanceUptoRow.holds Try.pinned (OpenSpec.upto fundBalanceSpec)

/-- 'librarylaw38.FundAdds', WHERE WHAT IT READS IS OF BULK AT MOST 1048576: true; the input reads as it did. -/
def fundAddsUptoRow : OpenClaim := { program := "ytbcapljiangjcaa", sum := "00216c01431334c0fe4fd6952b6875503e27dc3691af7626f66c70ac61ec7469", func := "library/librarylaw38.FundAdds", spec := "fundAdds", inPlace := ["slices.overlaps[library/api.Fund]"], unfollowed := true, recurses := true, apart := false, narrowed := true }
def FundAddsUptoSaid : Prop := fundAddsUptoRow.holds Try.pinned (OpenSpec.upto fundAddsSpec)

end Rows
end Go.Proofs.Ytbcapljiangjcaa
