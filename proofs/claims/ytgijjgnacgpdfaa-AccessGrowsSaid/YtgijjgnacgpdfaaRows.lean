/-
  No cell of these rows narrows 'for every input' (looked for: loops, veiled, ifaces, maps, wideKeys, modest, calm, conditions, laid).
  DERIVED. THE GIVEN ROWS OF THIS SEAT. 7 by the template 'for every input the law returns true; each argument reads behind the call as it read before'; 0 by the template 'total and deterministic' (their statements: YtgijjgnacgpdfaaTotals.lean).
  GIVEN WITH THE SEED: the statements are not yours to turn. If you find one false, say at which input.
  Laid BY PROGRAM, IN A SANDBOX (cutbox-rows.mjs): the forced cells as the released guide's own fill.sh prints them over the translation deb911caa60426af… (all of the seat's roots in one cut). By AI agents, Wed Nov 11 2026. No macro, syntax, notation, axiom, sorry.
-/
import Derived.Test.YtgijjgnacgpdfaaChecked
import GoSem.Claim
import GoSem.ClaimJoined
import GoSem.ClaimMapViews
import Derived.JoinedTies
import Derived.KernelRfl
namespace Go.Proofs.Ytgijjgnacgpdfaa
/- THE CELL 'sum', in the pinned program and in every row, IS THE sha256 OF THE DUMP (.gsa) THAT YtgijjgnacgpdfaaProg.lean LOADS. Nothing in Lean hashes anything: it is a label: what it is worth is what the hold of that sum in a sandbox is worth. -/
noncomputable def Try.pinned : Pinned := { name := "ytgijjgnacgpdfaa", sum := "deb911caa60426af7347b4a5caae2832bdcebd11df41c393739957cf0b1dc3d5", checked := Try.checked }
namespace Rows
def none {H : Type} : Left H := { results := [], args := [] }

/-- 'librarylaw46.AccessRights': WHATEVER THE INPUT: true; the input reads as it did. -/
def accessRightsSpec : ChangeSpec := { name := "accessRights", fn := fun _ => fun
  | [d] => { results := [.lit (.bool true)], args := [d] }
  | _ => none }
def accessRightsRow : OpenClaim := { program := "ytgijjgnacgpdfaa", sum := "deb911caa60426af7347b4a5caae2832bdcebd11df41c393739957cf0b1dc3d5", func := "library/librarylaw46.AccessRights", spec := "accessRights", apart := false }
def AccessRightsSaid : Prop := accessRightsRow.holds Try.pinned (OpenSpec.ofChange accessRightsSpec)

/-- ITS FALSE NEIGHBOUR: 'it returns false'. Refute it at one input. -/
def accessRightsWrong : ChangeSpec := { name := "accessRights", fn := fun _ => fun
  | [d] => { results := [.lit (.bool false)], args := [d] }
  | _ => none }
def AccessRightsWrongFalsely : Prop := accessRightsRow.holds Try.pinned (OpenSpec.ofChange accessRightsWrong)

/-- 'librarylaw46.AccessLevels': WHATEVER THE INPUT: true; the input reads as it did. -/
def accessLevelsSpec : ChangeSpec := { name := "accessLevels", fn := fun _ => fun
  | [d1, d2] => { results := [.lit (.bool true)], args := [d1, d2] }
  | _ => none }
def accessLevelsRow : OpenClaim := { program := "ytgijjgnacgpdfaa", sum := "deb911caa60426af7347b4a5caae2832bdcebd11df41c393739957cf0b1dc3d5", func := "library/librarylaw46.AccessLevels", spec := "accessLevels", apart := false }
def AccessLevelsSaid : Prop := accessLevelsRow.holds Try.pinned (OpenSpec.ofChange accessLevelsSpec)

/-- ITS FALSE NEIGHBOUR: 'it returns false'. Refute it at one input. -/
def accessLevelsWrong : ChangeSpec := { name := "accessLevels", fn := fun _ => fun
  | [d1, d2] => { results := [.lit (.bool false)], args := [d1, d2] }
  | _ => none }
def AccessLevelsWrongFalsely : Prop := accessLevelsRow.holds Try.pinned (OpenSpec.ofChange accessLevelsWrong)

/-- 'librarylaw46.AccessMay': WHATEVER THE INPUT: true; the input reads as it did. -/
def accessMaySpec : ChangeSpec := { name := "accessMay", fn := fun _ => fun
  | [d1, d2, d3] => { results := [.lit (.bool true)], args := [d1, d2, d3] }
  | _ => none }
def accessMayRow : OpenClaim := { program := "ytgijjgnacgpdfaa", sum := "deb911caa60426af7347b4a5caae2832bdcebd11df41c393739957cf0b1dc3d5", func := "library/librarylaw46.AccessMay", spec := "accessMay", apart := false }
def AccessMaySaid : Prop := accessMayRow.holds Try.pinned (OpenSpec.ofChange accessMaySpec)

/-- ITS FALSE NEIGHBOUR: 'it returns false'. Refute it at one input. -/
def accessMayWrong : ChangeSpec := { name := "accessMay", fn := fun _ => fun
  | [d1, d2, d3] => { results := [.lit (.bool false)], args := [d1, d2, d3] }
  | _ => none }
def AccessMayWrongFalsely : Prop := accessMayRow.holds Try.pinned (OpenSpec.ofChange accessMayWrong)

/-- 'librarylaw46.AccessEmbargoes': WHATEVER THE INPUT: true; the input reads as it did. -/
def accessEmbargoesSpec : ChangeSpec := { name := "accessEmbargoes", fn := fun _ => fun
  | [d1, d2, d3] => { results := [.lit (.bool true)], args := [d1, d2, d3] }
  | _ => none }
def accessEmbargoesRow : OpenClaim := { program := "ytgijjgnacgpdfaa", sum := "deb911caa60426af7347b4a5caae2832bdcebd11df41c393739957cf0b1dc3d5", func := "library/librarylaw46.AccessEmbargoes", spec := "accessEmbargoes", apart := false }
def AccessEmbargoesSaid : Prop := accessEmbargoesRow.holds Try.pinned (OpenSpec.ofChange accessEmbargoesSpec)

/-- ITS FALSE NEIGHBOUR: 'it returns false'. Refute it at one input. -/
def accessEmbargoesWrong : ChangeSpec := { name := "accessEmbargoes", fn := fun _ => fun
  | [d1, d2, d3] => { results := [.lit (.bool false)], args := [d1, d2, d3] }
  | _ => none }
def AccessEmbargoesWrongFalsely : Prop := accessEmbargoesRow.holds Try.pinned (OpenSpec.ofChange accessEmbargoesWrong)

/-- 'librarylaw46.AccessOpens': WHATEVER THE INPUT: true; the input reads as it did. -/
def accessOpensSpec : ChangeSpec := { name := "accessOpens", fn := fun _ => fun
  | [d1, d2] => { results := [.lit (.bool true)], args := [d1, d2] }
  | _ => none }
def accessOpensRow : OpenClaim := { program := "ytgijjgnacgpdfaa", sum := "deb911caa60426af7347b4a5caae2832bdcebd11df41c393739957cf0b1dc3d5", func := "library/librarylaw46.AccessOpens", spec := "accessOpens", apart := false }
def AccessOpensSaid : Prop := accessOpensRow.holds Try.pinned (OpenSpec.ofChange accessOpensSpec)

/-- ITS FALSE NEIGHBOUR: 'it returns false'. Refute it at one input. -/
def accessOpensWrong : ChangeSpec := { name := "accessOpens", fn := fun _ => fun
  | [d1, d2] => { results := [.lit (.bool false)], args := [d1, d2] }
  | _ => none }
def AccessOpensWrongFalsely : Prop := accessOpensRow.holds Try.pinned (OpenSpec.ofChange accessOpensWrong)

/-- 'librarylaw46.AccessGrows': WHATEVER THE INPUT: true; the input reads as it did. -/
def accessGrowsSpec : ChangeSpec := { name := "accessGrows", fn := fun _ => fun
  | [d1, d2, d3] => { results := [.lit (.bool true)], args := [d1, d2, d3] }
  | _ => none }
def accessGrowsRow : OpenClaim := { program := "ytgijjgnacgpdfaa", sum := "deb911caa60426af7347b4a5caae2832bdcebd11df41c393739957cf0b1dc3d5", func := "library/librarylaw46.AccessGrows", spec := "accessGrows", apart := false }
def AccessGrowsSaid : Prop := accessGrowsRow.holds Try.pinned (OpenSpec.ofChange accessGrowsSpec)

/-- ITS FALSE NEIGHBOUR: 'it returns false'. Refute it at one input. -/
def accessGrowsWrong : ChangeSpec := { name := "accessGrows", fn := fun _ => fun
  | [d1, d2, d3] => { results := [.lit (.bool false)], args := [d1, d2, d3] }
  | _ => none }
def AccessGrowsWrongFalsely : Prop := accessGrowsRow.holds Try.pinned (OpenSpec.ofChange accessGrowsWrong)

/-- 'librarylaw46.AccessEnds': WHATEVER THE INPUT: true; the input reads as it did. -/
def accessEndsSpec : ChangeSpec := { name := "accessEnds", fn := fun _ => fun
  | [d1, d2, d3] => { results := [.lit (.bool true)], args := [d1, d2, d3] }
  | _ => none }
def accessEndsRow : OpenClaim := { program := "ytgijjgnacgpdfaa", sum := "deb911caa60426af7347b4a5caae2832bdcebd11df41c393739957cf0b1dc3d5", func := "library/librarylaw46.AccessEnds", spec := "accessEnds", apart := false }
def AccessEndsSaid : Prop := accessEndsRow.holds Try.pinned (OpenSpec.ofChange accessEndsSpec)

/-- ITS FALSE NEIGHBOUR: 'it returns false'. Refute it at one input. -/
def accessEndsWrong : ChangeSpec := { name := "accessEnds", fn := fun _ => fun
  | [d1, d2, d3] => { results := [.lit (.bool false)], args := [d1, d2, d3] }
  | _ => none }
def AccessEndsWrongFalsely : Prop := accessEndsRow.holds Try.pinned (OpenSpec.ofChange accessEndsWrong)

/- THE SECOND FORM. 'bulk': how many values and letters a reading holds, each counted each time it is reached (what is shared counts as often as it is met; a slice's spare places count too). A statement '..UptoSaid' is the law's where the arguments, and the package variables that the reading takes, are together of bulk at most 1048576: NARROWER than '..Said'. Prove '..Said' where nothing that the law and all that it calls make is longer than what came in: it says more and counts as full. Else prove '..UptoSaid'. A law counts once. -/
mutual
def uptoBulk {H : Type} : DataW H → Nat
  | .lit (.string bytes) => bytes.length + 1
  | .lit _ => 1
  | .nil => 1
  | .ptr d => uptoBulk d + 1
  | .slice elems spare => uptoBulkAll elems + uptoBulkAll spare + 1
  | .agg parts => uptoBulkAll parts + 1
  | .iface _ d => uptoBulk d + 1
  | .map entries => uptoBulkEntries entries + 1
  | .held _ => 1
def uptoBulkAll {H : Type} : List (DataW H) → Nat
  | [] => 0
  | d :: r => uptoBulk d + uptoBulkAll r
def uptoBulkEntries {H : Type} : List (Lit × DataW H) → Nat
  | [] => 0
  | x :: r => uptoBulkEntry x + uptoBulkEntries r
def uptoBulkEntry {H : Type} : Lit × DataW H → Nat
  | (.string bytes, d) => bytes.length + uptoBulk d + 1
  | (_, d) => uptoBulk d + 1
 end
def uptoSmall : (H : Type) → List (DataW H) → Bool := fun _ ds => decide (uptoBulkAll ds ≤ 1048576)
def OpenSpec.upto (s : _root_.Go.ChangeSpec) : _root_.Go.OpenSpec := { _root_.Go.OpenSpec.ofChange s with cond := some uptoSmall }

/-- 'librarylaw46.AccessRights', WHERE WHAT IT READS IS OF BULK AT MOST 1048576: true; the input reads as it did. -/
def accessRightsUptoRow : OpenClaim := { program := "ytgijjgnacgpdfaa", sum := "deb911caa60426af7347b4a5caae2832bdcebd11df41c393739957cf0b1dc3d5", func := "library/librarylaw46.AccessRights", spec := "accessRights", apart := false, narrowed := true }
def AccessRightsUptoSaid : Prop := accessRightsUptoRow.holds Try.pinned (OpenSpec.upto accessRightsSpec)

/-- 'librarylaw46.AccessLevels', WHERE WHAT IT READS IS OF BULK AT MOST 1048576: true; the input reads as it did. -/
def accessLevelsUptoRow : OpenClaim := { program := "ytgijjgnacgpdfaa", sum := "deb911caa60426af7347b4a5caae2832bdcebd11df41c393739957cf0b1dc3d5", func := "library/librarylaw46.AccessLevels", spec := "accessLevels", apart := false, narrowed := true }
def AccessLevelsUptoSaid : Prop := accessLevelsUptoRow.holds Try.pinned (OpenSpec.upto accessLevelsSpec)

/-- 'librarylaw46.AccessMay', WHERE WHAT IT READS IS OF BULK AT MOST 1048576: true; the input reads as it did. -/
def accessMayUptoRow : OpenClaim := { program := "ytgijjgnacgpdfaa", sum := "deb911caa60426af7347b4a5caae2832bdcebd11df41c393739957cf0b1dc3d5", func := "library/librarylaw46.AccessMay", spec := "accessMay", apart := false, narrowed := true }
def AccessMayUptoSaid : Prop := accessMayUptoRow.holds Try.pinned (OpenSpec.upto accessMaySpec)

/-- 'librarylaw46.AccessEmbargoes', WHERE WHAT IT READS IS OF BULK AT MOST 1048576: true; the input reads as it did. -/
def accessEmbargoesUptoRow : OpenClaim := { program := "ytgijjgnacgpdfaa", sum := "deb911caa60426af7347b4a5caae2832bdcebd11df41c393739957cf0b1dc3d5", func := "library/librarylaw46.AccessEmbargoes", spec := "accessEmbargoes", apart := false, narrowed := true }
def AccessEmbargoesUptoSaid : Prop := accessEmbargoesUptoRow.holds Try.pinned (OpenSpec.upto accessEmbargoesSpec)

/-- 'librarylaw46.AccessOpens', WHERE WHAT IT READS IS OF BULK AT MOST 1048576: true; the input reads as it did. -/
def accessOpensUptoRow : OpenClaim := { program := "ytgijjgnacgpdfaa", sum := "deb911caa60426af7347b4a5caae2832bdcebd11df41c393739957cf0b1dc3d5", func := "library/librarylaw46.AccessOpens", spec := "accessOpens", apart := false, narrowed := true }
def AccessOpensUptoSaid : Prop := accessOpensUptoRow.holds Try.pinned (OpenSpec.upto accessOpensSpec)

/-- 'librarylaw46.AccessGrows', WHERE WHAT IT READS IS OF BULK AT MOST 1048576: true; the input reads as it did. -/
def accessGrowsUptoRow : OpenClaim := { program := "ytgijjgnacgpdfaa", sum := "deb911caa60426af7347b4a5caae2832bdcebd11df41c393739957cf0b1dc3d5", func := "library/librarylaw46.AccessGrows", spec := "accessGrows", apart := false, narrowed := true }
def AccessGrowsUptoSaid : Prop := accessGrowsUptoRow.holds Try.pinned (OpenSpec.upto accessGrowsSpec)

/-- 'librarylaw46.AccessEnds', WHERE WHAT IT READS IS OF BULK AT MOST 1048576: true; the input reads as it did. -/
def accessEndsUptoRow : OpenClaim := { program := "ytgijjgnacgpdfaa", sum := "deb911caa60426af7347b4a5caae2832bdcebd11df41c393739957cf0b1dc3d5", func := "library/librarylaw46.AccessEnds", spec := "accessEnds", apart := false, narrowed := true }
def AccessEndsUptoSaid : Prop := accessEndsUptoRow.holds Try.pinned (OpenSpec.upto accessEndsSpec)

end Rows
end Go.Proofs.Ytgijjgnacgpdfaa
