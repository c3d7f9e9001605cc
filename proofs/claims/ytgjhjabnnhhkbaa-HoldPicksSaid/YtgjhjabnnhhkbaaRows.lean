/-
  No cell of these rows narrows 'for every input' (looked for: loops, veiled, ifaces, maps, wideKeys, modest, calm, conditions, laid).
  DERIVED. THE GIVEN ROWS OF THIS SEAT. 8 by the template 'for every input the law returns true; each argument reads behind the call as it read before'; 0 by the template 'total and deterministic' (their statements: YtgjhjabnnhhkbaaTotals.lean).
  GIVEN WITH THE SEED: the statements are not yours to turn. If you find one false, say at which input.
  Laid BY PROGRAM, IN A SANDBOX (cutbox-rows.mjs): the forced cells as the released guide's own fill.sh prints them over the translation c771cf18f5699dcd… (all of the seat's roots in one cut). By AI agents, Wed Nov 11 2026. No macro, syntax, notation, axiom, sorry.
-/
import Derived.Test.YtgjhjabnnhhkbaaChecked
import GoSem.Claim
import GoSem.ClaimJoined
import GoSem.ClaimMapViews
import Derived.JoinedTies
import Derived.KernelRfl
namespace Go.Proofs.Ytgjhjabnnhhkbaa
/- THE CELL 'sum', in the pinned program and in every row, IS THE sha256 OF THE DUMP (.gsa) THAT YtgjhjabnnhhkbaaProg.lean LOADS. Nothing in Lean hashes anything: it is a label: what it is worth is what the hold of that sum in a sandbox is worth. -/
noncomputable def Try.pinned : Pinned := { name := "ytgjhjabnnhhkbaa", sum := "c771cf18f5699dcd3a215e206f292fbc7a55ae95acd2451e5f218ab032caa99a", checked := Try.checked }
namespace Rows
def none {H : Type} : Left H := { results := [], args := [] }

/-- 'librarylaw32.HoldChecks': WHATEVER THE INPUT: true; the input reads as it did. -/
def holdChecksSpec : ChangeSpec := { name := "holdChecks", fn := fun _ => fun
  | [d] => { results := [.lit (.bool true)], args := [d] }
  | _ => none }
def holdChecksRow : OpenClaim := { program := "ytgjhjabnnhhkbaa", sum := "c771cf18f5699dcd3a215e206f292fbc7a55ae95acd2451e5f218ab032caa99a", func := "library/librarylaw32.HoldChecks", spec := "holdChecks", unfollowed := true, recurses := true, apart := false }
def HoldChecksSaid : Prop := holdChecksRow.holds Try.pinned (OpenSpec.ofChange holdChecksSpec)

/-- ITS FALSE NEIGHBOUR: 'it returns false'. Refute it at one input. -/
def holdChecksWrong : ChangeSpec := { name := "holdChecks", fn := fun _ => fun
  | [d] => { results := [.lit (.bool false)], args := [d] }
  | _ => none }
def HoldChecksWrongFalsely : Prop := holdChecksRow.holds Try.pinned (OpenSpec.ofChange holdChecksWrong)

/-- 'librarylaw32.HoldQueues': WHATEVER THE INPUT: true; the input reads as it did. -/
def holdQueuesSpec : ChangeSpec := { name := "holdQueues", fn := fun _ => fun
  | [d1, d2, d3, d4] => { results := [.lit (.bool true)], args := [d1, d2, d3, d4] }
  | _ => none }
def holdQueuesRow : OpenClaim := { program := "ytgjhjabnnhhkbaa", sum := "c771cf18f5699dcd3a215e206f292fbc7a55ae95acd2451e5f218ab032caa99a", func := "library/librarylaw32.HoldQueues", spec := "holdQueues", unfollowed := true, recurses := true, apart := false }
def HoldQueuesSaid : Prop := holdQueuesRow.holds Try.pinned (OpenSpec.ofChange holdQueuesSpec)

/-- ITS FALSE NEIGHBOUR: 'it returns false'. Refute it at one input. -/
def holdQueuesWrong : ChangeSpec := { name := "holdQueues", fn := fun _ => fun
  | [d1, d2, d3, d4] => { results := [.lit (.bool false)], args := [d1, d2, d3, d4] }
  | _ => none }
def HoldQueuesWrongFalsely : Prop := holdQueuesRow.holds Try.pinned (OpenSpec.ofChange holdQueuesWrong)

/-- 'librarylaw32.HoldPicks': WHATEVER THE INPUT: true; the input reads as it did. -/
def holdPicksSpec : ChangeSpec := { name := "holdPicks", fn := fun _ => fun
  | [d1, d2, d3, d4, d5] => { results := [.lit (.bool true)], args := [d1, d2, d3, d4, d5] }
  | _ => none }
def holdPicksRow : OpenClaim := { program := "ytgjhjabnnhhkbaa", sum := "c771cf18f5699dcd3a215e206f292fbc7a55ae95acd2451e5f218ab032caa99a", func := "library/librarylaw32.HoldPicks", spec := "holdPicks", unfollowed := true, recurses := true, apart := false }
def HoldPicksSaid : Prop := holdPicksRow.holds Try.pinned (OpenSpec.ofChange holdPicksSpec)

/-- ITS FALSE NEIGHBOUR: 'it returns false'. Refute it at one input. -/
def holdPicksWrong : ChangeSpec := { name := "holdPicks", fn := fun _ => fun
  | [d1, d2, d3, d4, d5] => { results := [.lit (.bool false)], args := [d1, d2, d3, d4, d5] }
  | _ => none }
def HoldPicksWrongFalsely : Prop := holdPicksRow.holds Try.pinned (OpenSpec.ofChange holdPicksWrong)

/-- 'librarylaw32.HoldCatches': WHATEVER THE INPUT: true; the input reads as it did. -/
def holdCatchesSpec : ChangeSpec := { name := "holdCatches", fn := fun _ => fun
  | [d1, d2, d3, d4, d5] => { results := [.lit (.bool true)], args := [d1, d2, d3, d4, d5] }
  | _ => none }
def holdCatchesRow : OpenClaim := { program := "ytgjhjabnnhhkbaa", sum := "c771cf18f5699dcd3a215e206f292fbc7a55ae95acd2451e5f218ab032caa99a", func := "library/librarylaw32.HoldCatches", spec := "holdCatches", unfollowed := true, recurses := true, apart := false }
def HoldCatchesSaid : Prop := holdCatchesRow.holds Try.pinned (OpenSpec.ofChange holdCatchesSpec)

/-- ITS FALSE NEIGHBOUR: 'it returns false'. Refute it at one input. -/
def holdCatchesWrong : ChangeSpec := { name := "holdCatches", fn := fun _ => fun
  | [d1, d2, d3, d4, d5] => { results := [.lit (.bool false)], args := [d1, d2, d3, d4, d5] }
  | _ => none }
def HoldCatchesWrongFalsely : Prop := holdCatchesRow.holds Try.pinned (OpenSpec.ofChange holdCatchesWrong)

/-- 'librarylaw32.HoldSleeps': WHATEVER THE INPUT: true; the input reads as it did. -/
def holdSleepsSpec : ChangeSpec := { name := "holdSleeps", fn := fun _ => fun
  | [d1, d2, d3] => { results := [.lit (.bool true)], args := [d1, d2, d3] }
  | _ => none }
def holdSleepsRow : OpenClaim := { program := "ytgjhjabnnhhkbaa", sum := "c771cf18f5699dcd3a215e206f292fbc7a55ae95acd2451e5f218ab032caa99a", func := "library/librarylaw32.HoldSleeps", spec := "holdSleeps", unfollowed := true, recurses := true, apart := false }
def HoldSleepsSaid : Prop := holdSleepsRow.holds Try.pinned (OpenSpec.ofChange holdSleepsSpec)

/-- ITS FALSE NEIGHBOUR: 'it returns false'. Refute it at one input. -/
def holdSleepsWrong : ChangeSpec := { name := "holdSleeps", fn := fun _ => fun
  | [d1, d2, d3] => { results := [.lit (.bool false)], args := [d1, d2, d3] }
  | _ => none }
def HoldSleepsWrongFalsely : Prop := holdSleepsRow.holds Try.pinned (OpenSpec.ofChange holdSleepsWrong)

/-- 'librarylaw32.HoldFirst': WHATEVER THE INPUT: true; the input reads as it did. -/
def holdFirstSpec : ChangeSpec := { name := "holdFirst", fn := fun _ => fun
  | [d1, d2, d3, d4, d5] => { results := [.lit (.bool true)], args := [d1, d2, d3, d4, d5] }
  | _ => none }
def holdFirstRow : OpenClaim := { program := "ytgjhjabnnhhkbaa", sum := "c771cf18f5699dcd3a215e206f292fbc7a55ae95acd2451e5f218ab032caa99a", func := "library/librarylaw32.HoldFirst", spec := "holdFirst", unfollowed := true, recurses := true, apart := false }
def HoldFirstSaid : Prop := holdFirstRow.holds Try.pinned (OpenSpec.ofChange holdFirstSpec)

/-- ITS FALSE NEIGHBOUR: 'it returns false'. Refute it at one input. -/
def holdFirstWrong : ChangeSpec := { name := "holdFirst", fn := fun _ => fun
  | [d1, d2, d3, d4, d5] => { results := [.lit (.bool false)], args := [d1, d2, d3, d4, d5] }
  | _ => none }
def HoldFirstWrongFalsely : Prop := holdFirstRow.holds Try.pinned (OpenSpec.ofChange holdFirstWrong)

/-- 'librarylaw32.HoldPlaces': WHATEVER THE INPUT: true; the input reads as it did. -/
def holdPlacesSpec : ChangeSpec := { name := "holdPlaces", fn := fun _ => fun
  | [d1, d2, d3] => { results := [.lit (.bool true)], args := [d1, d2, d3] }
  | _ => none }
def holdPlacesRow : OpenClaim := { program := "ytgjhjabnnhhkbaa", sum := "c771cf18f5699dcd3a215e206f292fbc7a55ae95acd2451e5f218ab032caa99a", func := "library/librarylaw32.HoldPlaces", spec := "holdPlaces", unfollowed := true, recurses := true, apart := false }
def HoldPlacesSaid : Prop := holdPlacesRow.holds Try.pinned (OpenSpec.ofChange holdPlacesSpec)

/-- ITS FALSE NEIGHBOUR: 'it returns false'. Refute it at one input. -/
def holdPlacesWrong : ChangeSpec := { name := "holdPlaces", fn := fun _ => fun
  | [d1, d2, d3] => { results := [.lit (.bool false)], args := [d1, d2, d3] }
  | _ => none }
def HoldPlacesWrongFalsely : Prop := holdPlacesRow.holds Try.pinned (OpenSpec.ofChange holdPlacesWrong)

/-- 'librarylaw32.HoldKeeps': WHATEVER THE INPUT: true; the input reads as it did. -/
def holdKeepsSpec : ChangeSpec := { name := "holdKeeps", fn := fun _ => fun
  | [d1, d2, d3, d4, d5] => { results := [.lit (.bool true)], args := [d1, d2, d3, d4, d5] }
  | _ => none }
def holdKeepsRow : OpenClaim := { program := "ytgjhjabnnhhkbaa", sum := "c771cf18f5699dcd3a215e206f292fbc7a55ae95acd2451e5f218ab032caa99a", func := "library/librarylaw32.HoldKeeps", spec := "holdKeeps", unfollowed := true, recurses := true, apart := false }
def HoldKeepsSaid : Prop := holdKeepsRow.holds Try.pinned (OpenSpec.ofChange holdKeepsSpec)

/-- ITS FALSE NEIGHBOUR: 'it returns false'. Refute it at one input. -/
def holdKeepsWrong : ChangeSpec := { name := "holdKeeps", fn := fun _ => fun
  | [d1, d2, d3, d4, d5] => { results := [.lit (.bool false)], args := [d1, d2, d3, d4, d5] }
  | _ => none }
def HoldKeepsWrongFalsely : Prop := holdKeepsRow.holds Try.pinned (OpenSpec.ofChange holdKeepsWrong)

/- THE SECOND FORM. 'bulk': how many values and letters a reading holds, each counted each time it is reached (what is shared counts as often as it is met; a slice's spare places count too). A statement '..UptoSaid' is the law's where the arguments, and the package variables that the reading takes, are together of bulk at most 1048576: NARROWER than '..Said'. Prove '..Said' where nothing that the law and all that it calls make is longer than what came in: it says more and counts as full. Else prove '..UptoSaid'. A law counts once. -/
mutual
def uptoBulk {H : Type} : DataW H → Nat
  | .lit (.string bytes) => bytes.length + 1
  | .lit _ => 1
  | .nil => 1
  | .ptr d => uptoBulk d + 1
  | .slice elems spare => uptoBulkAll elems + uptoBulkAll spare + 1
  | .agg parts => uptoBulkAll parts + 1
  | .iface _ d => uptoBulk d + 1
  | .map entries => uptoBulkEntries entries + 1
  | .held _ => 1
def uptoBulkAll {H : Type} : List (DataW H) → Nat
  | [] => 0
  | d :: r => uptoBulk d + uptoBulkAll r
def uptoBulkEntries {H : Type} : List (Lit × DataW H) → Nat
  | [] => 0
  | x :: r => uptoBulkEntry x + uptoBulkEntries r
def uptoBulkEntry {H : Type} : Lit × DataW H → Nat
  | (.string bytes, d) => bytes.length + uptoBulk d + 1
  | (_, d) => uptoBulk d + 1
 end
def uptoSmall : (H : Type) → List (DataW H) → Bool := fun _ ds => decide (uptoBulkAll ds ≤ 1048576)
def OpenSpec.upto (s : _root_.Go.ChangeSpec) : _root_.Go.OpenSpec := { _root_.Go.OpenSpec.ofChange s with cond := some uptoSmall }

/-- 'librarylaw32.HoldChecks', WHERE WHAT IT READS IS OF BULK AT MOST 1048576: true; the input reads as it did. -/
def holdChecksUptoRow : OpenClaim := { program := "ytgjhjabnnhhkbaa", sum := "c771cf18f5699dcd3a215e206f292fbc7a55ae95acd2451e5f218ab032caa99a", func := "library/librarylaw32.HoldChecks", spec := "holdChecks", unfollowed := true, recurses := true, apart := false, narrowed := true }
def HoldChecksUptoSaid : Prop := holdChecksUptoRow.holds Try.pinned (OpenSpec.upto holdChecksSpec)

/-- 'librarylaw32.HoldQueues', WHERE WHAT IT READS IS OF BULK AT MOST 1048576: true; the input reads as it did. -/
def holdQueuesUptoRow : OpenClaim := { program := "ytgjhjabnnhhkbaa", sum := "c771cf18f5699dcd3a215e206f292fbc7a55ae95acd2451e5f218ab032caa99a", func := "library/librarylaw32.HoldQueues", spec := "holdQueues", unfollowed := true, recurses := true, apart := false, narrowed := true }
def HoldQueuesUptoSaid : Prop := holdQueuesUptoRow.holds Try.pinned (OpenSpec.upto holdQueuesSpec)

/-- 'librarylaw32.HoldPicks', WHERE WHAT IT READS IS OF BULK AT MOST 1048576: true; the input reads as it did. -/
def holdPicksUptoRow : OpenClaim := { program := "ytgjhjabnnhhkbaa", sum := "c771cf18f5699dcd3a215e206f292fbc7a55ae95acd2451e5f218ab032caa99a", func := "library/librarylaw32.HoldPicks", spec := "holdPicks", unfollowed := true, recurses := true, apart := false, narrowed := true }
def HoldPicksUptoSaid : Prop := holdPicksUptoRow.holds Try.pinned (OpenSpec.upto holdPicksSpec)

/-- 'librarylaw32.HoldCatches', WHERE WHAT IT READS IS OF BULK AT MOST 1048576: true; the input reads as it did. -/
def holdCatchesUptoRow : OpenClaim := { program := "ytgjhjabnnhhkbaa", sum := "c771cf18f5699dcd3a215e206f292fbc7a55ae95acd2451e5f218ab032caa99a", func := "library/librarylaw32.HoldCatches", spec := "holdCatches", unfollowed := true, recurses := true, apart := false, narrowed := true }
def HoldCatchesUptoSaid : Prop := holdCatchesUptoRow.holds Try.pinned (OpenSpec.upto holdCatchesSpec)

/-- 'librarylaw32.HoldSleeps', WHERE WHAT IT READS IS OF BULK AT MOST 1048576: true; the input reads as it did. -/
def holdSleepsUptoRow : OpenClaim := { program := "ytgjhjabnnhhkbaa", sum := "c771cf18f5699dcd3a215e206f292fbc7a55ae95acd2451e5f218ab032caa99a", func := "library/librarylaw32.HoldSleeps", spec := "holdSleeps", unfollowed := true, recurses := true, apart := false, narrowed := true }
def HoldSleepsUptoSaid : Prop := holdSleepsUptoRow.holds Try.pinned (OpenSpec.upto holdSleepsSpec)

/-- 'librarylaw32.HoldFirst', WHERE WHAT IT READS IS OF BULK AT MOST 1048576: true; the input reads as it did. -/
def holdFirstUptoRow : OpenClaim := { program := "ytgjhjabnnhhkbaa", sum := "c771cf18f5699dcd3a215e206f292fbc7a55ae95acd2451e5f218ab032caa99a", func := "library/librarylaw32.HoldFirst", spec := "holdFirst", unfollowed := true, recurses := true, apart := false, narrowed := true }
def HoldFirstUptoSaid : Prop := holdFirstUptoRow.holds Try.pinned (OpenSpec.upto holdFirstSpec)

/-- 'librarylaw32.HoldPlaces', WHERE WHAT IT READS IS OF BULK AT MOST 1048576: true; the input reads as it did. -/
def holdPlacesUptoRow : OpenClaim := { program := "ytgjhjabnnhhkbaa", sum := "c771cf18f5699dcd3a215e206f292fbc7a55ae95acd2451e5f218ab032caa99a", func := "library/librarylaw32.HoldPlaces", spec := "holdPlaces", unfollowed := true, recurses := true, apart := false, narrowed := true }
def HoldPlacesUptoSaid : Prop := holdPlacesUptoRow.holds Try.pinned (OpenSpec.upto holdPlacesSpec)

/-- 'librarylaw32.HoldKeeps', WHERE WHAT IT READS IS OF BULK AT MOST 1048576: true; the input reads as it did. -/
def holdKeepsUptoRow : OpenClaim := { program := "ytgjhjabnnhhkbaa", sum := "c771cf18f5699dcd3a215e206f292fbc7a55ae95acd2451e5f218ab032caa99a", func := "library/librarylaw32.HoldKeeps", spec := "holdKeeps", unfollowed := true, recurses := true, apart := false, narrowed := true }
def HoldKeepsUptoSaid : Prop := holdKeepsUptoRow.holds Try.pinned (OpenSpec.upto holdKeepsSpec)

end Rows
end Go.Proofs.Ytgjhjabnnhhkbaa
