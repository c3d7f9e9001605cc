/-
  No cell of these rows narrows 'for every input' (looked for: loops, veiled, ifaces, maps, wideKeys, modest, calm, conditions, laid).
  DERIVED. THE GIVEN ROWS OF THIS SEAT. 8 by the template 'for every input the law returns true; each argument reads behind the call as it read before'; 0 by the template 'total and deterministic' (their statements: YtbhndfphegflhaaGreatTotals.lean).
  GIVEN WITH THE SEED: the statements are not yours to turn. If you find one false, say at which input.
  Laid BY PROGRAM, IN A SANDBOX (cutbox-rows.mjs): the forced cells as the released guide's own fill.sh prints them over the translation 080189d51f241923… (all of the seat's roots in one cut). By AI agents, Wed Nov 11 2026. No macro, syntax, notation, axiom, sorry.
-/
import Derived.Test.YtbhndfphegflhaaGreatChecked
import GoSem.Claim
import GoSem.ClaimJoined
import GoSem.ClaimMapViews
import Derived.JoinedTies
import Derived.KernelRfl
namespace Go.Proofs.YtbhndfphegflhaaGreat
/- THE CELL 'sum', in the pinned program and in every row, IS THE sha256 OF THE DUMP (.gsa) THAT YtbhndfphegflhaaGreatProg.lean LOADS. Nothing in Lean hashes anything: it is a label: what it is worth is what the hold of that sum in a sandbox is worth. -/
noncomputable def Tryz.pinned : Pinned := { name := "ytbhndfphegflhaagreat", sum := "080189d51f241923e0d9a8a0f5eced0a4a98040107b32eb54f80321012fb0e5b", checked := Tryz.checked }
namespace Rows
def none {H : Type} : Left H := { results := [], args := [] }

/-- 'librarylaw40.AcquireRights': WHATEVER THE INPUT: true; the input reads as it did. -/
def acquireRightsSpec : ChangeSpec := { name := "acquireRights", fn := fun _ => fun
  | [d1, d2] => { results := [.lit (.bool true)], args := [d1, d2] }
  | _ => none }
def acquireRightsRow : OpenClaim := { program := "ytbhndfphegflhaagreat", sum := "080189d51f241923e0d9a8a0f5eced0a4a98040107b32eb54f80321012fb0e5b", func := "library/librarylaw40.AcquireRights", spec := "acquireRights", inPlace := ["slices.overlaps[library/api.Fund]"], unfollowed := true, recurses := true, apart := false }
def AcquireRightsSaid : Prop := acquireRightsRow.holds Tryz.pinned (OpenSpec.ofChange acquireRightsSpec)

/-- ITS FALSE NEIGHBOUR: 'it returns false'. Refute it at one input. -/
def acquireRightsWrong : ChangeSpec := { name := "acquireRights", fn := fun _ => fun
  | [d1, d2] => { results := [.lit (.bool false)], args := [d1, d2] }
  | _ => none }
def AcquireRightsWrongFalsely : Prop := acquireRightsRow.holds Tryz.pinned (OpenSpec.ofChange acquireRightsWrong)

/-- 'librarylaw40.AcquireOrders': WHATEVER THE INPUT: true; the input reads as it did. -/
def acquireOrdersSpec : ChangeSpec := { name := "acquireOrders", fn := fun _ => fun
  | [d1, d2, d3, d4] => { results := [.lit (.bool true)], args := [d1, d2, d3, d4] }
  | _ => none }
def acquireOrdersRow : OpenClaim := { program := "ytbhndfphegflhaagreat", sum := "080189d51f241923e0d9a8a0f5eced0a4a98040107b32eb54f80321012fb0e5b", func := "library/librarylaw40.AcquireOrders", spec := "acquireOrders", inPlace := ["slices.overlaps[library/api.Fund]"], unfollowed := true, recurses := true, apart := false }
def AcquireOrdersSaid : Prop := acquireOrdersRow.holds Tryz.pinned (OpenSpec.ofChange acquireOrdersSpec)

/-- ITS FALSE NEIGHBOUR: 'it returns false'. Refute it at one input. -/
def acquireOrdersWrong : ChangeSpec := { name := "acquireOrders", fn := fun _ => fun
  | [d1, d2, d3, d4] => { results := [.lit (.bool false)], args := [d1, d2, d3, d4] }
  | _ => none }
def AcquireOrdersWrongFalsely : Prop := acquireOrdersRow.holds Tryz.pinned (OpenSpec.ofChange acquireOrdersWrong)

/-- 'librarylaw40.AcquireBills': WHATEVER THE INPUT: true; the input reads as it did. -/
def acquireBillsSpec : ChangeSpec := { name := "acquireBills", fn := fun _ => fun
  | [d1, d2, d3] => { results := [.lit (.bool true)], args := [d1, d2, d3] }
  | _ => none }
def acquireBillsRow : OpenClaim := { program := "ytbhndfphegflhaagreat", sum := "080189d51f241923e0d9a8a0f5eced0a4a98040107b32eb54f80321012fb0e5b", func := "library/librarylaw40.AcquireBills", spec := "acquireBills", inPlace := ["slices.overlaps[library/api.Fund]"], unfollowed := true, recurses := true, apart := false }
def AcquireBillsSaid : Prop := acquireBillsRow.holds Tryz.pinned (OpenSpec.ofChange acquireBillsSpec)

/-- ITS FALSE NEIGHBOUR: 'it returns false'. Refute it at one input. -/
def acquireBillsWrong : ChangeSpec := { name := "acquireBills", fn := fun _ => fun
  | [d1, d2, d3] => { results := [.lit (.bool false)], args := [d1, d2, d3] }
  | _ => none }
def AcquireBillsWrongFalsely : Prop := acquireBillsRow.holds Tryz.pinned (OpenSpec.ofChange acquireBillsWrong)

/-- 'librarylaw40.AcquireBalances': WHATEVER THE INPUT: true; the input reads as it did. -/
def acquireBalancesSpec : ChangeSpec := { name := "acquireBalances", fn := fun _ => fun
  | [d1, d2, d3] => { results := [.lit (.bool true)], args := [d1, d2, d3] }
  | _ => none }
def acquireBalancesRow : OpenClaim := { program := "ytbhndfphegflhaagreat", sum := "080189d51f241923e0d9a8a0f5eced0a4a98040107b32eb54f80321012fb0e5b", func := "library/librarylaw40.AcquireBalances", spec := "acquireBalances", inPlace := ["slices.overlaps[library/api.Fund]"], unfollowed := true, recurses := true, apart := false }
def AcquireBalancesSaid : Prop := acquireBalancesRow.holds Tryz.pinned (OpenSpec.ofChange acquireBalancesSpec)

/-- ITS FALSE NEIGHBOUR: 'it returns false'. Refute it at one input. -/
def acquireBalancesWrong : ChangeSpec := { name := "acquireBalances", fn := fun _ => fun
  | [d1, d2, d3] => { results := [.lit (.bool false)], args := [d1, d2, d3] }
  | _ => none }
def AcquireBalancesWrongFalsely : Prop := acquireBalancesRow.holds Tryz.pinned (OpenSpec.ofChange acquireBalancesWrong)

/-- 'librarylaw40.AcquireCloses': WHATEVER THE INPUT: true; the input reads as it did. -/
def acquireClosesSpec : ChangeSpec := { name := "acquireCloses", fn := fun _ => fun
  | [d] => { results := [.lit (.bool true)], args := [d] }
  | _ => none }
def acquireClosesRow : OpenClaim := { program := "ytbhndfphegflhaagreat", sum := "080189d51f241923e0d9a8a0f5eced0a4a98040107b32eb54f80321012fb0e5b", func := "library/librarylaw40.AcquireCloses", spec := "acquireCloses", inPlace := ["slices.overlaps[library/api.Fund]"], unfollowed := true, recurses := true, apart := false }
def AcquireClosesSaid : Prop := acquireClosesRow.holds Tryz.pinned (OpenSpec.ofChange acquireClosesSpec)

/-- ITS FALSE NEIGHBOUR: 'it returns false'. Refute it at one input. -/
def acquireClosesWrong : ChangeSpec := { name := "acquireCloses", fn := fun _ => fun
  | [d] => { results := [.lit (.bool false)], args := [d] }
  | _ => none }
def AcquireClosesWrongFalsely : Prop := acquireClosesRow.holds Tryz.pinned (OpenSpec.ofChange acquireClosesWrong)

/-- 'librarylaw40.AcquireFunds': WHATEVER THE INPUT: true; the input reads as it did. -/
def acquireFundsSpec : ChangeSpec := { name := "acquireFunds", fn := fun _ => fun
  | [d1, d2, d3, d4] => { results := [.lit (.bool true)], args := [d1, d2, d3, d4] }
  | _ => none }
def acquireFundsRow : OpenClaim := { program := "ytbhndfphegflhaagreat", sum := "080189d51f241923e0d9a8a0f5eced0a4a98040107b32eb54f80321012fb0e5b", func := "library/librarylaw40.AcquireFunds", spec := "acquireFunds", inPlace := ["slices.overlaps[library/api.Fund]"], unfollowed := true, recurses := true, apart := false }
def AcquireFundsSaid : Prop := acquireFundsRow.holds Tryz.pinned (OpenSpec.ofChange acquireFundsSpec)

/-- ITS FALSE NEIGHBOUR: 'it returns false'. Refute it at one input. -/
def acquireFundsWrong : ChangeSpec := { name := "acquireFunds", fn := fun _ => fun
  | [d1, d2, d3, d4] => { results := [.lit (.bool false)], args := [d1, d2, d3, d4] }
  | _ => none }
def AcquireFundsWrongFalsely : Prop := acquireFundsRow.holds Tryz.pinned (OpenSpec.ofChange acquireFundsWrong)

/-- 'librarylaw40.AcquireKeeps': WHATEVER THE INPUT: true; the input reads as it did. -/
def acquireKeepsSpec : ChangeSpec := { name := "acquireKeeps", fn := fun _ => fun
  | [d1, d2] => { results := [.lit (.bool true)], args := [d1, d2] }
  | _ => none }
def acquireKeepsRow : OpenClaim := { program := "ytbhndfphegflhaagreat", sum := "080189d51f241923e0d9a8a0f5eced0a4a98040107b32eb54f80321012fb0e5b", func := "library/librarylaw40.AcquireKeeps", spec := "acquireKeeps", inPlace := ["slices.overlaps[library/api.Fund]"], unfollowed := true, recurses := true, apart := false }
def AcquireKeepsSaid : Prop := acquireKeepsRow.holds Tryz.pinned (OpenSpec.ofChange acquireKeepsSpec)

/-- ITS FALSE NEIGHBOUR: 'it returns false'. Refute it at one input. -/
def acquireKeepsWrong : ChangeSpec := { name := "acquireKeeps", fn := fun _ => fun
  | [d1, d2] => { results := [.lit (.bool false)], args := [d1, d2] }
  | _ => none }
def AcquireKeepsWrongFalsely : Prop := acquireKeepsRow.holds Tryz.pinned (OpenSpec.ofChange acquireKeepsWrong)

/-- 'librarylaw40.AcquireSerials': WHATEVER THE INPUT: true; the input reads as it did. -/
def acquireSerialsSpec : ChangeSpec := { name := "acquireSerials", fn := fun _ => fun
  | [d1, d2] => { results := [.lit (.bool true)], args := [d1, d2] }
  | _ => none }
def acquireSerialsRow : OpenClaim := { program := "ytbhndfphegflhaagreat", sum := "080189d51f241923e0d9a8a0f5eced0a4a98040107b32eb54f80321012fb0e5b", func := "library/librarylaw40.AcquireSerials", spec := "acquireSerials", inPlace := ["slices.overlaps[library/api.Fund]", "slices.overlaps[library/api.Serial]"], unfollowed := true, recurses := true, apart := false }
def AcquireSerialsSaid : Prop := acquireSerialsRow.holds Tryz.pinned (OpenSpec.ofChange acquireSerialsSpec)

/-- ITS FALSE NEIGHBOUR: 'it returns false'. Refute it at one input. -/
def acquireSerialsWrong : ChangeSpec := { name := "acquireSerials", fn := fun _ => fun
  | [d1, d2] => { results := [.lit (.bool false)], args := [d1, d2] }
  | _ => none }
def AcquireSerialsWrongFalsely : Prop := acquireSerialsRow.holds Tryz.pinned (OpenSpec.ofChange acquireSerialsWrong)

/- THE SECOND FORM. 'bulk': how many values and letters a reading holds, each counted each time it is reached (what is shared counts as often as it is met; a slice's spare places count too). A statement '..UptoSaid' is the law's where the arguments, and the package variables that the reading takes, are together of bulk at most 1048576: NARROWER than '..Said'. Prove '..Said' where nothing that the law and all that it calls make is longer than what came in: it says more and counts as full. Else prove '..UptoSaid'. A law counts once. -/
mutual
def uptoBulk {H : Type} : DataW H → Nat
  | .lit (.string bytes) => bytes.length + 1
  | .lit _ => 1
  | .nil => 1
  | .ptr d => uptoBulk d + 1
  | .slice elems spare => uptoBulkAll elems + uptoBulkAll spare + 1
  | .agg parts => uptoBulkAll parts + 1
  | .iface _ d => uptoBulk d + 1
  | .map entries => uptoBulkEntries entries + 1
  | .held _ => 1
def uptoBulkAll {H : Type} : List (DataW H) → Nat
  | [] => 0
  | d :: r => uptoBulk d + uptoBulkAll r
def uptoBulkEntries {H : Type} : List (Lit × DataW H) → Nat
  | [] => 0
  | x :: r => uptoBulkEntry x + uptoBulkEntries r
def uptoBulkEntry {H : Type} : Lit × DataW H → Nat
  | (.string bytes, d) => bytes.length + uptoBulk d + 1
  | (_, d) => uptoBulk d + 1
 end
def uptoSmall : (H : Type) → List (DataW H) → Bool := fun _ ds => decide (uptoBulkAll ds ≤ 1048576)
def OpenSpec.upto (s : _root_.Go.ChangeSpec) : _root_.Go.OpenSpec := { _root_.Go.OpenSpec.ofChange s with cond := some uptoSmall }

/-- 'librarylaw40.AcquireRights', WHERE WHAT IT READS IS OF BULK AT MOST 1048576: true; the input reads as it did. -/
def acquireRightsUptoRow : OpenClaim := { program := "ytbhndfphegflhaagreat", sum := "080189d51f241923e0d9a8a0f5eced0a4a98040107b32eb54f80321012fb0e5b", func := "library/librarylaw40.AcquireRights", spec := "acquireRights", inPlace := ["slices.overlaps[library/api.Fund]"], unfollowed := true, recurses := true, apart := false, narrowed := true }
def AcquireRightsUptoSaid : Prop := acquireRightsUptoRow.holds Tryz.pinned (OpenSpec.upto acquireRightsSpec)

/-- 'librarylaw40.AcquireOrders', WHERE WHAT IT READS IS OF BULK AT MOST 1048576: true; the input reads as it did. -/
def acquireOrdersUptoRow : OpenClaim := { program := "ytbhndfphegflhaagreat", sum := "080189d51f241923e0d9a8a0f5eced0a4a98040107b32eb54f80321012fb0e5b", func := "library/librarylaw40.AcquireOrders", spec := "acquireOrders", inPlace := ["slices.overlaps[library/api.Fund]"], unfollowed := true, recurses := true, apart := false, narrowed := true }
def AcquireOrdersUptoSaid : Prop := acquireOrdersUptoRow.holds Tryz.pinned (OpenSpec.upto acquireOrdersSpec)

/-- 'librarylaw40.AcquireBills', WHERE WHAT IT READS IS OF BULK AT MOST 1048576: true; the input reads as it did. -/
def acquireBillsUptoRow : OpenClaim := { program := "ytbhndfphegflhaagreat", sum := "080189d51f241923e0d9a8a0f5eced0a4a98040107b32eb54f80321012fb0e5b", func := "library/librarylaw40.AcquireBills", spec := "acquireBills", inPlace := ["slices.overlaps[library/api.Fund]"], unfollowed := true, recurses := true, apart := false, narrowed := true }
def AcquireBillsUptoSaid : Prop := acquireBillsUptoRow.holds Tryz.pinned (OpenSpec.upto acquireBillsSpec)

/-- 'librarylaw40.AcquireBalances', WHERE WHAT IT READS IS OF BULK AT MOST 1048576: true; the input reads as it did. -/
def acquireBalancesUptoRow : OpenClaim := { program := "ytbhndfphegflhaagreat", sum := "080189d51f241923e0d9a8a0f5eced0a4a98040107b32eb54f80321012fb0e5b", func := "library/librarylaw40.AcquireBalances", spec := "acquireBalances", inPlace := ["slices.overlaps[library/api.Fund]"], unfollowed := true, recurses := true, apart := false, narrowed := true }
def AcquireBalancesUptoSaid : Prop := acquireBalancesUptoRow.holds Tryz.pinned (OpenSpec.upto acquireBalancesSpec)

/-- 'librarylaw40.AcquireCloses', WHERE WHAT IT READS IS OF BULK AT MOST 1048576: true; the input reads as it did. -/
def acquireClosesUptoRow : OpenClaim := { program := "ytbhndfphegflhaagreat", sum := "080189d51f241923e0d9a8a0f5eced0a4a98040107b32eb54f80321012fb0e5b", func := "library/librarylaw40.AcquireCloses", spec := "acquireCloses", inPlace := ["slices.overlaps[library/api.Fund]"], unfollowed := true, recurses := true, apart := false, narrowed := true }
def AcquireClosesUptoSaid : Prop := acquireClosesUptoRow.holds Tryz.pinned (OpenSpec.upto acquireClosesSpec)

/-- 'librarylaw40.AcquireFunds', WHERE WHAT IT READS IS OF BULK AT MOST 1048576: true; the input reads as it did. -/
def acquireFundsUptoRow : OpenClaim := { program := "ytbhndfphegflhaagreat", sum := "080189d51f241923e0d9a8a0f5eced0a4a98040107b32eb54f80321012fb0e5b", func := "library/librarylaw40.AcquireFunds", spec := "acquireFunds", inPlace := ["slices.overlaps[library/api.Fund]"], unfollowed := true, recurses := true, apart := false, narrowed := true }
def AcquireFundsUptoSaid : Prop := acquireFundsUptoRow.holds Tryz.pinned (OpenSpec.upto acquireFundsSpec)

/-- 'librarylaw40.AcquireKeeps', WHERE WHAT IT READS IS OF BULK AT MOST 1048576: true; the input reads as it did. -/
def acquireKeepsUptoRow : OpenClaim := { program := "ytbhndfphegflhaagreat", sum := "080189d51f241923e0d9a8a0f5eced0a4a98040107b32eb54f80321012fb0e5b", func := "library/librarylaw40.AcquireKeeps", spec := "acquireKeeps", inPlace := ["slices.overlaps[library/api.Fund]"], unfollowed := true, recurses := true, apart := false, narrowed := true }
def AcquireKeepsUptoSaid : Prop := acquireKeepsUptoRow.holds Tryz.pinned (OpenSpec.upto acquireKeepsSpec)

/-- 'librarylaw40.AcquireSerials', WHERE WHAT IT READS IS OF BULK AT MOST 1048576: true; the input reads as it did. -/
def acquireSerialsUptoRow : OpenClaim := { program := "ytbhndfphegflhaagreat", sum := "080189d51f241923e0d9a8a0f5eced0a4a98040107b32eb54f80321012fb0e5b", func := "library/librarylaw40.AcquireSerials", spec := "acquireSerials", inPlace := ["slices.overlaps[library/api.Fund]", "slices.overlaps[library/api.Serial]"], unfollowed := true, recurses := true, apart := false, narrowed := true }
def AcquireSerialsUptoSaid : Prop := acquireSerialsUptoRow.holds Tryz.pinned (OpenSpec.upto acquireSerialsSpec)

end Rows
end Go.Proofs.YtbhndfphegflhaaGreat
