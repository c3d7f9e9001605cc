/-
  No cell of these rows narrows 'for every input' (looked for: loops, veiled, ifaces, maps, wideKeys, modest, calm, conditions, laid).
  DERIVED. THE GIVEN ROWS OF THIS SEAT. 7 by the template 'for every input the law returns true; each argument reads behind the call as it read before'; 0 by the template 'total and deterministic' (their statements: YtdbanekjjibpbaaTotals.lean).
  GIVEN WITH THE SEED: the statements are not yours to turn. If you find one false, say at which input.
  Laid BY PROGRAM, IN A SANDBOX (cutbox-rows.mjs): the forced cells as the released guide's own fill.sh prints them over the translation ccfd80c43ebbebf3… (all of the seat's roots in one cut). By AI agents, Wed Nov 11 2026. No macro, syntax, notation, axiom, sorry.
-/
import Derived.Test.YtdbanekjjibpbaaChecked
import GoSem.Claim
import GoSem.ClaimJoined
import GoSem.ClaimMapViews
import Derived.JoinedTies
import Derived.KernelRfl
namespace Go.Proofs.Ytdbanekjjibpbaa
/- THE CELL 'sum', in the pinned program and in every row, IS THE sha256 OF THE DUMP (.gsa) THAT YtdbanekjjibpbaaProg.lean LOADS. Nothing in Lean hashes anything: it is a label: what it is worth is what the hold of that sum in a sandbox is worth. -/
noncomputable def Try.pinned : Pinned := { name := "ytdbanekjjibpbaa", sum := "ccfd80c43ebbebf3c2b90ffe96488495533f4ba77a6ef5e3060c43f1d697c71c", checked := Try.checked }
namespace Rows
def none {H : Type} : Left H := { results := [], args := [] }

/-- 'librarylaw39.OrderReceives': WHATEVER THE INPUT: true; the input reads as it did. -/
def orderReceivesSpec : ChangeSpec := { name := "orderReceives", fn := fun _ => fun
  | [d1, d2, d3] => { results := [.lit (.bool true)], args := [d1, d2, d3] }
  | _ => none }
def orderReceivesRow : OpenClaim := { program := "ytdbanekjjibpbaa", sum := "ccfd80c43ebbebf3c2b90ffe96488495533f4ba77a6ef5e3060c43f1d697c71c", func := "library/librarylaw39.OrderReceives", spec := "orderReceives", unfollowed := true, recurses := true, apart := false }
def OrderReceivesSaid : Prop := orderReceivesRow.holds Try.pinned (OpenSpec.ofChange orderReceivesSpec)

/-- ITS FALSE NEIGHBOUR: 'it returns false'. Refute it at one input. -/
def orderReceivesWrong : ChangeSpec := { name := "orderReceives", fn := fun _ => fun
  | [d1, d2, d3] => { results := [.lit (.bool false)], args := [d1, d2, d3] }
  | _ => none }
def OrderReceivesWrongFalsely : Prop := orderReceivesRow.holds Try.pinned (OpenSpec.ofChange orderReceivesWrong)

/-- 'librarylaw39.OrderBills': WHATEVER THE INPUT: true; the input reads as it did. -/
def orderBillsSpec : ChangeSpec := { name := "orderBills", fn := fun _ => fun
  | [d1, d2] => { results := [.lit (.bool true)], args := [d1, d2] }
  | _ => none }
def orderBillsRow : OpenClaim := { program := "ytdbanekjjibpbaa", sum := "ccfd80c43ebbebf3c2b90ffe96488495533f4ba77a6ef5e3060c43f1d697c71c", func := "library/librarylaw39.OrderBills", spec := "orderBills", unfollowed := true, recurses := true, apart := false }
def OrderBillsSaid : Prop := orderBillsRow.holds Try.pinned (OpenSpec.ofChange orderBillsSpec)

/-- ITS FALSE NEIGHBOUR: 'it returns false'. Refute it at one input. -/
def orderBillsWrong : ChangeSpec := { name := "orderBills", fn := fun _ => fun
  | [d1, d2] => { results := [.lit (.bool false)], args := [d1, d2] }
  | _ => none }
def OrderBillsWrongFalsely : Prop := orderBillsRow.holds Try.pinned (OpenSpec.ofChange orderBillsWrong)

/-- 'librarylaw39.OrderReserves': WHATEVER THE INPUT: true; the input reads as it did. -/
def orderReservesSpec : ChangeSpec := { name := "orderReserves", fn := fun _ => fun
  | [d1, d2, d3] => { results := [.lit (.bool true)], args := [d1, d2, d3] }
  | _ => none }
def orderReservesRow : OpenClaim := { program := "ytdbanekjjibpbaa", sum := "ccfd80c43ebbebf3c2b90ffe96488495533f4ba77a6ef5e3060c43f1d697c71c", func := "library/librarylaw39.OrderReserves", spec := "orderReserves", unfollowed := true, recurses := true, apart := false }
def OrderReservesSaid : Prop := orderReservesRow.holds Try.pinned (OpenSpec.ofChange orderReservesSpec)

/-- ITS FALSE NEIGHBOUR: 'it returns false'. Refute it at one input. -/
def orderReservesWrong : ChangeSpec := { name := "orderReserves", fn := fun _ => fun
  | [d1, d2, d3] => { results := [.lit (.bool false)], args := [d1, d2, d3] }
  | _ => none }
def OrderReservesWrongFalsely : Prop := orderReservesRow.holds Try.pinned (OpenSpec.ofChange orderReservesWrong)

/-- 'librarylaw39.OrderChecks': WHATEVER THE INPUT: true; the input reads as it did. -/
def orderChecksSpec : ChangeSpec := { name := "orderChecks", fn := fun _ => fun
  | [d] => { results := [.lit (.bool true)], args := [d] }
  | _ => none }
def orderChecksRow : OpenClaim := { program := "ytdbanekjjibpbaa", sum := "ccfd80c43ebbebf3c2b90ffe96488495533f4ba77a6ef5e3060c43f1d697c71c", func := "library/librarylaw39.OrderChecks", spec := "orderChecks", unfollowed := true, recurses := true, apart := false }
def OrderChecksSaid : Prop := orderChecksRow.holds Try.pinned (OpenSpec.ofChange orderChecksSpec)

/-- ITS FALSE NEIGHBOUR: 'it returns false'. Refute it at one input. -/
def orderChecksWrong : ChangeSpec := { name := "orderChecks", fn := fun _ => fun
  | [d] => { results := [.lit (.bool false)], args := [d] }
  | _ => none }
def OrderChecksWrongFalsely : Prop := orderChecksRow.holds Try.pinned (OpenSpec.ofChange orderChecksWrong)

/-- 'librarylaw39.OrderShares': WHATEVER THE INPUT: true; the input reads as it did. -/
def orderSharesSpec : ChangeSpec := { name := "orderShares", fn := fun _ => fun
  | [d1, d2] => { results := [.lit (.bool true)], args := [d1, d2] }
  | _ => none }
def orderSharesRow : OpenClaim := { program := "ytdbanekjjibpbaa", sum := "ccfd80c43ebbebf3c2b90ffe96488495533f4ba77a6ef5e3060c43f1d697c71c", func := "library/librarylaw39.OrderShares", spec := "orderShares", unfollowed := true, recurses := true, apart := false }
def OrderSharesSaid : Prop := orderSharesRow.holds Try.pinned (OpenSpec.ofChange orderSharesSpec)

/-- ITS FALSE NEIGHBOUR: 'it returns false'. Refute it at one input. -/
def orderSharesWrong : ChangeSpec := { name := "orderShares", fn := fun _ => fun
  | [d1, d2] => { results := [.lit (.bool false)], args := [d1, d2] }
  | _ => none }
def OrderSharesWrongFalsely : Prop := orderSharesRow.holds Try.pinned (OpenSpec.ofChange orderSharesWrong)

/-- 'librarylaw39.OrderPlaces': WHATEVER THE INPUT: true; the input reads as it did. -/
def orderPlacesSpec : ChangeSpec := { name := "orderPlaces", fn := fun _ => fun
  | [d1, d2] => { results := [.lit (.bool true)], args := [d1, d2] }
  | _ => none }
def orderPlacesRow : OpenClaim := { program := "ytdbanekjjibpbaa", sum := "ccfd80c43ebbebf3c2b90ffe96488495533f4ba77a6ef5e3060c43f1d697c71c", func := "library/librarylaw39.OrderPlaces", spec := "orderPlaces", unfollowed := true, recurses := true, apart := false }
def OrderPlacesSaid : Prop := orderPlacesRow.holds Try.pinned (OpenSpec.ofChange orderPlacesSpec)

/-- ITS FALSE NEIGHBOUR: 'it returns false'. Refute it at one input. -/
def orderPlacesWrong : ChangeSpec := { name := "orderPlaces", fn := fun _ => fun
  | [d1, d2] => { results := [.lit (.bool false)], args := [d1, d2] }
  | _ => none }
def OrderPlacesWrongFalsely : Prop := orderPlacesRow.holds Try.pinned (OpenSpec.ofChange orderPlacesWrong)

/-- 'librarylaw39.OrderKeeps': WHATEVER THE INPUT: true; the input reads as it did. -/
def orderKeepsSpec : ChangeSpec := { name := "orderKeeps", fn := fun _ => fun
  | [d1, d2, d3, d4] => { results := [.lit (.bool true)], args := [d1, d2, d3, d4] }
  | _ => none }
def orderKeepsRow : OpenClaim := { program := "ytdbanekjjibpbaa", sum := "ccfd80c43ebbebf3c2b90ffe96488495533f4ba77a6ef5e3060c43f1d697c71c", func := "library/librarylaw39.OrderKeeps", spec := "orderKeeps", unfollowed := true, recurses := true, apart := false }
def OrderKeepsSaid : Prop := orderKeepsRow.holds Try.pinned (OpenSpec.ofChange orderKeepsSpec)

/-- ITS FALSE NEIGHBOUR: 'it returns false'. Refute it at one input. -/
def orderKeepsWrong : ChangeSpec := { name := "orderKeeps", fn := fun _ => fun
  | [d1, d2, d3, d4] => { results := [.lit (.bool false)], args := [d1, d2, d3, d4] }
  | _ => none }
def OrderKeepsWrongFalsely : Prop := orderKeepsRow.holds Try.pinned (OpenSpec.ofChange orderKeepsWrong)

/- THE SECOND FORM. 'bulk': how many values and letters a reading holds, each counted each time it is reached (what is shared counts as often as it is met; a slice's spare places count too). A statement '..UptoSaid' is the law's where the arguments, and the package variables that the reading takes, are together of bulk at most 1048576: NARROWER than '..Said'. Prove '..Said' where nothing that the law and all that it calls make is longer than what came in: it says more and counts as full. Else prove '..UptoSaid'. A law counts once. -/
mutual
def uptoBulk {H : Type} : DataW H → Nat
  | .lit (.string bytes) => bytes.length + 1
  | .lit _ => 1
  | .nil => 1
  | .ptr d => uptoBulk d + 1
  | .slice elems spare => uptoBulkAll elems + uptoBulkAll spare + 1
  | .agg parts => uptoBulkAll parts + 1
  | .iface _ d => uptoBulk d + 1
  | .map entries => uptoBulkEntries entries + 1
  | .held _ => 1
def uptoBulkAll {H : Type} : List (DataW H) → Nat
  | [] => 0
  | d :: r => uptoBulk d + uptoBulkAll r
def uptoBulkEntries {H : Type} : List (Lit × DataW H) → Nat
  | [] => 0
  | x :: r => uptoBulkEntry x + uptoBulkEntries r
def uptoBulkEntry {H : Type} : Lit × DataW H → Nat
  | (.string bytes, d) => bytes.length + uptoBulk d + 1
  | (_, d) => uptoBulk d + 1
 end
def uptoSmall : (H : Type) → List (DataW H) → Bool := fun _ ds => decide (uptoBulkAll ds ≤ 1048576)
def OpenSpec.upto (s : _root_.Go.ChangeSpec) : _root_.Go.OpenSpec := { _root_.Go.OpenSpec.ofChange s with cond := some uptoSmall }

/-- 'librarylaw39.OrderReceives', WHERE WHAT IT READS IS OF BULK AT MOST 1048576: true; the input reads as it did. -/
def orderReceivesUptoRow : OpenClaim := { program := "ytdbanekjjibpbaa", sum := "ccfd80c43ebbebf3c2b90ffe96488495533f4ba77a6ef5e3060c43f1d697c71c", func := "library/librarylaw39.OrderReceives", spec := "orderReceives", unfollowed := true, recurses := true, apart := false, narrowed := true }
def OrderReceivesUptoSaid : Prop := orderReceivesUptoRow.holds Try.pinned (OpenSpec.upto orderReceivesSpec)

/-- 'librarylaw39.OrderBills', WHERE WHAT IT READS IS OF BULK AT MOST 1048576: true; the input reads as it did. -/
def orderBillsUptoRow : OpenClaim := { program := "ytdbanekjjibpbaa", sum := "ccfd80c43ebbebf3c2b90ffe96488495533f4ba77a6ef5e3060c43f1d697c71c", func := "library/librarylaw39.OrderBills", spec := "orderBills", unfollowed := true, recurses := true, apart := false, narrowed := true }
def OrderBillsUptoSaid : Prop := orderBillsUptoRow.holds Try.pinned (OpenSpec.upto orderBillsSpec)

/-- 'librarylaw39.OrderReserves', WHERE WHAT IT READS IS OF BULK AT MOST 1048576: true; the input reads as it did. -/
def orderReservesUptoRow : OpenClaim := { program := "ytdbanekjjibpbaa", sum := "ccfd80c43ebbebf3c2b90ffe96488495533f4ba77a6ef5e3060c43f1d697c71c", func := "library/librarylaw39.OrderReserves", spec := "orderReserves", unfollowed := true, recurses := true, apart := false, narrowed := true }
def OrderReservesUptoSaid : Prop := orderReservesUptoRow.holds Try.pinned (OpenSpec.upto orderReservesSpec)

/-- 'librarylaw39.OrderChecks', WHERE WHAT IT READS IS OF BULK AT MOST 1048576: true; the input reads as it did. -/
def orderChecksUptoRow : OpenClaim := { program := "ytdbanekjjibpbaa", sum := "ccfd80c43ebbebf3c2b90ffe96488495533f4ba77a6ef5e3060c43f1d697c71c", func := "library/librarylaw39.OrderChecks", spec := "orderChecks", unfollowed := true, recurses := true, apart := false, narrowed := true }
def OrderChecksUptoSaid : Prop := orderChecksUptoRow.holds Try.pinned (OpenSpec.upto orderChecksSpec)

/-- 'librarylaw39.OrderShares', WHERE WHAT IT READS IS OF BULK AT MOST 1048576: true; the input reads as it did. -/
def orderSharesUptoRow : OpenClaim := { program := "ytdbanekjjibpbaa", sum := "ccfd80c43ebbebf3c2b90ffe96488495533f4ba77a6ef5e3060c43f1d697c71c", func := "library/librarylaw39.OrderShares", spec := "orderShares", unfollowed := true, recurses := true, apart := false, narrowed := true }
def OrderSharesUptoSaid : Prop := orderSharesUptoRow.holds Try.pinned (OpenSpec.upto orderSharesSpec)

/-- 'librarylaw39.OrderPlaces', WHERE WHAT IT READS IS OF BULK AT MOST 1048576: true; the input reads as it did. -/
def orderPlacesUptoRow : OpenClaim := { program := "ytdbanekjjibpbaa", sum := "ccfd80c43ebbebf3c2b90ffe96488495533f4ba77a6ef5e3060c43f1d697c71c", func := "library/librarylaw39.OrderPlaces", spec := "orderPlaces", unfollowed := true, recurses := true, apart := false, narrowed := true }
def OrderPlacesUptoSaid : Prop := orderPlacesUptoRow.holds Try.pinned (OpenSpec.upto orderPlacesSpec)

/-- 'librarylaw39.OrderKeeps', WHERE WHAT IT READS IS OF BULK AT MOST 1048576: true; the input reads as it did. -/
def orderKeepsUptoRow : OpenClaim := { program := "ytdbanekjjibpbaa", sum := "ccfd80c43ebbebf3c2b90ffe96488495533f4ba77a6ef5e3060c43f1d697c71c", func := "library/librarylaw39.OrderKeeps", spec := "orderKeeps", unfollowed := true, recurses := true, apart := false, narrowed := true }
def OrderKeepsUptoSaid : Prop := orderKeepsUptoRow.holds Try.pinned (OpenSpec.upto orderKeepsSpec)

end Rows
end Go.Proofs.Ytdbanekjjibpbaa
