/-
  No cell of these rows narrows 'for every input' (looked for: loops, veiled, ifaces, maps, wideKeys, modest, calm, conditions, laid).
  DERIVED. THE GIVEN ROWS OF THIS SEAT. 12 by the template 'for every input the law returns true; each argument reads behind the call as it read before'; 0 by the template 'total and deterministic' (their statements: YtblmgpdbncihbaaTotals.lean).
  GIVEN WITH THE SEED: the statements are not yours to turn. If you find one false, say at which input.
  Laid BY PROGRAM, IN A SANDBOX (cutbox-rows.mjs): the forced cells as the released guide's own fill.sh prints them over the translation 37db8ccaf29abff9… (all of the seat's roots in one cut). By AI agents, Wed Nov 11 2026. No macro, syntax, notation, axiom, sorry.
-/
import Derived.Test.YtblmgpdbncihbaaChecked
import GoSem.Claim
import GoSem.ClaimJoined
import GoSem.ClaimMapViews
import Derived.JoinedTies
import Derived.KernelRfl
namespace Go.Proofs.Ytblmgpdbncihbaa
/- THE CELL 'sum', in the pinned program and in every row, IS THE sha256 OF THE DUMP (.gsa) THAT YtblmgpdbncihbaaProg.lean LOADS. Nothing in Lean hashes anything: it is a label: what it is worth is what the hold of that sum in a sandbox is worth. -/
noncomputable def Try.pinned : Pinned := { name := "ytblmgpdbncihbaa", sum := "37db8ccaf29abff93d096273c3f57e4a1483b6cb2db1e34d5ab4e19568499c03", checked := Try.checked }
namespace Rows
def none {H : Type} : Left H := { results := [], args := [] }

/-- 'laws.FnExactMonMove': WHATEVER THE INPUT: true; the input reads as it did. -/
def fnExactMonMoveSpec : ChangeSpec := { name := "fnExactMonMove", fn := fun _ => fun
  | [d1, d2, d3, d4] => { results := [.lit (.bool true)], args := [d1, d2, d3, d4] }
  | _ => none }
def fnExactMonMoveRow : OpenClaim := { program := "ytblmgpdbncihbaa", sum := "37db8ccaf29abff93d096273c3f57e4a1483b6cb2db1e34d5ab4e19568499c03", func := "loop.example/stileway/laws.FnExactMonMove", spec := "fnExactMonMove", unfollowed := true, recurses := true, apart := false }
def FnExactMonMoveSaid : Prop := fnExactMonMoveRow.holds Try.pinned (OpenSpec.ofChange fnExactMonMoveSpec)

/-- ITS FALSE NEIGHBOUR: 'it returns false'. Refute it at one input. -/
def fnExactMonMoveWrong : ChangeSpec := { name := "fnExactMonMove", fn := fun _ => fun
  | [d1, d2, d3, d4] => { results := [.lit (.bool false)], args := [d1, d2, d3, d4] }
  | _ => none }
def FnExactMonMoveWrongFalsely : Prop := fnExactMonMoveRow.holds Try.pinned (OpenSpec.ofChange fnExactMonMoveWrong)

/-- 'laws.FnMonHas': WHATEVER THE INPUT: true; the input reads as it did. -/
def fnMonHasSpec : ChangeSpec := { name := "fnMonHas", fn := fun _ => fun
  | [d1, d2] => { results := [.lit (.bool true)], args := [d1, d2] }
  | _ => none }
def fnMonHasRow : OpenClaim := { program := "ytblmgpdbncihbaa", sum := "37db8ccaf29abff93d096273c3f57e4a1483b6cb2db1e34d5ab4e19568499c03", func := "loop.example/stileway/laws.FnMonHas", spec := "fnMonHas", unfollowed := true, recurses := true, apart := false }
def FnMonHasSaid : Prop := fnMonHasRow.holds Try.pinned (OpenSpec.ofChange fnMonHasSpec)

/-- ITS FALSE NEIGHBOUR: 'it returns false'. Refute it at one input. -/
def fnMonHasWrong : ChangeSpec := { name := "fnMonHas", fn := fun _ => fun
  | [d1, d2] => { results := [.lit (.bool false)], args := [d1, d2] }
  | _ => none }
def FnMonHasWrongFalsely : Prop := fnMonHasRow.holds Try.pinned (OpenSpec.ofChange fnMonHasWrong)

/-- 'laws.FnMonTurn': WHATEVER THE INPUT: true; the input reads as it did. -/
def fnMonTurnSpec : ChangeSpec := { name := "fnMonTurn", fn := fun _ => fun
  | [d] => { results := [.lit (.bool true)], args := [d] }
  | _ => none }
def fnMonTurnRow : OpenClaim := { program := "ytblmgpdbncihbaa", sum := "37db8ccaf29abff93d096273c3f57e4a1483b6cb2db1e34d5ab4e19568499c03", func := "loop.example/stileway/laws.FnMonTurn", spec := "fnMonTurn", unfollowed := true, recurses := true, apart := false }
def FnMonTurnSaid : Prop := fnMonTurnRow.holds Try.pinned (OpenSpec.ofChange fnMonTurnSpec)

/-- ITS FALSE NEIGHBOUR: 'it returns false'. Refute it at one input. -/
def fnMonTurnWrong : ChangeSpec := { name := "fnMonTurn", fn := fun _ => fun
  | [d] => { results := [.lit (.bool false)], args := [d] }
  | _ => none }
def FnMonTurnWrongFalsely : Prop := fnMonTurnRow.holds Try.pinned (OpenSpec.ofChange fnMonTurnWrong)

/-- 'laws.FnExactGatTimes': WHATEVER THE INPUT: true; the input reads as it did. -/
def fnExactGatTimesSpec : ChangeSpec := { name := "fnExactGatTimes", fn := fun _ => fun
  | [d1, d2] => { results := [.lit (.bool true)], args := [d1, d2] }
  | _ => none }
def fnExactGatTimesRow : OpenClaim := { program := "ytblmgpdbncihbaa", sum := "37db8ccaf29abff93d096273c3f57e4a1483b6cb2db1e34d5ab4e19568499c03", func := "loop.example/stileway/laws.FnExactGatTimes", spec := "fnExactGatTimes", apart := false }
def FnExactGatTimesSaid : Prop := fnExactGatTimesRow.holds Try.pinned (OpenSpec.ofChange fnExactGatTimesSpec)

/-- ITS FALSE NEIGHBOUR: 'it returns false'. Refute it at one input. -/
def fnExactGatTimesWrong : ChangeSpec := { name := "fnExactGatTimes", fn := fun _ => fun
  | [d1, d2] => { results := [.lit (.bool false)], args := [d1, d2] }
  | _ => none }
def FnExactGatTimesWrongFalsely : Prop := fnExactGatTimesRow.holds Try.pinned (OpenSpec.ofChange fnExactGatTimesWrong)

/-- 'laws.FnGatThrough': WHATEVER THE INPUT: true; the input reads as it did. -/
def fnGatThroughSpec : ChangeSpec := { name := "fnGatThrough", fn := fun _ => fun
  | [d] => { results := [.lit (.bool true)], args := [d] }
  | _ => none }
def fnGatThroughRow : OpenClaim := { program := "ytblmgpdbncihbaa", sum := "37db8ccaf29abff93d096273c3f57e4a1483b6cb2db1e34d5ab4e19568499c03", func := "loop.example/stileway/laws.FnGatThrough", spec := "fnGatThrough", recurses := true, apart := false }
def FnGatThroughSaid : Prop := fnGatThroughRow.holds Try.pinned (OpenSpec.ofChange fnGatThroughSpec)

/-- ITS FALSE NEIGHBOUR: 'it returns false'. Refute it at one input. -/
def fnGatThroughWrong : ChangeSpec := { name := "fnGatThrough", fn := fun _ => fun
  | [d] => { results := [.lit (.bool false)], args := [d] }
  | _ => none }
def FnGatThroughWrongFalsely : Prop := fnGatThroughRow.holds Try.pinned (OpenSpec.ofChange fnGatThroughWrong)

/-- 'laws.FnMonTwo': WHATEVER THE INPUT: true; the input reads as it did. -/
def fnMonTwoSpec : ChangeSpec := { name := "fnMonTwo", fn := fun _ => fun
  | [d] => { results := [.lit (.bool true)], args := [d] }
  | _ => none }
def fnMonTwoRow : OpenClaim := { program := "ytblmgpdbncihbaa", sum := "37db8ccaf29abff93d096273c3f57e4a1483b6cb2db1e34d5ab4e19568499c03", func := "loop.example/stileway/laws.FnMonTwo", spec := "fnMonTwo", unfollowed := true, recurses := true, apart := false }
def FnMonTwoSaid : Prop := fnMonTwoRow.holds Try.pinned (OpenSpec.ofChange fnMonTwoSpec)

/-- ITS FALSE NEIGHBOUR: 'it returns false'. Refute it at one input. -/
def fnMonTwoWrong : ChangeSpec := { name := "fnMonTwo", fn := fun _ => fun
  | [d] => { results := [.lit (.bool false)], args := [d] }
  | _ => none }
def FnMonTwoWrongFalsely : Prop := fnMonTwoRow.holds Try.pinned (OpenSpec.ofChange fnMonTwoWrong)

/-- 'laws.FnMonMove': WHATEVER THE INPUT: true; the input reads as it did. -/
def fnMonMoveSpec : ChangeSpec := { name := "fnMonMove", fn := fun _ => fun
  | [d] => { results := [.lit (.bool true)], args := [d] }
  | _ => none }
def fnMonMoveRow : OpenClaim := { program := "ytblmgpdbncihbaa", sum := "37db8ccaf29abff93d096273c3f57e4a1483b6cb2db1e34d5ab4e19568499c03", func := "loop.example/stileway/laws.FnMonMove", spec := "fnMonMove", unfollowed := true, recurses := true, apart := false }
def FnMonMoveSaid : Prop := fnMonMoveRow.holds Try.pinned (OpenSpec.ofChange fnMonMoveSpec)

/-- ITS FALSE NEIGHBOUR: 'it returns false'. Refute it at one input. -/
def fnMonMoveWrong : ChangeSpec := { name := "fnMonMove", fn := fun _ => fun
  | [d] => { results := [.lit (.bool false)], args := [d] }
  | _ => none }
def FnMonMoveWrongFalsely : Prop := fnMonMoveRow.holds Try.pinned (OpenSpec.ofChange fnMonMoveWrong)

/-- 'laws.FnExactHedFollows': WHATEVER THE INPUT: true; the input reads as it did. -/
def fnExactHedFollowsSpec : ChangeSpec := { name := "fnExactHedFollows", fn := fun _ => fun
  | [d1, d2, d3] => { results := [.lit (.bool true)], args := [d1, d2, d3] }
  | _ => none }
def fnExactHedFollowsRow : OpenClaim := { program := "ytblmgpdbncihbaa", sum := "37db8ccaf29abff93d096273c3f57e4a1483b6cb2db1e34d5ab4e19568499c03", func := "loop.example/stileway/laws.FnExactHedFollows", spec := "fnExactHedFollows", unfollowed := true, recurses := true, apart := false }
def FnExactHedFollowsSaid : Prop := fnExactHedFollowsRow.holds Try.pinned (OpenSpec.ofChange fnExactHedFollowsSpec)

/-- ITS FALSE NEIGHBOUR: 'it returns false'. Refute it at one input. -/
def fnExactHedFollowsWrong : ChangeSpec := { name := "fnExactHedFollows", fn := fun _ => fun
  | [d1, d2, d3] => { results := [.lit (.bool false)], args := [d1, d2, d3] }
  | _ => none }
def FnExactHedFollowsWrongFalsely : Prop := fnExactHedFollowsRow.holds Try.pinned (OpenSpec.ofChange fnExactHedFollowsWrong)

/-- 'laws.FnExactMktHeld': WHATEVER THE INPUT: true; the input reads as it did. -/
def fnExactMktHeldSpec : ChangeSpec := { name := "fnExactMktHeld", fn := fun _ => fun
  | [d] => { results := [.lit (.bool true)], args := [d] }
  | _ => none }
def fnExactMktHeldRow : OpenClaim := { program := "ytblmgpdbncihbaa", sum := "37db8ccaf29abff93d096273c3f57e4a1483b6cb2db1e34d5ab4e19568499c03", func := "loop.example/stileway/laws.FnExactMktHeld", spec := "fnExactMktHeld", apart := false }
def FnExactMktHeldSaid : Prop := fnExactMktHeldRow.holds Try.pinned (OpenSpec.ofChange fnExactMktHeldSpec)

/-- ITS FALSE NEIGHBOUR: 'it returns false'. Refute it at one input. -/
def fnExactMktHeldWrong : ChangeSpec := { name := "fnExactMktHeld", fn := fun _ => fun
  | [d] => { results := [.lit (.bool false)], args := [d] }
  | _ => none }
def FnExactMktHeldWrongFalsely : Prop := fnExactMktHeldRow.holds Try.pinned (OpenSpec.ofChange fnExactMktHeldWrong)

/-- 'laws.FnExactMktDealOf': WHATEVER THE INPUT: true; the input reads as it did. -/
def fnExactMktDealOfSpec : ChangeSpec := { name := "fnExactMktDealOf", fn := fun _ => fun
  | [d1, d2] => { results := [.lit (.bool true)], args := [d1, d2] }
  | _ => none }
def fnExactMktDealOfRow : OpenClaim := { program := "ytblmgpdbncihbaa", sum := "37db8ccaf29abff93d096273c3f57e4a1483b6cb2db1e34d5ab4e19568499c03", func := "loop.example/stileway/laws.FnExactMktDealOf", spec := "fnExactMktDealOf", unfollowed := true, recurses := true, apart := false }
def FnExactMktDealOfSaid : Prop := fnExactMktDealOfRow.holds Try.pinned (OpenSpec.ofChange fnExactMktDealOfSpec)

/-- ITS FALSE NEIGHBOUR: 'it returns false'. Refute it at one input. -/
def fnExactMktDealOfWrong : ChangeSpec := { name := "fnExactMktDealOf", fn := fun _ => fun
  | [d1, d2] => { results := [.lit (.bool false)], args := [d1, d2] }
  | _ => none }
def FnExactMktDealOfWrongFalsely : Prop := fnExactMktDealOfRow.holds Try.pinned (OpenSpec.ofChange fnExactMktDealOfWrong)

/-- 'laws.FnMktNew': WHATEVER THE INPUT: true; the input reads as it did. -/
def fnMktNewSpec : ChangeSpec := { name := "fnMktNew", fn := fun _ => fun
  | [d] => { results := [.lit (.bool true)], args := [d] }
  | _ => none }
def fnMktNewRow : OpenClaim := { program := "ytblmgpdbncihbaa", sum := "37db8ccaf29abff93d096273c3f57e4a1483b6cb2db1e34d5ab4e19568499c03", func := "loop.example/stileway/laws.FnMktNew", spec := "fnMktNew", unfollowed := true, recurses := true, apart := false }
def FnMktNewSaid : Prop := fnMktNewRow.holds Try.pinned (OpenSpec.ofChange fnMktNewSpec)

/-- ITS FALSE NEIGHBOUR: 'it returns false'. Refute it at one input. -/
def fnMktNewWrong : ChangeSpec := { name := "fnMktNew", fn := fun _ => fun
  | [d] => { results := [.lit (.bool false)], args := [d] }
  | _ => none }
def FnMktNewWrongFalsely : Prop := fnMktNewRow.holds Try.pinned (OpenSpec.ofChange fnMktNewWrong)

/-- 'laws.FnExactHedProof': WHATEVER THE INPUT: true; the input reads as it did. -/
def fnExactHedProofSpec : ChangeSpec := { name := "fnExactHedProof", fn := fun _ => fun
  | [d1, d2] => { results := [.lit (.bool true)], args := [d1, d2] }
  | _ => none }
def fnExactHedProofRow : OpenClaim := { program := "ytblmgpdbncihbaa", sum := "37db8ccaf29abff93d096273c3f57e4a1483b6cb2db1e34d5ab4e19568499c03", func := "loop.example/stileway/laws.FnExactHedProof", spec := "fnExactHedProof", unfollowed := true, recurses := true, apart := false }
def FnExactHedProofSaid : Prop := fnExactHedProofRow.holds Try.pinned (OpenSpec.ofChange fnExactHedProofSpec)

/-- ITS FALSE NEIGHBOUR: 'it returns false'. Refute it at one input. -/
def fnExactHedProofWrong : ChangeSpec := { name := "fnExactHedProof", fn := fun _ => fun
  | [d1, d2] => { results := [.lit (.bool false)], args := [d1, d2] }
  | _ => none }
def FnExactHedProofWrongFalsely : Prop := fnExactHedProofRow.holds Try.pinned (OpenSpec.ofChange fnExactHedProofWrong)

/- THE SECOND FORM. 'bulk': how many values and letters a reading holds, each counted each time it is reached (what is shared counts as often as it is met; a slice's spare places count too). A statement '..UptoSaid' is the law's where the arguments, and the package variables that the reading takes, are together of bulk at most 1048576: NARROWER than '..Said'. Prove '..Said' where nothing that the law and all that it calls make is longer than what came in: it says more and counts as full. Else prove '..UptoSaid'. A law counts once. -/
mutual
def uptoBulk {H : Type} : DataW H → Nat
  | .lit (.string bytes) => bytes.length + 1
  | .lit _ => 1
  | .nil => 1
  | .ptr d => uptoBulk d + 1
  | .slice elems spare => uptoBulkAll elems + uptoBulkAll spare + 1
  | .agg parts => uptoBulkAll parts + 1
  | .iface _ d => uptoBulk d + 1
  | .map entries => uptoBulkEntries entries + 1
  | .held _ => 1
def uptoBulkAll {H : Type} : List (DataW H) → Nat
  | [] => 0
  | d :: r => uptoBulk d + uptoBulkAll r
def uptoBulkEntries {H : Type} : List (Lit × DataW H) → Nat
  | [] => 0
  | x :: r => uptoBulkEntry x + uptoBulkEntries r
def uptoBulkEntry {H : Type} : Lit × DataW H → Nat
  | (.string bytes, d) => bytes.length + uptoBulk d + 1
  | (_, d) => uptoBulk d + 1
 end
def uptoSmall : (H : Type) → List (DataW H) → Bool := fun _ ds => decide (uptoBulkAll ds ≤ 1048576)
def OpenSpec.upto (s : _root_.Go.ChangeSpec) : _root_.Go.OpenSpec := { _root_.Go.OpenSpec.ofChange s with cond := some uptoSmall }

/-- 'laws.FnExactMonMove', WHERE WHAT IT READS IS OF BULK AT MOST 1048576: true; the input reads as it did. -/
def fnExactMonMoveUptoRow : OpenClaim := { program := "ytblmgpdbncihbaa", sum := "37db8ccaf29abff93d096273c3f57e4a1483b6cb2db1e34d5ab4e19568499c03", func := "loop.example/stileway/laws.FnExactMonMove", spec := "fnExactMonMove", unfollowed := true, recurses := true, apart := false, narrowed := true }
def FnExactMonMoveUptoSaid : Prop := fnExactMonMoveUptoRow.holds Try.pinned (OpenSpec.upto fnExactMonMoveSpec)

/-- 'laws.FnMonHas', WHERE WHAT IT READS IS OF BULK AT MOST 1048576: true; the input reads as it did. -/
def fnMonHasUptoRow : OpenClaim := { program := "ytblmgpdbncihbaa", sum := "37db8ccaf29abff93d096273c3f57e4a1483b6cb2db1e34d5ab4e19568499c03", func := "loop.example/stileway/laws.FnMonHas", spec := "fnMonHas", unfollowed := true, recurses := true, apart := false, narrowed := true }
def FnMonHasUptoSaid : Prop := fnMonHasUptoRow.holds Try.pinned (OpenSpec.upto fnMonHasSpec)

/-- 'laws.FnMonTurn', WHERE WHAT IT READS IS OF BULK AT MOST 1048576: true; the input reads as it did. -/
def fnMonTurnUptoRow : OpenClaim := { program := "ytblmgpdbncihbaa", sum := "37db8ccaf29abff93d096273c3f57e4a1483b6cb2db1e34d5ab4e19568499c03", func := "loop.example/stileway/laws.FnMonTurn", spec := "fnMonTurn", unfollowed := true, recurses := true, apart := false, narrowed := true }
def FnMonTurnUptoSaid : Prop := fnMonTurnUptoRow.holds Try.pinned (OpenSpec.upto fnMonTurnSpec)

/-- 'laws.FnExactGatTimes', WHERE WHAT IT READS IS OF BULK AT MOST 1048576: true; the input reads as it did. -/
def fnExactGatTimesUptoRow : OpenClaim := { program := "ytblmgpdbncihbaa", sum := "37db8ccaf29abff93d096273c3f57e4a1483b6cb2db1e34d5ab4e19568499c03", func := "loop.example/stileway/laws.FnExactGatTimes", spec := "fnExactGatTimes", apart := false, narrowed := true }
def FnExactGatTimesUptoSaid : Prop := fnExactGatTimesUptoRow.holds Try.pinned (OpenSpec.upto fnExactGatTimesSpec)

/-- 'laws.FnGatThrough', WHERE WHAT IT READS IS OF BULK AT MOST 1048576: true; the input reads as it did. -/
def fnGatThroughUptoRow : OpenClaim := { program := "ytblmgpdbncihbaa", sum := "37db8ccaf29abff93d096273c3f57e4a1483b6cb2db1e34d5ab4e19568499c03", func := "loop.example/stileway/laws.FnGatThrough", spec := "fnGatThrough", recurses := true, apart := false, narrowed := true }
def FnGatThroughUptoSaid : Prop := fnGatThroughUptoRow.holds Try.pinned (OpenSpec.upto fnGatThroughSpec)

/-- 'laws.FnMonTwo', WHERE WHAT IT READS IS OF BULK AT MOST 1048576: true; the input reads as it did. -/
def fnMonTwoUptoRow : OpenClaim := { program := "ytblmgpdbncihbaa", sum := "37db8ccaf29abff93d096273c3f57e4a1483b6cb2db1e34d5ab4e19568499c03", func := "loop.example/stileway/laws.FnMonTwo", spec := "fnMonTwo", unfollowed := true, recurses := true, apart := false, narrowed := true }
def FnMonTwoUptoSaid : Prop := fnMonTwoUptoRow.holds Try.pinned (OpenSpec.upto fnMonTwoSpec)

/-- 'laws.FnMonMove', WHERE WHAT IT READS IS OF BULK AT MOST 1048576: true; the input reads as it did. -/
def fnMonMoveUptoRow : OpenClaim := { program := "ytblmgpdbncihbaa", sum := "37db8ccaf29abff93d096273c3f57e4a1483b6cb2db1e34d5ab4e19568499c03", func := "loop.example/stileway/laws.FnMonMove", spec := "fnMonMove", unfollowed := true, recurses := true, apart := false, narrowed := true }
def FnMonMoveUptoSaid : Prop := fnMonMoveUptoRow.holds Try.pinned (OpenSpec.upto fnMonMoveSpec)

/-- 'laws.FnExactHedFollows', WHERE WHAT IT READS IS OF BULK AT MOST 1048576: true; the input reads as it did. -/
def fnExactHedFollowsUptoRow : OpenClaim := { program := "ytblmgpdbncihbaa", sum := "37db8ccaf29abff93d096273c3f57e4a1483b6cb2db1e34d5ab4e19568499c03", func := "loop.example/stileway/laws.FnExactHedFollows", spec := "fnExactHedFollows", unfollowed := true, recurses := true, apart := false, narrowed := true }
def FnExactHedFollowsUptoSaid : Prop := fnExactHedFollowsUptoRow.holds Try.pinned (OpenSpec.upto fnExactHedFollowsSpec)

/-- 'laws.FnExactMktHeld', WHERE WHAT IT READS IS OF BULK AT MOST 1048576: true; the input reads as it did. -/
def fnExactMktHeldUptoRow : OpenClaim := { program := "ytblmgpdbncihbaa", sum := "37db8ccaf29abff93d096273c3f57e4a1483b6cb2db1e34d5ab4e19568499c03", func := "loop.example/stileway/laws.FnExactMktHeld", spec := "fnExactMktHeld", apart := false, narrowed := true }
def FnExactMktHeldUptoSaid : Prop := fnExactMktHeldUptoRow.holds Try.pinned (OpenSpec.upto fnExactMktHeldSpec)

/-- 'laws.FnExactMktDealOf', WHERE WHAT IT READS IS OF BULK AT MOST 1048576: true; the input reads as it did. -/
def fnExactMktDealOfUptoRow : OpenClaim := { program := "ytblmgpdbncihbaa", sum := "37db8ccaf29abff93d096273c3f57e4a1483b6cb2db1e34d5ab4e19568499c03", func := "loop.example/stileway/laws.FnExactMktDealOf", spec := "fnExactMktDealOf", unfollowed := true, recurses := true, apart := false, narrowed := true }
def FnExactMktDealOfUptoSaid : Prop := fnExactMktDealOfUptoRow.holds Try.pinned (OpenSpec.upto fnExactMktDealOfSpec)

/-- 'laws.FnMktNew', WHERE WHAT IT READS IS OF BULK AT MOST 1048576: true; the input reads as it did. -/
def fnMktNewUptoRow : OpenClaim := { program := "ytblmgpdbncihbaa", sum := "37db8ccaf29abff93d096273c3f57e4a1483b6cb2db1e34d5ab4e19568499c03", func := "loop.example/stileway/laws.FnMktNew", spec := "fnMktNew", unfollowed := true, recurses := true, apart := false, narrowed := true }
def FnMktNewUptoSaid : Prop := fnMktNewUptoRow.holds Try.pinned (OpenSpec.upto fnMktNewSpec)

/-- 'laws.FnExactHedProof', WHERE WHAT IT READS IS OF BULK AT MOST 1048576: true; the input reads as it did. -/
def fnExactHedProofUptoRow : OpenClaim := { program := "ytblmgpdbncihbaa", sum := "37db8ccaf29abff93d096273c3f57e4a1483b6cb2db1e34d5ab4e19568499c03", func := "loop.example/stileway/laws.FnExactHedProof", spec := "fnExactHedProof", unfollowed := true, recurses := true, apart := false, narrowed := true }
def FnExactHedProofUptoSaid : Prop := fnExactHedProofUptoRow.holds Try.pinned (OpenSpec.upto fnExactHedProofSpec)

end Rows
end Go.Proofs.Ytblmgpdbncihbaa
