/-
  No cell of these rows narrows 'for every input' (looked for: loops, veiled, ifaces, maps, wideKeys, modest, calm, conditions, laid).
  DERIVED. THE GIVEN ROWS OF THIS SEAT. 12 by the template 'for every input the law returns true; each argument reads behind the call as it read before'; 0 by the template 'total and deterministic' (their statements: YtpfnlnpjdjekaaaTotals.lean).
  GIVEN WITH THE SEED: the statements are not yours to turn. If you find one false, say at which input.
  Laid BY PROGRAM, IN A SANDBOX (cutbox-rows.mjs): the forced cells as the released guide's own fill.sh prints them over the translation 7993a0e98609e282… (all of the seat's roots in one cut). By AI agents, Wed Nov 11 2026. No macro, syntax, notation, axiom, sorry.
-/
import Derived.Test.YtpfnlnpjdjekaaaChecked
import GoSem.Claim
import GoSem.ClaimJoined
import GoSem.ClaimMapViews
import Derived.JoinedTies
import Derived.KernelRfl
namespace Go.Proofs.Ytpfnlnpjdjekaaa
/- THE CELL 'sum', in the pinned program and in every row, IS THE sha256 OF THE DUMP (.gsa) THAT YtpfnlnpjdjekaaaProg.lean LOADS. Nothing in Lean hashes anything: it is a label: what it is worth is what the hold of that sum in a sandbox is worth. -/
noncomputable def Try.pinned : Pinned := { name := "ytpfnlnpjdjekaaa", sum := "7993a0e98609e28244fa3ce1042425f124e737dfbe2d0ed1907fac98b72c8d7a", checked := Try.checked }
namespace Rows
def none {H : Type} : Left H := { results := [], args := [] }

/-- 'laws.FnExactHedOk': WHATEVER THE INPUT: true; the input reads as it did. -/
def fnExactHedOkSpec : ChangeSpec := { name := "fnExactHedOk", fn := fun _ => fun
  | [d] => { results := [.lit (.bool true)], args := [d] }
  | _ => none }
def fnExactHedOkRow : OpenClaim := { program := "ytpfnlnpjdjekaaa", sum := "7993a0e98609e28244fa3ce1042425f124e737dfbe2d0ed1907fac98b72c8d7a", func := "loop.example/stileway/laws.FnExactHedOk", spec := "fnExactHedOk", apart := false }
def FnExactHedOkSaid : Prop := fnExactHedOkRow.holds Try.pinned (OpenSpec.ofChange fnExactHedOkSpec)

/-- ITS FALSE NEIGHBOUR: 'it returns false'. Refute it at one input. -/
def fnExactHedOkWrong : ChangeSpec := { name := "fnExactHedOk", fn := fun _ => fun
  | [d] => { results := [.lit (.bool false)], args := [d] }
  | _ => none }
def FnExactHedOkWrongFalsely : Prop := fnExactHedOkRow.holds Try.pinned (OpenSpec.ofChange fnExactHedOkWrong)

/-- 'laws.FnExactHedFork': WHATEVER THE INPUT: true; the input reads as it did. -/
def fnExactHedForkSpec : ChangeSpec := { name := "fnExactHedFork", fn := fun _ => fun
  | [d1, d2] => { results := [.lit (.bool true)], args := [d1, d2] }
  | _ => none }
def fnExactHedForkRow : OpenClaim := { program := "ytpfnlnpjdjekaaa", sum := "7993a0e98609e28244fa3ce1042425f124e737dfbe2d0ed1907fac98b72c8d7a", func := "loop.example/stileway/laws.FnExactHedFork", spec := "fnExactHedFork", apart := false }
def FnExactHedForkSaid : Prop := fnExactHedForkRow.holds Try.pinned (OpenSpec.ofChange fnExactHedForkSpec)

/-- ITS FALSE NEIGHBOUR: 'it returns false'. Refute it at one input. -/
def fnExactHedForkWrong : ChangeSpec := { name := "fnExactHedFork", fn := fun _ => fun
  | [d1, d2] => { results := [.lit (.bool false)], args := [d1, d2] }
  | _ => none }
def FnExactHedForkWrongFalsely : Prop := fnExactHedForkRow.holds Try.pinned (OpenSpec.ofChange fnExactHedForkWrong)

/-- 'laws.FnExactMonSum': WHATEVER THE INPUT: true; the input reads as it did. -/
def fnExactMonSumSpec : ChangeSpec := { name := "fnExactMonSum", fn := fun _ => fun
  | [d] => { results := [.lit (.bool true)], args := [d] }
  | _ => none }
def fnExactMonSumRow : OpenClaim := { program := "ytpfnlnpjdjekaaa", sum := "7993a0e98609e28244fa3ce1042425f124e737dfbe2d0ed1907fac98b72c8d7a", func := "loop.example/stileway/laws.FnExactMonSum", spec := "fnExactMonSum", apart := false }
def FnExactMonSumSaid : Prop := fnExactMonSumRow.holds Try.pinned (OpenSpec.ofChange fnExactMonSumSpec)

/-- ITS FALSE NEIGHBOUR: 'it returns false'. Refute it at one input. -/
def fnExactMonSumWrong : ChangeSpec := { name := "fnExactMonSum", fn := fun _ => fun
  | [d] => { results := [.lit (.bool false)], args := [d] }
  | _ => none }
def FnExactMonSumWrongFalsely : Prop := fnExactMonSumRow.holds Try.pinned (OpenSpec.ofChange fnExactMonSumWrong)

/-- 'laws.FnExactReqOk': WHATEVER THE INPUT: true; the input reads as it did. -/
def fnExactReqOkSpec : ChangeSpec := { name := "fnExactReqOk", fn := fun _ => fun
  | [d] => { results := [.lit (.bool true)], args := [d] }
  | _ => none }
def fnExactReqOkRow : OpenClaim := { program := "ytpfnlnpjdjekaaa", sum := "7993a0e98609e28244fa3ce1042425f124e737dfbe2d0ed1907fac98b72c8d7a", func := "loop.example/stileway/laws.FnExactReqOk", spec := "fnExactReqOk", apart := false }
def FnExactReqOkSaid : Prop := fnExactReqOkRow.holds Try.pinned (OpenSpec.ofChange fnExactReqOkSpec)

/-- ITS FALSE NEIGHBOUR: 'it returns false'. Refute it at one input. -/
def fnExactReqOkWrong : ChangeSpec := { name := "fnExactReqOk", fn := fun _ => fun
  | [d] => { results := [.lit (.bool false)], args := [d] }
  | _ => none }
def FnExactReqOkWrongFalsely : Prop := fnExactReqOkRow.holds Try.pinned (OpenSpec.ofChange fnExactReqOkWrong)

/-- 'laws.FnExactMonOk': WHATEVER THE INPUT: true; the input reads as it did. -/
def fnExactMonOkSpec : ChangeSpec := { name := "fnExactMonOk", fn := fun _ => fun
  | [d] => { results := [.lit (.bool true)], args := [d] }
  | _ => none }
def fnExactMonOkRow : OpenClaim := { program := "ytpfnlnpjdjekaaa", sum := "7993a0e98609e28244fa3ce1042425f124e737dfbe2d0ed1907fac98b72c8d7a", func := "loop.example/stileway/laws.FnExactMonOk", spec := "fnExactMonOk", unfollowed := true, recurses := true, apart := false }
def FnExactMonOkSaid : Prop := fnExactMonOkRow.holds Try.pinned (OpenSpec.ofChange fnExactMonOkSpec)

/-- ITS FALSE NEIGHBOUR: 'it returns false'. Refute it at one input. -/
def fnExactMonOkWrong : ChangeSpec := { name := "fnExactMonOk", fn := fun _ => fun
  | [d] => { results := [.lit (.bool false)], args := [d] }
  | _ => none }
def FnExactMonOkWrongFalsely : Prop := fnExactMonOkRow.holds Try.pinned (OpenSpec.ofChange fnExactMonOkWrong)

/-- 'laws.FnMktRows': WHATEVER THE INPUT: true; the input reads as it did. -/
def fnMktRowsSpec : ChangeSpec := { name := "fnMktRows", fn := fun _ => fun
  | [d1, d2] => { results := [.lit (.bool true)], args := [d1, d2] }
  | _ => none }
def fnMktRowsRow : OpenClaim := { program := "ytpfnlnpjdjekaaa", sum := "7993a0e98609e28244fa3ce1042425f124e737dfbe2d0ed1907fac98b72c8d7a", func := "loop.example/stileway/laws.FnMktRows", spec := "fnMktRows", apart := false }
def FnMktRowsSaid : Prop := fnMktRowsRow.holds Try.pinned (OpenSpec.ofChange fnMktRowsSpec)

/-- ITS FALSE NEIGHBOUR: 'it returns false'. Refute it at one input. -/
def fnMktRowsWrong : ChangeSpec := { name := "fnMktRows", fn := fun _ => fun
  | [d1, d2] => { results := [.lit (.bool false)], args := [d1, d2] }
  | _ => none }
def FnMktRowsWrongFalsely : Prop := fnMktRowsRow.holds Try.pinned (OpenSpec.ofChange fnMktRowsWrong)

/-- 'laws.FnExactMonHas': WHATEVER THE INPUT: true; the input reads as it did. -/
def fnExactMonHasSpec : ChangeSpec := { name := "fnExactMonHas", fn := fun _ => fun
  | [d1, d2] => { results := [.lit (.bool true)], args := [d1, d2] }
  | _ => none }
def fnExactMonHasRow : OpenClaim := { program := "ytpfnlnpjdjekaaa", sum := "7993a0e98609e28244fa3ce1042425f124e737dfbe2d0ed1907fac98b72c8d7a", func := "loop.example/stileway/laws.FnExactMonHas", spec := "fnExactMonHas", unfollowed := true, recurses := true, apart := false }
def FnExactMonHasSaid : Prop := fnExactMonHasRow.holds Try.pinned (OpenSpec.ofChange fnExactMonHasSpec)

/-- ITS FALSE NEIGHBOUR: 'it returns false'. Refute it at one input. -/
def fnExactMonHasWrong : ChangeSpec := { name := "fnExactMonHas", fn := fun _ => fun
  | [d1, d2] => { results := [.lit (.bool false)], args := [d1, d2] }
  | _ => none }
def FnExactMonHasWrongFalsely : Prop := fnExactMonHasRow.holds Try.pinned (OpenSpec.ofChange fnExactMonHasWrong)

/-- 'laws.FnExactWatOk': WHATEVER THE INPUT: true; the input reads as it did. -/
def fnExactWatOkSpec : ChangeSpec := { name := "fnExactWatOk", fn := fun _ => fun
  | [d] => { results := [.lit (.bool true)], args := [d] }
  | _ => none }
def fnExactWatOkRow : OpenClaim := { program := "ytpfnlnpjdjekaaa", sum := "7993a0e98609e28244fa3ce1042425f124e737dfbe2d0ed1907fac98b72c8d7a", func := "loop.example/stileway/laws.FnExactWatOk", spec := "fnExactWatOk", apart := false }
def FnExactWatOkSaid : Prop := fnExactWatOkRow.holds Try.pinned (OpenSpec.ofChange fnExactWatOkSpec)

/-- ITS FALSE NEIGHBOUR: 'it returns false'. Refute it at one input. -/
def fnExactWatOkWrong : ChangeSpec := { name := "fnExactWatOk", fn := fun _ => fun
  | [d] => { results := [.lit (.bool false)], args := [d] }
  | _ => none }
def FnExactWatOkWrongFalsely : Prop := fnExactWatOkRow.holds Try.pinned (OpenSpec.ofChange fnExactWatOkWrong)

/-- 'laws.FnExactMonTurn': WHATEVER THE INPUT: true; the input reads as it did. -/
def fnExactMonTurnSpec : ChangeSpec := { name := "fnExactMonTurn", fn := fun _ => fun
  | [d1, d2, d3] => { results := [.lit (.bool true)], args := [d1, d2, d3] }
  | _ => none }
def fnExactMonTurnRow : OpenClaim := { program := "ytpfnlnpjdjekaaa", sum := "7993a0e98609e28244fa3ce1042425f124e737dfbe2d0ed1907fac98b72c8d7a", func := "loop.example/stileway/laws.FnExactMonTurn", spec := "fnExactMonTurn", unfollowed := true, recurses := true, apart := false }
def FnExactMonTurnSaid : Prop := fnExactMonTurnRow.holds Try.pinned (OpenSpec.ofChange fnExactMonTurnSpec)

/-- ITS FALSE NEIGHBOUR: 'it returns false'. Refute it at one input. -/
def fnExactMonTurnWrong : ChangeSpec := { name := "fnExactMonTurn", fn := fun _ => fun
  | [d1, d2, d3] => { results := [.lit (.bool false)], args := [d1, d2, d3] }
  | _ => none }
def FnExactMonTurnWrongFalsely : Prop := fnExactMonTurnRow.holds Try.pinned (OpenSpec.ofChange fnExactMonTurnWrong)

/-- 'laws.FnExactGatOk': WHATEVER THE INPUT: true; the input reads as it did. -/
def fnExactGatOkSpec : ChangeSpec := { name := "fnExactGatOk", fn := fun _ => fun
  | [d] => { results := [.lit (.bool true)], args := [d] }
  | _ => none }
def fnExactGatOkRow : OpenClaim := { program := "ytpfnlnpjdjekaaa", sum := "7993a0e98609e28244fa3ce1042425f124e737dfbe2d0ed1907fac98b72c8d7a", func := "loop.example/stileway/laws.FnExactGatOk", spec := "fnExactGatOk", apart := false }
def FnExactGatOkSaid : Prop := fnExactGatOkRow.holds Try.pinned (OpenSpec.ofChange fnExactGatOkSpec)

/-- ITS FALSE NEIGHBOUR: 'it returns false'. Refute it at one input. -/
def fnExactGatOkWrong : ChangeSpec := { name := "fnExactGatOk", fn := fun _ => fun
  | [d] => { results := [.lit (.bool false)], args := [d] }
  | _ => none }
def FnExactGatOkWrongFalsely : Prop := fnExactGatOkRow.holds Try.pinned (OpenSpec.ofChange fnExactGatOkWrong)

/-- 'laws.FnExactWatMeet': WHATEVER THE INPUT: true; the input reads as it did. -/
def fnExactWatMeetSpec : ChangeSpec := { name := "fnExactWatMeet", fn := fun _ => fun
  | [d1, d2] => { results := [.lit (.bool true)], args := [d1, d2] }
  | _ => none }
def fnExactWatMeetRow : OpenClaim := { program := "ytpfnlnpjdjekaaa", sum := "7993a0e98609e28244fa3ce1042425f124e737dfbe2d0ed1907fac98b72c8d7a", func := "loop.example/stileway/laws.FnExactWatMeet", spec := "fnExactWatMeet", apart := false }
def FnExactWatMeetSaid : Prop := fnExactWatMeetRow.holds Try.pinned (OpenSpec.ofChange fnExactWatMeetSpec)

/-- ITS FALSE NEIGHBOUR: 'it returns false'. Refute it at one input. -/
def fnExactWatMeetWrong : ChangeSpec := { name := "fnExactWatMeet", fn := fun _ => fun
  | [d1, d2] => { results := [.lit (.bool false)], args := [d1, d2] }
  | _ => none }
def FnExactWatMeetWrongFalsely : Prop := fnExactWatMeetRow.holds Try.pinned (OpenSpec.ofChange fnExactWatMeetWrong)

/-- 'laws.FnHedFollows': WHATEVER THE INPUT: true; the input reads as it did. -/
def fnHedFollowsSpec : ChangeSpec := { name := "fnHedFollows", fn := fun _ => fun
  | [d1, d2] => { results := [.lit (.bool true)], args := [d1, d2] }
  | _ => none }
def fnHedFollowsRow : OpenClaim := { program := "ytpfnlnpjdjekaaa", sum := "7993a0e98609e28244fa3ce1042425f124e737dfbe2d0ed1907fac98b72c8d7a", func := "loop.example/stileway/laws.FnHedFollows", spec := "fnHedFollows", unfollowed := true, recurses := true, apart := false }
def FnHedFollowsSaid : Prop := fnHedFollowsRow.holds Try.pinned (OpenSpec.ofChange fnHedFollowsSpec)

/-- ITS FALSE NEIGHBOUR: 'it returns false'. Refute it at one input. -/
def fnHedFollowsWrong : ChangeSpec := { name := "fnHedFollows", fn := fun _ => fun
  | [d1, d2] => { results := [.lit (.bool false)], args := [d1, d2] }
  | _ => none }
def FnHedFollowsWrongFalsely : Prop := fnHedFollowsRow.holds Try.pinned (OpenSpec.ofChange fnHedFollowsWrong)

/- THE SECOND FORM. 'bulk': how many values and letters a reading holds, each counted each time it is reached (what is shared counts as often as it is met; a slice's spare places count too). A statement '..UptoSaid' is the law's where the arguments, and the package variables that the reading takes, are together of bulk at most 1048576: NARROWER than '..Said'. Prove '..Said' where nothing that the law and all that it calls make is longer than what came in: it says more and counts as full. Else prove '..UptoSaid'. A law counts once. -/
mutual
def uptoBulk {H : Type} : DataW H → Nat
  | .lit (.string bytes) => bytes.length + 1
  | .lit _ => 1
  | .nil => 1
  | .ptr d => uptoBulk d + 1
  | .slice elems spare => uptoBulkAll elems + uptoBulkAll spare + 1
  | .agg parts => uptoBulkAll parts + 1
  | .iface _ d => uptoBulk d + 1
  | .map entries => uptoBulkEntries entries + 1
  | .held _ => 1
def uptoBulkAll {H : Type} : List (DataW H) → Nat
  | [] => 0
  | d :: r => uptoBulk d + uptoBulkAll r
def uptoBulkEntries {H : Type} : List (Lit × DataW H) → Nat
  | [] => 0
  | x :: r => uptoBulkEntry x + uptoBulkEntries r
def uptoBulkEntry {H : Type} : Lit × DataW H → Nat
  | (.string bytes, d) => bytes.length + uptoBulk d + 1
  | (_, d) => uptoBulk d + 1
 end
def uptoSmall : (H : Type) → List (DataW H) → Bool := fun _ ds => decide (uptoBulkAll ds ≤ 1048576)
def OpenSpec.upto (s : _root_.Go.ChangeSpec) : _root_.Go.OpenSpec := { _root_.Go.OpenSpec.ofChange s with cond := some uptoSmall }

/-- 'laws.FnExactHedOk', WHERE WHAT IT READS IS OF BULK AT MOST 1048576: true; the input reads as it did. -/
def fnExactHedOkUptoRow : OpenClaim := { program := "ytpfnlnpjdjekaaa", sum := "7993a0e98609e28244fa3ce1042425f124e737dfbe2d0ed1907fac98b72c8d7a", func := "loop.example/stileway/laws.FnExactHedOk", spec := "fnExactHedOk", apart := false, narrowed := true }
def FnExactHedOkUptoSaid : Prop := fnExactHedOkUptoRow.holds Try.pinned (OpenSpec.upto fnExactHedOkSpec)

/-- 'laws.FnExactHedFork', WHERE WHAT IT READS IS OF BULK AT MOST 1048576: true; the input reads as it did. -/
def fnExactHedForkUptoRow : OpenClaim := { program := "ytpfnlnpjdjekaaa", sum := "7993a0e98609e28244fa3ce1042425f124e737dfbe2d0ed1907fac98b72c8d7a", func := "loop.example/stileway/laws.FnExactHedFork", spec := "fnExactHedFork", apart := false, narrowed := true }
def FnExactHedForkUptoSaid : Prop := fnExactHedForkUptoRow.holds Try.pinned (OpenSpec.upto fnExactHedForkSpec)

/-- 'laws.FnExactMonSum', WHERE WHAT IT READS IS OF BULK AT MOST 1048576: true; the input reads as it did. -/
def fnExactMonSumUptoRow : OpenClaim := { program := "ytpfnlnpjdjekaaa", sum := "7993a0e98609e28244fa3ce1042425f124e737dfbe2d0ed1907fac98b72c8d7a", func := "loop.example/stileway/laws.FnExactMonSum", spec := "fnExactMonSum", apart := false, narrowed := true }
def FnExactMonSumUptoSaid : Prop := fnExactMonSumUptoRow.holds Try.pinned (OpenSpec.upto fnExactMonSumSpec)

/-- 'laws.FnExactReqOk', WHERE WHAT IT READS IS OF BULK AT MOST 1048576: true; the input reads as it did. -/
def fnExactReqOkUptoRow : OpenClaim := { program := "ytpfnlnpjdjekaaa", sum := "7993a0e98609e28244fa3ce1042425f124e737dfbe2d0ed1907fac98b72c8d7a", func := "loop.example/stileway/laws.FnExactReqOk", spec := "fnExactReqOk", apart := false, narrowed := true }
def FnExactReqOkUptoSaid : Prop := fnExactReqOkUptoRow.holds Try.pinned (OpenSpec.upto fnExactReqOkSpec)

/-- 'laws.FnExactMonOk', WHERE WHAT IT READS IS OF BULK AT MOST 1048576: true; the input reads as it did. -/
def fnExactMonOkUptoRow : OpenClaim := { program := "ytpfnlnpjdjekaaa", sum := "7993a0e98609e28244fa3ce1042425f124e737dfbe2d0ed1907fac98b72c8d7a", func := "loop.example/stileway/laws.FnExactMonOk", spec := "fnExactMonOk", unfollowed := true, recurses := true, apart := false, narrowed := true }
def FnExactMonOkUptoSaid : Prop := fnExactMonOkUptoRow.holds Try.pinned (OpenSpec.upto fnExactMonOkSpec)

/-- 'laws.FnMktRows', WHERE WHAT IT READS IS OF BULK AT MOST 1048576: true; the input reads as it did. -/
def fnMktRowsUptoRow : OpenClaim := { program := "ytpfnlnpjdjekaaa", sum := "7993a0e98609e28244fa3ce1042425f124e737dfbe2d0ed1907fac98b72c8d7a", func := "loop.example/stileway/laws.FnMktRows", spec := "fnMktRows", apart := false, narrowed := true }
def FnMktRowsUptoSaid : Prop := fnMktRowsUptoRow.holds Try.pinned (OpenSpec.upto fnMktRowsSpec)

/-- 'laws.FnExactMonHas', WHERE WHAT IT READS IS OF BULK AT MOST 1048576: true; the input reads as it did. -/
def fnExactMonHasUptoRow : OpenClaim := { program := "ytpfnlnpjdjekaaa", sum := "7993a0e98609e28244fa3ce1042425f124e737dfbe2d0ed1907fac98b72c8d7a", func := "loop.example/stileway/laws.FnExactMonHas", spec := "fnExactMonHas", unfollowed := true, recurses := true, apart := false, narrowed := true }
def FnExactMonHasUptoSaid : Prop := fnExactMonHasUptoRow.holds Try.pinned (OpenSpec.upto fnExactMonHasSpec)

/-- 'laws.FnExactWatOk', WHERE WHAT IT READS IS OF BULK AT MOST 1048576: true; the input reads as it did. -/
def fnExactWatOkUptoRow : OpenClaim := { program := "ytpfnlnpjdjekaaa", sum := "7993a0e98609e28244fa3ce1042425f124e737dfbe2d0ed1907fac98b72c8d7a", func := "loop.example/stileway/laws.FnExactWatOk", spec := "fnExactWatOk", apart := false, narrowed := true }
def FnExactWatOkUptoSaid : Prop := fnExactWatOkUptoRow.holds Try.pinned (OpenSpec.upto fnExactWatOkSpec)

/-- 'laws.FnExactMonTurn', WHERE WHAT IT READS IS OF BULK AT MOST 1048576: true; the input reads as it did. -/
def fnExactMonTurnUptoRow : OpenClaim := { program := "ytpfnlnpjdjekaaa", sum := "7993a0e98609e28244fa3ce1042425f124e737dfbe2d0ed1907fac98b72c8d7a", func := "loop.example/stileway/laws.FnExactMonTurn", spec := "fnExactMonTurn", unfollowed := true, recurses := true, apart := false, narrowed := true }
def FnExactMonTurnUptoSaid : Prop := fnExactMonTurnUptoRow.holds Try.pinned (OpenSpec.upto fnExactMonTurnSpec)

/-- 'laws.FnExactGatOk', WHERE WHAT IT READS IS OF BULK AT MOST 1048576: true; the input reads as it did. -/
def fnExactGatOkUptoRow : OpenClaim := { program := "ytpfnlnpjdjekaaa", sum := "7993a0e98609e28244fa3ce1042425f124e737dfbe2d0ed1907fac98b72c8d7a", func := "loop.example/stileway/laws.FnExactGatOk", spec := "fnExactGatOk", apart := false, narrowed := true }
def FnExactGatOkUptoSaid : Prop := fnExactGatOkUptoRow.holds Try.pinned (OpenSpec.upto fnExactGatOkSpec)

/-- 'laws.FnExactWatMeet', WHERE WHAT IT READS IS OF BULK AT MOST 1048576: true; the input reads as it did. -/
def fnExactWatMeetUptoRow : OpenClaim := { program := "ytpfnlnpjdjekaaa", sum := "7993a0e98609e28244fa3ce1042425f124e737dfbe2d0ed1907fac98b72c8d7a", func := "loop.example/stileway/laws.FnExactWatMeet", spec := "fnExactWatMeet", apart := false, narrowed := true }
def FnExactWatMeetUptoSaid : Prop := fnExactWatMeetUptoRow.holds Try.pinned (OpenSpec.upto fnExactWatMeetSpec)

/-- 'laws.FnHedFollows', WHERE WHAT IT READS IS OF BULK AT MOST 1048576: true; the input reads as it did. -/
def fnHedFollowsUptoRow : OpenClaim := { program := "ytpfnlnpjdjekaaa", sum := "7993a0e98609e28244fa3ce1042425f124e737dfbe2d0ed1907fac98b72c8d7a", func := "loop.example/stileway/laws.FnHedFollows", spec := "fnHedFollows", unfollowed := true, recurses := true, apart := false, narrowed := true }
def FnHedFollowsUptoSaid : Prop := fnHedFollowsUptoRow.holds Try.pinned (OpenSpec.upto fnHedFollowsSpec)

end Rows
end Go.Proofs.Ytpfnlnpjdjekaaa
