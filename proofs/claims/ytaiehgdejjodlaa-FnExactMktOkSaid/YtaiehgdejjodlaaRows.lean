/-
  No cell of these rows narrows 'for every input' (looked for: loops, veiled, ifaces, maps, wideKeys, modest, calm, conditions, laid).
  DERIVED. THE GIVEN ROWS OF THIS SEAT. 12 by the template 'for every input the law returns true; each argument reads behind the call as it read before'; 0 by the template 'total and deterministic' (their statements: YtaiehgdejjodlaaTotals.lean).
  GIVEN WITH THE SEED: the statements are not yours to turn. If you find one false, say at which input.
  Laid BY PROGRAM, IN A SANDBOX (cutbox-rows.mjs): the forced cells as the released guide's own fill.sh prints them over the translation b529c00b58129e84… (all of the seat's roots in one cut). By AI agents, Wed Nov 11 2026. No macro, syntax, notation, axiom, sorry.
-/
import Derived.Test.YtaiehgdejjodlaaChecked
import GoSem.Claim
import GoSem.ClaimJoined
import GoSem.ClaimMapViews
import Derived.JoinedTies
import Derived.KernelRfl
namespace Go.Proofs.Ytaiehgdejjodlaa
/- THE CELL 'sum', in the pinned program and in every row, IS THE sha256 OF THE DUMP (.gsa) THAT YtaiehgdejjodlaaProg.lean LOADS. Nothing in Lean hashes anything: it is a label: what it is worth is what the hold of that sum in a sandbox is worth. -/
noncomputable def Try.pinned : Pinned := { name := "ytaiehgdejjodlaa", sum := "b529c00b58129e84b6dc5307429d5a03f18dc6eb5fc93045e698514b0b959ede", checked := Try.checked }
namespace Rows
def none {H : Type} : Left H := { results := [], args := [] }

/-- 'laws.FnExactGatTimes': WHATEVER THE INPUT: true; the input reads as it did. -/
def fnExactGatTimesSpec : ChangeSpec := { name := "fnExactGatTimes", fn := fun _ => fun
  | [d1, d2] => { results := [.lit (.bool true)], args := [d1, d2] }
  | _ => none }
def fnExactGatTimesRow : OpenClaim := { program := "ytaiehgdejjodlaa", sum := "b529c00b58129e84b6dc5307429d5a03f18dc6eb5fc93045e698514b0b959ede", func := "loop.example/stileway/laws.FnExactGatTimes", spec := "fnExactGatTimes", apart := false }
def FnExactGatTimesSaid : Prop := fnExactGatTimesRow.holds Try.pinned (OpenSpec.ofChange fnExactGatTimesSpec)

/-- ITS FALSE NEIGHBOUR: 'it returns false'. Refute it at one input. -/
def fnExactGatTimesWrong : ChangeSpec := { name := "fnExactGatTimes", fn := fun _ => fun
  | [d1, d2] => { results := [.lit (.bool false)], args := [d1, d2] }
  | _ => none }
def FnExactGatTimesWrongFalsely : Prop := fnExactGatTimesRow.holds Try.pinned (OpenSpec.ofChange fnExactGatTimesWrong)

/-- 'laws.FnExactWatSee': WHATEVER THE INPUT: true; the input reads as it did. -/
def fnExactWatSeeSpec : ChangeSpec := { name := "fnExactWatSee", fn := fun _ => fun
  | [d1, d2] => { results := [.lit (.bool true)], args := [d1, d2] }
  | _ => none }
def fnExactWatSeeRow : OpenClaim := { program := "ytaiehgdejjodlaa", sum := "b529c00b58129e84b6dc5307429d5a03f18dc6eb5fc93045e698514b0b959ede", func := "loop.example/stileway/laws.FnExactWatSee", spec := "fnExactWatSee", inPlace := ["slices.overlaps[loop.example/stileway/impl.HedHead]"], apart := false }
def FnExactWatSeeSaid : Prop := fnExactWatSeeRow.holds Try.pinned (OpenSpec.ofChange fnExactWatSeeSpec)

/-- ITS FALSE NEIGHBOUR: 'it returns false'. Refute it at one input. -/
def fnExactWatSeeWrong : ChangeSpec := { name := "fnExactWatSee", fn := fun _ => fun
  | [d1, d2] => { results := [.lit (.bool false)], args := [d1, d2] }
  | _ => none }
def FnExactWatSeeWrongFalsely : Prop := fnExactWatSeeRow.holds Try.pinned (OpenSpec.ofChange fnExactWatSeeWrong)

/-- 'laws.FnExactOwnProof': WHATEVER THE INPUT: true; the input reads as it did. -/
def fnExactOwnProofSpec : ChangeSpec := { name := "fnExactOwnProof", fn := fun _ => fun
  | [d1, d2] => { results := [.lit (.bool true)], args := [d1, d2] }
  | _ => none }
def fnExactOwnProofRow : OpenClaim := { program := "ytaiehgdejjodlaa", sum := "b529c00b58129e84b6dc5307429d5a03f18dc6eb5fc93045e698514b0b959ede", func := "loop.example/stileway/laws.FnExactOwnProof", spec := "fnExactOwnProof", unfollowed := true, recurses := true, apart := false }
def FnExactOwnProofSaid : Prop := fnExactOwnProofRow.holds Try.pinned (OpenSpec.ofChange fnExactOwnProofSpec)

/-- ITS FALSE NEIGHBOUR: 'it returns false'. Refute it at one input. -/
def fnExactOwnProofWrong : ChangeSpec := { name := "fnExactOwnProof", fn := fun _ => fun
  | [d1, d2] => { results := [.lit (.bool false)], args := [d1, d2] }
  | _ => none }
def FnExactOwnProofWrongFalsely : Prop := fnExactOwnProofRow.holds Try.pinned (OpenSpec.ofChange fnExactOwnProofWrong)

/-- 'laws.FnExactOwnFold': WHATEVER THE INPUT: true; the input reads as it did. -/
def fnExactOwnFoldSpec : ChangeSpec := { name := "fnExactOwnFold", fn := fun _ => fun
  | [d] => { results := [.lit (.bool true)], args := [d] }
  | _ => none }
def fnExactOwnFoldRow : OpenClaim := { program := "ytaiehgdejjodlaa", sum := "b529c00b58129e84b6dc5307429d5a03f18dc6eb5fc93045e698514b0b959ede", func := "loop.example/stileway/laws.FnExactOwnFold", spec := "fnExactOwnFold", apart := false }
def FnExactOwnFoldSaid : Prop := fnExactOwnFoldRow.holds Try.pinned (OpenSpec.ofChange fnExactOwnFoldSpec)

/-- ITS FALSE NEIGHBOUR: 'it returns false'. Refute it at one input. -/
def fnExactOwnFoldWrong : ChangeSpec := { name := "fnExactOwnFold", fn := fun _ => fun
  | [d] => { results := [.lit (.bool false)], args := [d] }
  | _ => none }
def FnExactOwnFoldWrongFalsely : Prop := fnExactOwnFoldRow.holds Try.pinned (OpenSpec.ofChange fnExactOwnFoldWrong)

/-- 'laws.FnExactMktNew': WHATEVER THE INPUT: true; the input reads as it did. -/
def fnExactMktNewSpec : ChangeSpec := { name := "fnExactMktNew", fn := fun _ => fun
  | [d] => { results := [.lit (.bool true)], args := [d] }
  | _ => none }
def fnExactMktNewRow : OpenClaim := { program := "ytaiehgdejjodlaa", sum := "b529c00b58129e84b6dc5307429d5a03f18dc6eb5fc93045e698514b0b959ede", func := "loop.example/stileway/laws.FnExactMktNew", spec := "fnExactMktNew", unfollowed := true, recurses := true, apart := false }
def FnExactMktNewSaid : Prop := fnExactMktNewRow.holds Try.pinned (OpenSpec.ofChange fnExactMktNewSpec)

/-- ITS FALSE NEIGHBOUR: 'it returns false'. Refute it at one input. -/
def fnExactMktNewWrong : ChangeSpec := { name := "fnExactMktNew", fn := fun _ => fun
  | [d] => { results := [.lit (.bool false)], args := [d] }
  | _ => none }
def FnExactMktNewWrongFalsely : Prop := fnExactMktNewRow.holds Try.pinned (OpenSpec.ofChange fnExactMktNewWrong)

/-- 'laws.FnExactHedOf': WHATEVER THE INPUT: true; the input reads as it did. -/
def fnExactHedOfSpec : ChangeSpec := { name := "fnExactHedOf", fn := fun _ => fun
  | [d] => { results := [.lit (.bool true)], args := [d] }
  | _ => none }
def fnExactHedOfRow : OpenClaim := { program := "ytaiehgdejjodlaa", sum := "b529c00b58129e84b6dc5307429d5a03f18dc6eb5fc93045e698514b0b959ede", func := "loop.example/stileway/laws.FnExactHedOf", spec := "fnExactHedOf", unfollowed := true, recurses := true, apart := false }
def FnExactHedOfSaid : Prop := fnExactHedOfRow.holds Try.pinned (OpenSpec.ofChange fnExactHedOfSpec)

/-- ITS FALSE NEIGHBOUR: 'it returns false'. Refute it at one input. -/
def fnExactHedOfWrong : ChangeSpec := { name := "fnExactHedOf", fn := fun _ => fun
  | [d] => { results := [.lit (.bool false)], args := [d] }
  | _ => none }
def FnExactHedOfWrongFalsely : Prop := fnExactHedOfRow.holds Try.pinned (OpenSpec.ofChange fnExactHedOfWrong)

/-- 'laws.FnExactGatNew': WHATEVER THE INPUT: true; the input reads as it did. -/
def fnExactGatNewSpec : ChangeSpec := { name := "fnExactGatNew", fn := fun _ => fun
  | [] => { results := [.lit (.bool true)], args := [] }
  | _ => none }
def fnExactGatNewRow : OpenClaim := { program := "ytaiehgdejjodlaa", sum := "b529c00b58129e84b6dc5307429d5a03f18dc6eb5fc93045e698514b0b959ede", func := "loop.example/stileway/laws.FnExactGatNew", spec := "fnExactGatNew", unfollowed := true, recurses := true, apart := false }
def FnExactGatNewSaid : Prop := fnExactGatNewRow.holds Try.pinned (OpenSpec.ofChange fnExactGatNewSpec)

/-- ITS FALSE NEIGHBOUR: 'it returns false'. Refute it at one input. -/
def fnExactGatNewWrong : ChangeSpec := { name := "fnExactGatNew", fn := fun _ => fun
  | [] => { results := [.lit (.bool false)], args := [] }
  | _ => none }
def FnExactGatNewWrongFalsely : Prop := fnExactGatNewRow.holds Try.pinned (OpenSpec.ofChange fnExactGatNewWrong)

/-- 'laws.FnExactHedAt': WHATEVER THE INPUT: true; the input reads as it did. -/
def fnExactHedAtSpec : ChangeSpec := { name := "fnExactHedAt", fn := fun _ => fun
  | [d1, d2] => { results := [.lit (.bool true)], args := [d1, d2] }
  | _ => none }
def fnExactHedAtRow : OpenClaim := { program := "ytaiehgdejjodlaa", sum := "b529c00b58129e84b6dc5307429d5a03f18dc6eb5fc93045e698514b0b959ede", func := "loop.example/stileway/laws.FnExactHedAt", spec := "fnExactHedAt", unfollowed := true, recurses := true, apart := false }
def FnExactHedAtSaid : Prop := fnExactHedAtRow.holds Try.pinned (OpenSpec.ofChange fnExactHedAtSpec)

/-- ITS FALSE NEIGHBOUR: 'it returns false'. Refute it at one input. -/
def fnExactHedAtWrong : ChangeSpec := { name := "fnExactHedAt", fn := fun _ => fun
  | [d1, d2] => { results := [.lit (.bool false)], args := [d1, d2] }
  | _ => none }
def FnExactHedAtWrongFalsely : Prop := fnExactHedAtRow.holds Try.pinned (OpenSpec.ofChange fnExactHedAtWrong)

/-- 'laws.FnExactMktRows': WHATEVER THE INPUT: true; the input reads as it did. -/
def fnExactMktRowsSpec : ChangeSpec := { name := "fnExactMktRows", fn := fun _ => fun
  | [d] => { results := [.lit (.bool true)], args := [d] }
  | _ => none }
def fnExactMktRowsRow : OpenClaim := { program := "ytaiehgdejjodlaa", sum := "b529c00b58129e84b6dc5307429d5a03f18dc6eb5fc93045e698514b0b959ede", func := "loop.example/stileway/laws.FnExactMktRows", spec := "fnExactMktRows", apart := false }
def FnExactMktRowsSaid : Prop := fnExactMktRowsRow.holds Try.pinned (OpenSpec.ofChange fnExactMktRowsSpec)

/-- ITS FALSE NEIGHBOUR: 'it returns false'. Refute it at one input. -/
def fnExactMktRowsWrong : ChangeSpec := { name := "fnExactMktRows", fn := fun _ => fun
  | [d] => { results := [.lit (.bool false)], args := [d] }
  | _ => none }
def FnExactMktRowsWrongFalsely : Prop := fnExactMktRowsRow.holds Try.pinned (OpenSpec.ofChange fnExactMktRowsWrong)

/-- 'laws.FnExactMktOk': WHATEVER THE INPUT: true; the input reads as it did. -/
def fnExactMktOkSpec : ChangeSpec := { name := "fnExactMktOk", fn := fun _ => fun
  | [d] => { results := [.lit (.bool true)], args := [d] }
  | _ => none }
def fnExactMktOkRow : OpenClaim := { program := "ytaiehgdejjodlaa", sum := "b529c00b58129e84b6dc5307429d5a03f18dc6eb5fc93045e698514b0b959ede", func := "loop.example/stileway/laws.FnExactMktOk", spec := "fnExactMktOk", unfollowed := true, recurses := true, apart := false }
def FnExactMktOkSaid : Prop := fnExactMktOkRow.holds Try.pinned (OpenSpec.ofChange fnExactMktOkSpec)

/-- ITS FALSE NEIGHBOUR: 'it returns false'. Refute it at one input. -/
def fnExactMktOkWrong : ChangeSpec := { name := "fnExactMktOk", fn := fun _ => fun
  | [d] => { results := [.lit (.bool false)], args := [d] }
  | _ => none }
def FnExactMktOkWrongFalsely : Prop := fnExactMktOkRow.holds Try.pinned (OpenSpec.ofChange fnExactMktOkWrong)

/-- 'laws.FnExactWatAll': WHATEVER THE INPUT: true; the input reads as it did. -/
def fnExactWatAllSpec : ChangeSpec := { name := "fnExactWatAll", fn := fun _ => fun
  | [d1, d2] => { results := [.lit (.bool true)], args := [d1, d2] }
  | _ => none }
def fnExactWatAllRow : OpenClaim := { program := "ytaiehgdejjodlaa", sum := "b529c00b58129e84b6dc5307429d5a03f18dc6eb5fc93045e698514b0b959ede", func := "loop.example/stileway/laws.FnExactWatAll", spec := "fnExactWatAll", unfollowed := true, recurses := true, apart := false }
def FnExactWatAllSaid : Prop := fnExactWatAllRow.holds Try.pinned (OpenSpec.ofChange fnExactWatAllSpec)

/-- ITS FALSE NEIGHBOUR: 'it returns false'. Refute it at one input. -/
def fnExactWatAllWrong : ChangeSpec := { name := "fnExactWatAll", fn := fun _ => fun
  | [d1, d2] => { results := [.lit (.bool false)], args := [d1, d2] }
  | _ => none }
def FnExactWatAllWrongFalsely : Prop := fnExactWatAllRow.holds Try.pinned (OpenSpec.ofChange fnExactWatAllWrong)

/-- 'laws.FnExactGatThrough': WHATEVER THE INPUT: true; the input reads as it did. -/
def fnExactGatThroughSpec : ChangeSpec := { name := "fnExactGatThrough", fn := fun _ => fun
  | [d] => { results := [.lit (.bool true)], args := [d] }
  | _ => none }
def fnExactGatThroughRow : OpenClaim := { program := "ytaiehgdejjodlaa", sum := "b529c00b58129e84b6dc5307429d5a03f18dc6eb5fc93045e698514b0b959ede", func := "loop.example/stileway/laws.FnExactGatThrough", spec := "fnExactGatThrough", recurses := true, apart := false }
def FnExactGatThroughSaid : Prop := fnExactGatThroughRow.holds Try.pinned (OpenSpec.ofChange fnExactGatThroughSpec)

/-- ITS FALSE NEIGHBOUR: 'it returns false'. Refute it at one input. -/
def fnExactGatThroughWrong : ChangeSpec := { name := "fnExactGatThrough", fn := fun _ => fun
  | [d] => { results := [.lit (.bool false)], args := [d] }
  | _ => none }
def FnExactGatThroughWrongFalsely : Prop := fnExactGatThroughRow.holds Try.pinned (OpenSpec.ofChange fnExactGatThroughWrong)

/- THE SECOND FORM. 'bulk': how many values and letters a reading holds, each counted each time it is reached (what is shared counts as often as it is met; a slice's spare places count too). A statement '..UptoSaid' is the law's where the arguments, and the package variables that the reading takes, are together of bulk at most 1048576: NARROWER than '..Said'. Prove '..Said' where nothing that the law and all that it calls make is longer than what came in: it says more and counts as full. Else prove '..UptoSaid'. A law counts once. -/
mutual
def uptoBulk {H : Type} : DataW H → Nat
  | .lit (.string bytes) => bytes.length + 1
  | .lit _ => 1
  | .nil => 1
  | .ptr d => uptoBulk d + 1
  | .slice elems spare => uptoBulkAll elems + uptoBulkAll spare + 1
  | .agg parts => uptoBulkAll parts + 1
  | .iface _ d => uptoBulk d + 1
  | .map entries => uptoBulkEntries entries + 1
  | .held _ => 1
def uptoBulkAll {H : Type} : List (DataW H) → Nat
  | [] => 0
  | d :: r => uptoBulk d + uptoBulkAll r
def uptoBulkEntries {H : Type} : List (Lit × DataW H) → Nat
  | [] => 0
  | x :: r => uptoBulkEntry x + uptoBulkEntries r
def uptoBulkEntry {H : Type} : Lit × DataW H → Nat
  | (.string bytes, d) => bytes.length + uptoBulk d + 1
  | (_, d) => uptoBulk d + 1
 end
def uptoSmall : (H : Type) → List (DataW H) → Bool := fun _ ds => decide (uptoBulkAll ds ≤ 1048576)
def OpenSpec.upto (s : _root_.Go.ChangeSpec) : _root_.Go.OpenSpec := { _root_.Go.OpenSpec.ofChange s with cond := some uptoSmall }

/-- 'laws.FnExactGatTimes', WHERE WHAT IT READS IS OF BULK AT MOST 1048576: true; the input reads as it did. -/
def fnExactGatTimesUptoRow : OpenClaim := { program := "ytaiehgdejjodlaa", sum := "b529c00b58129e84b6dc5307429d5a03f18dc6eb5fc93045e698514b0b959ede", func := "loop.example/stileway/laws.FnExactGatTimes", spec := "fnExactGatTimes", apart := false, narrowed := true }
def FnExactGatTimesUptoSaid : Prop := fnExactGatTimesUptoRow.holds Try.pinned (OpenSpec.upto fnExactGatTimesSpec)

/-- 'laws.FnExactWatSee', WHERE WHAT IT READS IS OF BULK AT MOST 1048576: true; the input reads as it did. -/
def fnExactWatSeeUptoRow : OpenClaim := { program := "ytaiehgdejjodlaa", sum := "b529c00b58129e84b6dc5307429d5a03f18dc6eb5fc93045e698514b0b959ede", func := "loop.example/stileway/laws.FnExactWatSee", spec := "fnExactWatSee", inPlace := ["slices.overlaps[loop.example/stileway/impl.HedHead]"], apart := false, narrowed := true }
def FnExactWatSeeUptoSaid : Prop := fnExactWatSeeUptoRow.holds Try.pinned (OpenSpec.upto fnExactWatSeeSpec)

/-- 'laws.FnExactOwnProof', WHERE WHAT IT READS IS OF BULK AT MOST 1048576: true; the input reads as it did. -/
def fnExactOwnProofUptoRow : OpenClaim := { program := "ytaiehgdejjodlaa", sum := "b529c00b58129e84b6dc5307429d5a03f18dc6eb5fc93045e698514b0b959ede", func := "loop.example/stileway/laws.FnExactOwnProof", spec := "fnExactOwnProof", unfollowed := true, recurses := true, apart := false, narrowed := true }
def FnExactOwnProofUptoSaid : Prop := fnExactOwnProofUptoRow.holds Try.pinned (OpenSpec.upto fnExactOwnProofSpec)

/-- 'laws.FnExactOwnFold', WHERE WHAT IT READS IS OF BULK AT MOST 1048576: true; the input reads as it did. -/
def fnExactOwnFoldUptoRow : OpenClaim := { program := "ytaiehgdejjodlaa", sum := "b529c00b58129e84b6dc5307429d5a03f18dc6eb5fc93045e698514b0b959ede", func := "loop.example/stileway/laws.FnExactOwnFold", spec := "fnExactOwnFold", apart := false, narrowed := true }
def FnExactOwnFoldUptoSaid : Prop := fnExactOwnFoldUptoRow.holds Try.pinned (OpenSpec.upto fnExactOwnFoldSpec)

/-- 'laws.FnExactMktNew', WHERE WHAT IT READS IS OF BULK AT MOST 1048576: true; the input reads as it did. -/
def fnExactMktNewUptoRow : OpenClaim := { program := "ytaiehgdejjodlaa", sum := "b529c00b58129e84b6dc5307429d5a03f18dc6eb5fc93045e698514b0b959ede", func := "loop.example/stileway/laws.FnExactMktNew", spec := "fnExactMktNew", unfollowed := true, recurses := true, apart := false, narrowed := true }
def FnExactMktNewUptoSaid : Prop := fnExactMktNewUptoRow.holds Try.pinned (OpenSpec.upto fnExactMktNewSpec)

/-- 'laws.FnExactHedOf', WHERE WHAT IT READS IS OF BULK AT MOST 1048576: true; the input reads as it did. -/
def fnExactHedOfUptoRow : OpenClaim := { program := "ytaiehgdejjodlaa", sum := "b529c00b58129e84b6dc5307429d5a03f18dc6eb5fc93045e698514b0b959ede", func := "loop.example/stileway/laws.FnExactHedOf", spec := "fnExactHedOf", unfollowed := true, recurses := true, apart := false, narrowed := true }
def FnExactHedOfUptoSaid : Prop := fnExactHedOfUptoRow.holds Try.pinned (OpenSpec.upto fnExactHedOfSpec)

/-- 'laws.FnExactGatNew', WHERE WHAT IT READS IS OF BULK AT MOST 1048576: true; the input reads as it did. -/
def fnExactGatNewUptoRow : OpenClaim := { program := "ytaiehgdejjodlaa", sum := "b529c00b58129e84b6dc5307429d5a03f18dc6eb5fc93045e698514b0b959ede", func := "loop.example/stileway/laws.FnExactGatNew", spec := "fnExactGatNew", unfollowed := true, recurses := true, apart := false, narrowed := true }
def FnExactGatNewUptoSaid : Prop := fnExactGatNewUptoRow.holds Try.pinned (OpenSpec.upto fnExactGatNewSpec)

/-- 'laws.FnExactHedAt', WHERE WHAT IT READS IS OF BULK AT MOST 1048576: true; the input reads as it did. -/
def fnExactHedAtUptoRow : OpenClaim := { program := "ytaiehgdejjodlaa", sum := "b529c00b58129e84b6dc5307429d5a03f18dc6eb5fc93045e698514b0b959ede", func := "loop.example/stileway/laws.FnExactHedAt", spec := "fnExactHedAt", unfollowed := true, recurses := true, apart := false, narrowed := true }
def FnExactHedAtUptoSaid : Prop := fnExactHedAtUptoRow.holds Try.pinned (OpenSpec.upto fnExactHedAtSpec)

/-- 'laws.FnExactMktRows', WHERE WHAT IT READS IS OF BULK AT MOST 1048576: true; the input reads as it did. -/
def fnExactMktRowsUptoRow : OpenClaim := { program := "ytaiehgdejjodlaa", sum := "b529c00b58129e84b6dc5307429d5a03f18dc6eb5fc93045e698514b0b959ede", func := "loop.example/stileway/laws.FnExactMktRows", spec := "fnExactMktRows", apart := false, narrowed := true }
def FnExactMktRowsUptoSaid : Prop := fnExactMktRowsUptoRow.holds Try.pinned (OpenSpec.upto fnExactMktRowsSpec)

/-- 'laws.FnExactMktOk', WHERE WHAT IT READS IS OF BULK AT MOST 1048576: true; the input reads as it did. -/
def fnExactMktOkUptoRow : OpenClaim := { program := "ytaiehgdejjodlaa", sum := "b529c00b58129e84b6dc5307429d5a03f18dc6eb5fc93045e698514b0b959ede", func := "loop.example/stileway/laws.FnExactMktOk", spec := "fnExactMktOk", unfollowed := true, recurses := true, apart := false, narrowed := true }
def FnExactMktOkUptoSaid : Prop := fnExactMktOkUptoRow.holds Try.pinned (OpenSpec.upto fnExactMktOkSpec)

/-- 'laws.FnExactWatAll', WHERE WHAT IT READS IS OF BULK AT MOST 1048576: true; the input reads as it did. -/
def fnExactWatAllUptoRow : OpenClaim := { program := "ytaiehgdejjodlaa", sum := "b529c00b58129e84b6dc5307429d5a03f18dc6eb5fc93045e698514b0b959ede", func := "loop.example/stileway/laws.FnExactWatAll", spec := "fnExactWatAll", unfollowed := true, recurses := true, apart := false, narrowed := true }
def FnExactWatAllUptoSaid : Prop := fnExactWatAllUptoRow.holds Try.pinned (OpenSpec.upto fnExactWatAllSpec)

/-- 'laws.FnExactGatThrough', WHERE WHAT IT READS IS OF BULK AT MOST 1048576: true; the input reads as it did. -/
def fnExactGatThroughUptoRow : OpenClaim := { program := "ytaiehgdejjodlaa", sum := "b529c00b58129e84b6dc5307429d5a03f18dc6eb5fc93045e698514b0b959ede", func := "loop.example/stileway/laws.FnExactGatThrough", spec := "fnExactGatThrough", recurses := true, apart := false, narrowed := true }
def FnExactGatThroughUptoSaid : Prop := fnExactGatThroughUptoRow.holds Try.pinned (OpenSpec.upto fnExactGatThroughSpec)

end Rows
end Go.Proofs.Ytaiehgdejjodlaa
