/-
  No cell of these rows narrows 'for every input' (looked for: loops, veiled, ifaces, maps, wideKeys, modest, calm, conditions, laid).
  DERIVED. THE GIVEN ROWS OF THIS SEAT. 12 by the template 'for every input the law returns true; each argument reads behind the call as it read before'; 0 by the template 'total and deterministic' (their statements: YtihphbicoliioaaTotals.lean).
  GIVEN WITH THE SEED: the statements are not yours to turn. If you find one false, say at which input.
  Laid BY PROGRAM, IN A SANDBOX (cutbox-rows.mjs): the forced cells as the released guide's own fill.sh prints them over the translation afa3a206da396e4d… (all of the seat's roots in one cut). By AI agents, Wed Nov 11 2026. No macro, syntax, notation, axiom, sorry.
-/
import Derived.Test.YtihphbicoliioaaChecked
import GoSem.Claim
import GoSem.ClaimJoined
import GoSem.ClaimMapViews
import Derived.JoinedTies
import Derived.KernelRfl
namespace Go.Proofs.Ytihphbicoliioaa
/- THE CELL 'sum', in the pinned program and in every row, IS THE sha256 OF THE DUMP (.gsa) THAT YtihphbicoliioaaProg.lean LOADS. Nothing in Lean hashes anything: it is a label: what it is worth is what the hold of that sum in a sandbox is worth. -/
noncomputable def Try.pinned : Pinned := { name := "ytihphbicoliioaa", sum := "afa3a206da396e4dc3c4803730b02519bba4a5a859074b0aaf4f14a7c617695a", checked := Try.checked }
namespace Rows
def none {H : Type} : Left H := { results := [], args := [] }

/-- 'laws.FnOwnOnce': WHATEVER THE INPUT: true; the input reads as it did. -/
def fnOwnOnceSpec : ChangeSpec := { name := "fnOwnOnce", fn := fun _ => fun
  | [d] => { results := [.lit (.bool true)], args := [d] }
  | _ => none }
def fnOwnOnceRow : OpenClaim := { program := "ytihphbicoliioaa", sum := "afa3a206da396e4dc3c4803730b02519bba4a5a859074b0aaf4f14a7c617695a", func := "loop.example/stileway/laws.FnOwnOnce", spec := "fnOwnOnce", apart := false }
def FnOwnOnceSaid : Prop := fnOwnOnceRow.holds Try.pinned (OpenSpec.ofChange fnOwnOnceSpec)

/-- ITS FALSE NEIGHBOUR: 'it returns false'. Refute it at one input. -/
def fnOwnOnceWrong : ChangeSpec := { name := "fnOwnOnce", fn := fun _ => fun
  | [d] => { results := [.lit (.bool false)], args := [d] }
  | _ => none }
def FnOwnOnceWrongFalsely : Prop := fnOwnOnceRow.holds Try.pinned (OpenSpec.ofChange fnOwnOnceWrong)

/-- 'laws.FnOwnPut': WHATEVER THE INPUT: true; the input reads as it did. -/
def fnOwnPutSpec : ChangeSpec := { name := "fnOwnPut", fn := fun _ => fun
  | [d] => { results := [.lit (.bool true)], args := [d] }
  | _ => none }
def fnOwnPutRow : OpenClaim := { program := "ytihphbicoliioaa", sum := "afa3a206da396e4dc3c4803730b02519bba4a5a859074b0aaf4f14a7c617695a", func := "loop.example/stileway/laws.FnOwnPut", spec := "fnOwnPut", apart := false }
def FnOwnPutSaid : Prop := fnOwnPutRow.holds Try.pinned (OpenSpec.ofChange fnOwnPutSpec)

/-- ITS FALSE NEIGHBOUR: 'it returns false'. Refute it at one input. -/
def fnOwnPutWrong : ChangeSpec := { name := "fnOwnPut", fn := fun _ => fun
  | [d] => { results := [.lit (.bool false)], args := [d] }
  | _ => none }
def FnOwnPutWrongFalsely : Prop := fnOwnPutRow.holds Try.pinned (OpenSpec.ofChange fnOwnPutWrong)

/-- 'laws.FnHedOf': WHATEVER THE INPUT: true; the input reads as it did. -/
def fnHedOfSpec : ChangeSpec := { name := "fnHedOf", fn := fun _ => fun
  | [d1, d2] => { results := [.lit (.bool true)], args := [d1, d2] }
  | _ => none }
def fnHedOfRow : OpenClaim := { program := "ytihphbicoliioaa", sum := "afa3a206da396e4dc3c4803730b02519bba4a5a859074b0aaf4f14a7c617695a", func := "loop.example/stileway/laws.FnHedOf", spec := "fnHedOf", unfollowed := true, recurses := true, apart := false }
def FnHedOfSaid : Prop := fnHedOfRow.holds Try.pinned (OpenSpec.ofChange fnHedOfSpec)

/-- ITS FALSE NEIGHBOUR: 'it returns false'. Refute it at one input. -/
def fnHedOfWrong : ChangeSpec := { name := "fnHedOf", fn := fun _ => fun
  | [d1, d2] => { results := [.lit (.bool false)], args := [d1, d2] }
  | _ => none }
def FnHedOfWrongFalsely : Prop := fnHedOfRow.holds Try.pinned (OpenSpec.ofChange fnHedOfWrong)

/-- 'laws.FnReqOk': WHATEVER THE INPUT: true; the input reads as it did. -/
def fnReqOkSpec : ChangeSpec := { name := "fnReqOk", fn := fun _ => fun
  | [d] => { results := [.lit (.bool true)], args := [d] }
  | _ => none }
def fnReqOkRow : OpenClaim := { program := "ytihphbicoliioaa", sum := "afa3a206da396e4dc3c4803730b02519bba4a5a859074b0aaf4f14a7c617695a", func := "loop.example/stileway/laws.FnReqOk", spec := "fnReqOk", apart := false }
def FnReqOkSaid : Prop := fnReqOkRow.holds Try.pinned (OpenSpec.ofChange fnReqOkSpec)

/-- ITS FALSE NEIGHBOUR: 'it returns false'. Refute it at one input. -/
def fnReqOkWrong : ChangeSpec := { name := "fnReqOk", fn := fun _ => fun
  | [d] => { results := [.lit (.bool false)], args := [d] }
  | _ => none }
def FnReqOkWrongFalsely : Prop := fnReqOkRow.holds Try.pinned (OpenSpec.ofChange fnReqOkWrong)

/-- 'laws.FnMktNew': WHATEVER THE INPUT: true; the input reads as it did. -/
def fnMktNewSpec : ChangeSpec := { name := "fnMktNew", fn := fun _ => fun
  | [d] => { results := [.lit (.bool true)], args := [d] }
  | _ => none }
def fnMktNewRow : OpenClaim := { program := "ytihphbicoliioaa", sum := "afa3a206da396e4dc3c4803730b02519bba4a5a859074b0aaf4f14a7c617695a", func := "loop.example/stileway/laws.FnMktNew", spec := "fnMktNew", unfollowed := true, recurses := true, apart := false }
def FnMktNewSaid : Prop := fnMktNewRow.holds Try.pinned (OpenSpec.ofChange fnMktNewSpec)

/-- ITS FALSE NEIGHBOUR: 'it returns false'. Refute it at one input. -/
def fnMktNewWrong : ChangeSpec := { name := "fnMktNew", fn := fun _ => fun
  | [d] => { results := [.lit (.bool false)], args := [d] }
  | _ => none }
def FnMktNewWrongFalsely : Prop := fnMktNewRow.holds Try.pinned (OpenSpec.ofChange fnMktNewWrong)

/-- 'laws.FnGatThrough': WHATEVER THE INPUT: true; the input reads as it did. -/
def fnGatThroughSpec : ChangeSpec := { name := "fnGatThrough", fn := fun _ => fun
  | [d] => { results := [.lit (.bool true)], args := [d] }
  | _ => none }
def fnGatThroughRow : OpenClaim := { program := "ytihphbicoliioaa", sum := "afa3a206da396e4dc3c4803730b02519bba4a5a859074b0aaf4f14a7c617695a", func := "loop.example/stileway/laws.FnGatThrough", spec := "fnGatThrough", recurses := true, apart := false }
def FnGatThroughSaid : Prop := fnGatThroughRow.holds Try.pinned (OpenSpec.ofChange fnGatThroughSpec)

/-- ITS FALSE NEIGHBOUR: 'it returns false'. Refute it at one input. -/
def fnGatThroughWrong : ChangeSpec := { name := "fnGatThrough", fn := fun _ => fun
  | [d] => { results := [.lit (.bool false)], args := [d] }
  | _ => none }
def FnGatThroughWrongFalsely : Prop := fnGatThroughRow.holds Try.pinned (OpenSpec.ofChange fnGatThroughWrong)

/-- 'laws.FnMktRows': WHATEVER THE INPUT: true; the input reads as it did. -/
def fnMktRowsSpec : ChangeSpec := { name := "fnMktRows", fn := fun _ => fun
  | [d1, d2] => { results := [.lit (.bool true)], args := [d1, d2] }
  | _ => none }
def fnMktRowsRow : OpenClaim := { program := "ytihphbicoliioaa", sum := "afa3a206da396e4dc3c4803730b02519bba4a5a859074b0aaf4f14a7c617695a", func := "loop.example/stileway/laws.FnMktRows", spec := "fnMktRows", apart := false }
def FnMktRowsSaid : Prop := fnMktRowsRow.holds Try.pinned (OpenSpec.ofChange fnMktRowsSpec)

/-- ITS FALSE NEIGHBOUR: 'it returns false'. Refute it at one input. -/
def fnMktRowsWrong : ChangeSpec := { name := "fnMktRows", fn := fun _ => fun
  | [d1, d2] => { results := [.lit (.bool false)], args := [d1, d2] }
  | _ => none }
def FnMktRowsWrongFalsely : Prop := fnMktRowsRow.holds Try.pinned (OpenSpec.ofChange fnMktRowsWrong)

/-- 'laws.FnOwnRoot': WHATEVER THE INPUT: true; the input reads as it did. -/
def fnOwnRootSpec : ChangeSpec := { name := "fnOwnRoot", fn := fun _ => fun
  | [d] => { results := [.lit (.bool true)], args := [d] }
  | _ => none }
def fnOwnRootRow : OpenClaim := { program := "ytihphbicoliioaa", sum := "afa3a206da396e4dc3c4803730b02519bba4a5a859074b0aaf4f14a7c617695a", func := "loop.example/stileway/laws.FnOwnRoot", spec := "fnOwnRoot", unfollowed := true, recurses := true, apart := false }
def FnOwnRootSaid : Prop := fnOwnRootRow.holds Try.pinned (OpenSpec.ofChange fnOwnRootSpec)

/-- ITS FALSE NEIGHBOUR: 'it returns false'. Refute it at one input. -/
def fnOwnRootWrong : ChangeSpec := { name := "fnOwnRoot", fn := fun _ => fun
  | [d] => { results := [.lit (.bool false)], args := [d] }
  | _ => none }
def FnOwnRootWrongFalsely : Prop := fnOwnRootRow.holds Try.pinned (OpenSpec.ofChange fnOwnRootWrong)

/-- 'laws.FnHedFollows': WHATEVER THE INPUT: true; the input reads as it did. -/
def fnHedFollowsSpec : ChangeSpec := { name := "fnHedFollows", fn := fun _ => fun
  | [d1, d2] => { results := [.lit (.bool true)], args := [d1, d2] }
  | _ => none }
def fnHedFollowsRow : OpenClaim := { program := "ytihphbicoliioaa", sum := "afa3a206da396e4dc3c4803730b02519bba4a5a859074b0aaf4f14a7c617695a", func := "loop.example/stileway/laws.FnHedFollows", spec := "fnHedFollows", unfollowed := true, recurses := true, apart := false }
def FnHedFollowsSaid : Prop := fnHedFollowsRow.holds Try.pinned (OpenSpec.ofChange fnHedFollowsSpec)

/-- ITS FALSE NEIGHBOUR: 'it returns false'. Refute it at one input. -/
def fnHedFollowsWrong : ChangeSpec := { name := "fnHedFollows", fn := fun _ => fun
  | [d1, d2] => { results := [.lit (.bool false)], args := [d1, d2] }
  | _ => none }
def FnHedFollowsWrongFalsely : Prop := fnHedFollowsRow.holds Try.pinned (OpenSpec.ofChange fnHedFollowsWrong)

/-- 'laws.FnHedFork': WHATEVER THE INPUT: true; the input reads as it did. -/
def fnHedForkSpec : ChangeSpec := { name := "fnHedFork", fn := fun _ => fun
  | [d1, d2] => { results := [.lit (.bool true)], args := [d1, d2] }
  | _ => none }
def fnHedForkRow : OpenClaim := { program := "ytihphbicoliioaa", sum := "afa3a206da396e4dc3c4803730b02519bba4a5a859074b0aaf4f14a7c617695a", func := "loop.example/stileway/laws.FnHedFork", spec := "fnHedFork", unfollowed := true, recurses := true, apart := false }
def FnHedForkSaid : Prop := fnHedForkRow.holds Try.pinned (OpenSpec.ofChange fnHedForkSpec)

/-- ITS FALSE NEIGHBOUR: 'it returns false'. Refute it at one input. -/
def fnHedForkWrong : ChangeSpec := { name := "fnHedFork", fn := fun _ => fun
  | [d1, d2] => { results := [.lit (.bool false)], args := [d1, d2] }
  | _ => none }
def FnHedForkWrongFalsely : Prop := fnHedForkRow.holds Try.pinned (OpenSpec.ofChange fnHedForkWrong)

/-- 'laws.FnWatSee': WHATEVER THE INPUT: true; the input reads as it did. -/
def fnWatSeeSpec : ChangeSpec := { name := "fnWatSee", fn := fun _ => fun
  | [d] => { results := [.lit (.bool true)], args := [d] }
  | _ => none }
def fnWatSeeRow : OpenClaim := { program := "ytihphbicoliioaa", sum := "afa3a206da396e4dc3c4803730b02519bba4a5a859074b0aaf4f14a7c617695a", func := "loop.example/stileway/laws.FnWatSee", spec := "fnWatSee", inPlace := ["slices.overlaps[loop.example/stileway/impl.HedHead]"], recurses := true, apart := false }
def FnWatSeeSaid : Prop := fnWatSeeRow.holds Try.pinned (OpenSpec.ofChange fnWatSeeSpec)

/-- ITS FALSE NEIGHBOUR: 'it returns false'. Refute it at one input. -/
def fnWatSeeWrong : ChangeSpec := { name := "fnWatSee", fn := fun _ => fun
  | [d] => { results := [.lit (.bool false)], args := [d] }
  | _ => none }
def FnWatSeeWrongFalsely : Prop := fnWatSeeRow.holds Try.pinned (OpenSpec.ofChange fnWatSeeWrong)

/-- 'laws.FnMktDealOf': WHATEVER THE INPUT: true; the input reads as it did. -/
def fnMktDealOfSpec : ChangeSpec := { name := "fnMktDealOf", fn := fun _ => fun
  | [d] => { results := [.lit (.bool true)], args := [d] }
  | _ => none }
def fnMktDealOfRow : OpenClaim := { program := "ytihphbicoliioaa", sum := "afa3a206da396e4dc3c4803730b02519bba4a5a859074b0aaf4f14a7c617695a", func := "loop.example/stileway/laws.FnMktDealOf", spec := "fnMktDealOf", unfollowed := true, recurses := true, apart := false }
def FnMktDealOfSaid : Prop := fnMktDealOfRow.holds Try.pinned (OpenSpec.ofChange fnMktDealOfSpec)

/-- ITS FALSE NEIGHBOUR: 'it returns false'. Refute it at one input. -/
def fnMktDealOfWrong : ChangeSpec := { name := "fnMktDealOf", fn := fun _ => fun
  | [d] => { results := [.lit (.bool false)], args := [d] }
  | _ => none }
def FnMktDealOfWrongFalsely : Prop := fnMktDealOfRow.holds Try.pinned (OpenSpec.ofChange fnMktDealOfWrong)

/- THE SECOND FORM. 'bulk': how many values and letters a reading holds, each counted each time it is reached (what is shared counts as often as it is met; a slice's spare places count too). A statement '..UptoSaid' is the law's where the arguments, and the package variables that the reading takes, are together of bulk at most 1048576: NARROWER than '..Said'. Prove '..Said' where nothing that the law and all that it calls make is longer than what came in: it says more and counts as full. Else prove '..UptoSaid'. A law counts once. -/
mutual
def uptoBulk {H : Type} : DataW H → Nat
  | .lit (.string bytes) => bytes.length + 1
  | .lit _ => 1
  | .nil => 1
  | .ptr d => uptoBulk d + 1
  | .slice elems spare => uptoBulkAll elems + uptoBulkAll spare + 1
  | .agg parts => uptoBulkAll parts + 1
  | .iface _ d => uptoBulk d + 1
  | .map entries => uptoBulkEntries entries + 1
  | .held _ => 1
def uptoBulkAll {H : Type} : List (DataW H) → Nat
  | [] => 0
  | d :: r => uptoBulk d + uptoBulkAll r
def uptoBulkEntries {H : Type} : List (Lit × DataW H) → Nat
  | [] => 0
  | x :: r => uptoBulkEntry x + uptoBulkEntries r
def uptoBulkEntry {H : Type} : Lit × DataW H → Nat
  | (.string bytes, d) => bytes.length + uptoBulk d + 1
  | (_, d) => uptoBulk d + 1
 end
def uptoSmall : (H : Type) → List (DataW H) → Bool := fun _ ds => decide (uptoBulkAll ds ≤ 1048576)
def OpenSpec.upto (s : _root_.Go.ChangeSpec) : _root_.Go.OpenSpec := { _root_.Go.OpenSpec.ofChange s with cond := some uptoSmall }

/-- 'laws.FnOwnOnce', WHERE WHAT IT READS IS OF BULK AT MOST 1048576: true; the input reads as it did. -/
def fnOwnOnceUptoRow : OpenClaim := { program := "ytihphbicoliioaa", sum := "afa3a206da396e4dc3c4803730b02519bba4a5a859074b0aaf4f14a7c617695a", func := "loop.example/stileway/laws.FnOwnOnce", spec := "fnOwnOnce", apart := false, narrowed := true }
def FnOwnOnceUptoSaid : Prop := fnOwnOnceUptoRow.holds Try.pinned (OpenSpec.upto fnOwnOnceSpec)

/-- 'laws.FnOwnPut', WHERE WHAT IT READS IS OF BULK AT MOST 1048576: true; the input reads as it did. -/
def fnOwnPutUptoRow : OpenClaim := { program := "ytihphbicoliioaa", sum := "afa3a206da396e4dc3c4803730b02519bba4a5a859074b0aaf4f14a7c617695a", func := "loop.example/stileway/laws.FnOwnPut", spec := "fnOwnPut", apart := false, narrowed := true }
def FnOwnPutUptoSaid : Prop := fnOwnPutUptoRow.holds Try.pinned (OpenSpec.upto fnOwnPutSpec)

/-- 'laws.FnHedOf', WHERE WHAT IT READS IS OF BULK AT MOST 1048576: true; the input reads as it did. -/
def fnHedOfUptoRow : OpenClaim := { program := "ytihphbicoliioaa", sum := "afa3a206da396e4dc3c4803730b02519bba4a5a859074b0aaf4f14a7c617695a", func := "loop.example/stileway/laws.FnHedOf", spec := "fnHedOf", unfollowed := true, recurses := true, apart := false, narrowed := true }
def FnHedOfUptoSaid : Prop := fnHedOfUptoRow.holds Try.pinned (OpenSpec.upto fnHedOfSpec)

/-- 'laws.FnReqOk', WHERE WHAT IT READS IS OF BULK AT MOST 1048576: true; the input reads as it did. -/
def fnReqOkUptoRow : OpenClaim := { program := "ytihphbicoliioaa", sum := "afa3a206da396e4dc3c4803730b02519bba4a5a859074b0aaf4f14a7c617695a", func := "loop.example/stileway/laws.FnReqOk", spec := "fnReqOk", apart := false, narrowed := true }
def FnReqOkUptoSaid : Prop := fnReqOkUptoRow.holds Try.pinned (OpenSpec.upto fnReqOkSpec)

/-- 'laws.FnMktNew', WHERE WHAT IT READS IS OF BULK AT MOST 1048576: true; the input reads as it did. -/
def fnMktNewUptoRow : OpenClaim := { program := "ytihphbicoliioaa", sum := "afa3a206da396e4dc3c4803730b02519bba4a5a859074b0aaf4f14a7c617695a", func := "loop.example/stileway/laws.FnMktNew", spec := "fnMktNew", unfollowed := true, recurses := true, apart := false, narrowed := true }
def FnMktNewUptoSaid : Prop := fnMktNewUptoRow.holds Try.pinned (OpenSpec.upto fnMktNewSpec)

/-- 'laws.FnGatThrough', WHERE WHAT IT READS IS OF BULK AT MOST 1048576: true; the input reads as it did. -/
def fnGatThroughUptoRow : OpenClaim := { program := "ytihphbicoliioaa", sum := "afa3a206da396e4dc3c4803730b02519bba4a5a859074b0aaf4f14a7c617695a", func := "loop.example/stileway/laws.FnGatThrough", spec := "fnGatThrough", recurses := true, apart := false, narrowed := true }
def FnGatThroughUptoSaid : Prop := fnGatThroughUptoRow.holds Try.pinned (OpenSpec.upto fnGatThroughSpec)

/-- 'laws.FnMktRows', WHERE WHAT IT READS IS OF BULK AT MOST 1048576: true; the input reads as it did. -/
def fnMktRowsUptoRow : OpenClaim := { program := "ytihphbicoliioaa", sum := "afa3a206da396e4dc3c4803730b02519bba4a5a859074b0aaf4f14a7c617695a", func := "loop.example/stileway/laws.FnMktRows", spec := "fnMktRows", apart := false, narrowed := true }
def FnMktRowsUptoSaid : Prop := fnMktRowsUptoRow.holds Try.pinned (OpenSpec.upto fnMktRowsSpec)

/-- 'laws.FnOwnRoot', WHERE WHAT IT READS IS OF BULK AT MOST 1048576: true; the input reads as it did. -/
def fnOwnRootUptoRow : OpenClaim := { program := "ytihphbicoliioaa", sum := "afa3a206da396e4dc3c4803730b02519bba4a5a859074b0aaf4f14a7c617695a", func := "loop.example/stileway/laws.FnOwnRoot", spec := "fnOwnRoot", unfollowed := true, recurses := true, apart := false, narrowed := true }
def FnOwnRootUptoSaid : Prop := fnOwnRootUptoRow.holds Try.pinned (OpenSpec.upto fnOwnRootSpec)

/-- 'laws.FnHedFollows', WHERE WHAT IT READS IS OF BULK AT MOST 1048576: true; the input reads as it did. -/
def fnHedFollowsUptoRow : OpenClaim := { program := "ytihphbicoliioaa", sum := "afa3a206da396e4dc3c4803730b02519bba4a5a859074b0aaf4f14a7c617695a", func := "loop.example/stileway/laws.FnHedFollows", spec := "fnHedFollows", unfollowed := true, recurses := true, apart := false, narrowed := true }
def FnHedFollowsUptoSaid : Prop := fnHedFollowsUptoRow.holds Try.pinned (OpenSpec.upto fnHedFollowsSpec)

/-- 'laws.FnHedFork', WHERE WHAT IT READS IS OF BULK AT MOST 1048576: true; the input reads as it did. -/
def fnHedForkUptoRow : OpenClaim := { program := "ytihphbicoliioaa", sum := "afa3a206da396e4dc3c4803730b02519bba4a5a859074b0aaf4f14a7c617695a", func := "loop.example/stileway/laws.FnHedFork", spec := "fnHedFork", unfollowed := true, recurses := true, apart := false, narrowed := true }
def FnHedForkUptoSaid : Prop := fnHedForkUptoRow.holds Try.pinned (OpenSpec.upto fnHedForkSpec)

/-- 'laws.FnWatSee', WHERE WHAT IT READS IS OF BULK AT MOST 1048576: true; the input reads as it did. -/
def fnWatSeeUptoRow : OpenClaim := { program := "ytihphbicoliioaa", sum := "afa3a206da396e4dc3c4803730b02519bba4a5a859074b0aaf4f14a7c617695a", func := "loop.example/stileway/laws.FnWatSee", spec := "fnWatSee", inPlace := ["slices.overlaps[loop.example/stileway/impl.HedHead]"], recurses := true, apart := false, narrowed := true }
def FnWatSeeUptoSaid : Prop := fnWatSeeUptoRow.holds Try.pinned (OpenSpec.upto fnWatSeeSpec)

/-- 'laws.FnMktDealOf', WHERE WHAT IT READS IS OF BULK AT MOST 1048576: true; the input reads as it did. -/
def fnMktDealOfUptoRow : OpenClaim := { program := "ytihphbicoliioaa", sum := "afa3a206da396e4dc3c4803730b02519bba4a5a859074b0aaf4f14a7c617695a", func := "loop.example/stileway/laws.FnMktDealOf", spec := "fnMktDealOf", unfollowed := true, recurses := true, apart := false, narrowed := true }
def FnMktDealOfUptoSaid : Prop := fnMktDealOfUptoRow.holds Try.pinned (OpenSpec.upto fnMktDealOfSpec)

end Rows
end Go.Proofs.Ytihphbicoliioaa
