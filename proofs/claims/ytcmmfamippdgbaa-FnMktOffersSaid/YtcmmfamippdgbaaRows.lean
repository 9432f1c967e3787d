/-
  No cell of these rows narrows 'for every input' (looked for: loops, veiled, ifaces, maps, wideKeys, modest, calm, conditions, laid).
  DERIVED. THE GIVEN ROWS OF THIS SEAT. 9 by the template 'for every input the law returns true; each argument reads behind the call as it read before'; 0 by the template 'total and deterministic' (their statements: YtcmmfamippdgbaaTotals.lean).
  GIVEN WITH THE SEED: the statements are not yours to turn. If you find one false, say at which input.
  Laid BY PROGRAM, IN A SANDBOX (cutbox-rows.mjs): the forced cells as the released guide's own fill.sh prints them over the translation a7c6f712e528a18b… (all of the seat's roots in one cut). By AI agents, Wed Nov 11 2026. No macro, syntax, notation, axiom, sorry.
-/
import Derived.Test.YtcmmfamippdgbaaChecked
import GoSem.Claim
import GoSem.ClaimJoined
import GoSem.ClaimMapViews
import Derived.JoinedTies
import Derived.KernelRfl
namespace Go.Proofs.Ytcmmfamippdgbaa
/- THE CELL 'sum', in the pinned program and in every row, IS THE sha256 OF THE DUMP (.gsa) THAT YtcmmfamippdgbaaProg.lean LOADS. Nothing in Lean hashes anything: it is a label: what it is worth is what the hold of that sum in a sandbox is worth. -/
noncomputable def Try.pinned : Pinned := { name := "ytcmmfamippdgbaa", sum := "a7c6f712e528a18b1748bcc5b4eaba285b886532569951363b49a3865d7f3037", checked := Try.checked }
namespace Rows
def none {H : Type} : Left H := { results := [], args := [] }

/-- 'laws.FnOwnCheck': WHATEVER THE INPUT: true; the input reads as it did. -/
def fnOwnCheckSpec : ChangeSpec := { name := "fnOwnCheck", fn := fun _ => fun
  | [d1, d2] => { results := [.lit (.bool true)], args := [d1, d2] }
  | _ => none }
def fnOwnCheckRow : OpenClaim := { program := "ytcmmfamippdgbaa", sum := "a7c6f712e528a18b1748bcc5b4eaba285b886532569951363b49a3865d7f3037", func := "loop.example/stileway/laws.FnOwnCheck", spec := "fnOwnCheck", unfollowed := true, recurses := true, apart := false }
def FnOwnCheckSaid : Prop := fnOwnCheckRow.holds Try.pinned (OpenSpec.ofChange fnOwnCheckSpec)

/-- ITS FALSE NEIGHBOUR: 'it returns false'. Refute it at one input. -/
def fnOwnCheckWrong : ChangeSpec := { name := "fnOwnCheck", fn := fun _ => fun
  | [d1, d2] => { results := [.lit (.bool false)], args := [d1, d2] }
  | _ => none }
def FnOwnCheckWrongFalsely : Prop := fnOwnCheckRow.holds Try.pinned (OpenSpec.ofChange fnOwnCheckWrong)

/-- 'laws.FnWatSee': WHATEVER THE INPUT: true; the input reads as it did. -/
def fnWatSeeSpec : ChangeSpec := { name := "fnWatSee", fn := fun _ => fun
  | [d] => { results := [.lit (.bool true)], args := [d] }
  | _ => none }
def fnWatSeeRow : OpenClaim := { program := "ytcmmfamippdgbaa", sum := "a7c6f712e528a18b1748bcc5b4eaba285b886532569951363b49a3865d7f3037", func := "loop.example/stileway/laws.FnWatSee", spec := "fnWatSee", inPlace := ["slices.overlaps[loop.example/stileway/impl.HedHead]"], recurses := true, apart := false }
def FnWatSeeSaid : Prop := fnWatSeeRow.holds Try.pinned (OpenSpec.ofChange fnWatSeeSpec)

/-- ITS FALSE NEIGHBOUR: 'it returns false'. Refute it at one input. -/
def fnWatSeeWrong : ChangeSpec := { name := "fnWatSee", fn := fun _ => fun
  | [d] => { results := [.lit (.bool false)], args := [d] }
  | _ => none }
def FnWatSeeWrongFalsely : Prop := fnWatSeeRow.holds Try.pinned (OpenSpec.ofChange fnWatSeeWrong)

/-- 'laws.FnExactWatSee': WHATEVER THE INPUT: true; the input reads as it did. -/
def fnExactWatSeeSpec : ChangeSpec := { name := "fnExactWatSee", fn := fun _ => fun
  | [d1, d2] => { results := [.lit (.bool true)], args := [d1, d2] }
  | _ => none }
def fnExactWatSeeRow : OpenClaim := { program := "ytcmmfamippdgbaa", sum := "a7c6f712e528a18b1748bcc5b4eaba285b886532569951363b49a3865d7f3037", func := "loop.example/stileway/laws.FnExactWatSee", spec := "fnExactWatSee", inPlace := ["slices.overlaps[loop.example/stileway/impl.HedHead]"], apart := false }
def FnExactWatSeeSaid : Prop := fnExactWatSeeRow.holds Try.pinned (OpenSpec.ofChange fnExactWatSeeSpec)

/-- ITS FALSE NEIGHBOUR: 'it returns false'. Refute it at one input. -/
def fnExactWatSeeWrong : ChangeSpec := { name := "fnExactWatSee", fn := fun _ => fun
  | [d1, d2] => { results := [.lit (.bool false)], args := [d1, d2] }
  | _ => none }
def FnExactWatSeeWrongFalsely : Prop := fnExactWatSeeRow.holds Try.pinned (OpenSpec.ofChange fnExactWatSeeWrong)

/-- 'laws.FnMktRows': WHATEVER THE INPUT: true; the input reads as it did. -/
def fnMktRowsSpec : ChangeSpec := { name := "fnMktRows", fn := fun _ => fun
  | [d1, d2] => { results := [.lit (.bool true)], args := [d1, d2] }
  | _ => none }
def fnMktRowsRow : OpenClaim := { program := "ytcmmfamippdgbaa", sum := "a7c6f712e528a18b1748bcc5b4eaba285b886532569951363b49a3865d7f3037", func := "loop.example/stileway/laws.FnMktRows", spec := "fnMktRows", apart := false }
def FnMktRowsSaid : Prop := fnMktRowsRow.holds Try.pinned (OpenSpec.ofChange fnMktRowsSpec)

/-- ITS FALSE NEIGHBOUR: 'it returns false'. Refute it at one input. -/
def fnMktRowsWrong : ChangeSpec := { name := "fnMktRows", fn := fun _ => fun
  | [d1, d2] => { results := [.lit (.bool false)], args := [d1, d2] }
  | _ => none }
def FnMktRowsWrongFalsely : Prop := fnMktRowsRow.holds Try.pinned (OpenSpec.ofChange fnMktRowsWrong)

/-- 'laws.FnMktDealOf': WHATEVER THE INPUT: true; the input reads as it did. -/
def fnMktDealOfSpec : ChangeSpec := { name := "fnMktDealOf", fn := fun _ => fun
  | [d] => { results := [.lit (.bool true)], args := [d] }
  | _ => none }
def fnMktDealOfRow : OpenClaim := { program := "ytcmmfamippdgbaa", sum := "a7c6f712e528a18b1748bcc5b4eaba285b886532569951363b49a3865d7f3037", func := "loop.example/stileway/laws.FnMktDealOf", spec := "fnMktDealOf", unfollowed := true, recurses := true, apart := false }
def FnMktDealOfSaid : Prop := fnMktDealOfRow.holds Try.pinned (OpenSpec.ofChange fnMktDealOfSpec)

/-- ITS FALSE NEIGHBOUR: 'it returns false'. Refute it at one input. -/
def fnMktDealOfWrong : ChangeSpec := { name := "fnMktDealOf", fn := fun _ => fun
  | [d] => { results := [.lit (.bool false)], args := [d] }
  | _ => none }
def FnMktDealOfWrongFalsely : Prop := fnMktDealOfRow.holds Try.pinned (OpenSpec.ofChange fnMktDealOfWrong)

/-- 'laws.FnReqOk': WHATEVER THE INPUT: true; the input reads as it did. -/
def fnReqOkSpec : ChangeSpec := { name := "fnReqOk", fn := fun _ => fun
  | [d] => { results := [.lit (.bool true)], args := [d] }
  | _ => none }
def fnReqOkRow : OpenClaim := { program := "ytcmmfamippdgbaa", sum := "a7c6f712e528a18b1748bcc5b4eaba285b886532569951363b49a3865d7f3037", func := "loop.example/stileway/laws.FnReqOk", spec := "fnReqOk", apart := false }
def FnReqOkSaid : Prop := fnReqOkRow.holds Try.pinned (OpenSpec.ofChange fnReqOkSpec)

/-- ITS FALSE NEIGHBOUR: 'it returns false'. Refute it at one input. -/
def fnReqOkWrong : ChangeSpec := { name := "fnReqOk", fn := fun _ => fun
  | [d] => { results := [.lit (.bool false)], args := [d] }
  | _ => none }
def FnReqOkWrongFalsely : Prop := fnReqOkRow.holds Try.pinned (OpenSpec.ofChange fnReqOkWrong)

/-- 'laws.FnMktOffers': WHATEVER THE INPUT: true; the input reads as it did. -/
def fnMktOffersSpec : ChangeSpec := { name := "fnMktOffers", fn := fun _ => fun
  | [d1, d2] => { results := [.lit (.bool true)], args := [d1, d2] }
  | _ => none }
def fnMktOffersRow : OpenClaim := { program := "ytcmmfamippdgbaa", sum := "a7c6f712e528a18b1748bcc5b4eaba285b886532569951363b49a3865d7f3037", func := "loop.example/stileway/laws.FnMktOffers", spec := "fnMktOffers", unfollowed := true, recurses := true, apart := false }
def FnMktOffersSaid : Prop := fnMktOffersRow.holds Try.pinned (OpenSpec.ofChange fnMktOffersSpec)

/-- ITS FALSE NEIGHBOUR: 'it returns false'. Refute it at one input. -/
def fnMktOffersWrong : ChangeSpec := { name := "fnMktOffers", fn := fun _ => fun
  | [d1, d2] => { results := [.lit (.bool false)], args := [d1, d2] }
  | _ => none }
def FnMktOffersWrongFalsely : Prop := fnMktOffersRow.holds Try.pinned (OpenSpec.ofChange fnMktOffersWrong)

/-- 'laws.FnExactGatThrough': WHATEVER THE INPUT: true; the input reads as it did. -/
def fnExactGatThroughSpec : ChangeSpec := { name := "fnExactGatThrough", fn := fun _ => fun
  | [d] => { results := [.lit (.bool true)], args := [d] }
  | _ => none }
def fnExactGatThroughRow : OpenClaim := { program := "ytcmmfamippdgbaa", sum := "a7c6f712e528a18b1748bcc5b4eaba285b886532569951363b49a3865d7f3037", func := "loop.example/stileway/laws.FnExactGatThrough", spec := "fnExactGatThrough", recurses := true, apart := false }
def FnExactGatThroughSaid : Prop := fnExactGatThroughRow.holds Try.pinned (OpenSpec.ofChange fnExactGatThroughSpec)

/-- ITS FALSE NEIGHBOUR: 'it returns false'. Refute it at one input. -/
def fnExactGatThroughWrong : ChangeSpec := { name := "fnExactGatThrough", fn := fun _ => fun
  | [d] => { results := [.lit (.bool false)], args := [d] }
  | _ => none }
def FnExactGatThroughWrongFalsely : Prop := fnExactGatThroughRow.holds Try.pinned (OpenSpec.ofChange fnExactGatThroughWrong)

/-- 'laws.FnGatThrough': WHATEVER THE INPUT: true; the input reads as it did. -/
def fnGatThroughSpec : ChangeSpec := { name := "fnGatThrough", fn := fun _ => fun
  | [d] => { results := [.lit (.bool true)], args := [d] }
  | _ => none }
def fnGatThroughRow : OpenClaim := { program := "ytcmmfamippdgbaa", sum := "a7c6f712e528a18b1748bcc5b4eaba285b886532569951363b49a3865d7f3037", func := "loop.example/stileway/laws.FnGatThrough", spec := "fnGatThrough", recurses := true, apart := false }
def FnGatThroughSaid : Prop := fnGatThroughRow.holds Try.pinned (OpenSpec.ofChange fnGatThroughSpec)

/-- ITS FALSE NEIGHBOUR: 'it returns false'. Refute it at one input. -/
def fnGatThroughWrong : ChangeSpec := { name := "fnGatThrough", fn := fun _ => fun
  | [d] => { results := [.lit (.bool false)], args := [d] }
  | _ => none }
def FnGatThroughWrongFalsely : Prop := fnGatThroughRow.holds Try.pinned (OpenSpec.ofChange fnGatThroughWrong)

/- THE SECOND FORM. 'bulk': how many values and letters a reading holds, each counted each time it is reached (what is shared counts as often as it is met; a slice's spare places count too). A statement '..UptoSaid' is the law's where the arguments, and the package variables that the reading takes, are together of bulk at most 1048576: NARROWER than '..Said'. Prove '..Said' where nothing that the law and all that it calls make is longer than what came in: it says more and counts as full. Else prove '..UptoSaid'. A law counts once. -/
mutual
def uptoBulk {H : Type} : DataW H → Nat
  | .lit (.string bytes) => bytes.length + 1
  | .lit _ => 1
  | .nil => 1
  | .ptr d => uptoBulk d + 1
  | .slice elems spare => uptoBulkAll elems + uptoBulkAll spare + 1
  | .agg parts => uptoBulkAll parts + 1
  | .iface _ d => uptoBulk d + 1
  | .map entries => uptoBulkEntries entries + 1
  | .held _ => 1
def uptoBulkAll {H : Type} : List (DataW H) → Nat
  | [] => 0
  | d :: r => uptoBulk d + uptoBulkAll r
def uptoBulkEntries {H : Type} : List (Lit × DataW H) → Nat
  | [] => 0
  | x :: r => uptoBulkEntry x + uptoBulkEntries r
def uptoBulkEntry {H : Type} : Lit × DataW H → Nat
  | (.string bytes, d) => bytes.length + uptoBulk d + 1
  | (_, d) => uptoBulk d + 1
 end
def uptoSmall : (H : Type) → List (DataW H) → Bool := fun _ ds => decide (uptoBulkAll ds ≤ 1048576)
def OpenSpec.upto (s : _root_.Go.ChangeSpec) : _root_.Go.OpenSpec := { _root_.Go.OpenSpec.ofChange s with cond := some uptoSmall }

/-- 'laws.FnOwnCheck', WHERE WHAT IT READS IS OF BULK AT MOST 1048576: true; the input reads as it did. -/
def fnOwnCheckUptoRow : OpenClaim := { program := "ytcmmfamippdgbaa", sum := "a7c6f712e528a18b1748bcc5b4eaba285b886532569951363b49a3865d7f3037", func := "loop.example/stileway/laws.FnOwnCheck", spec := "fnOwnCheck", unfollowed := true, recurses := true, apart := false, narrowed := true }
def FnOwnCheckUptoSaid : Prop := fnOwnCheckUptoRow.holds Try.pinned (OpenSpec.upto fnOwnCheckSpec)

/-- 'laws.FnWatSee', WHERE WHAT IT READS IS OF BULK AT MOST 1048576: true; the input reads as it did. -/
def fnWatSeeUptoRow : OpenClaim := { program := "ytcmmfamippdgbaa", sum := "a7c6f712e528a18b1748bcc5b4eaba285b886532569951363b49a3865d7f3037", func := "loop.example/stileway/laws.FnWatSee", spec := "fnWatSee", inPlace := ["slices.overlaps[loop.example/stileway/impl.HedHead]"], recurses := true, apart := false, narrowed := true }
def FnWatSeeUptoSaid : Prop := fnWatSeeUptoRow.holds Try.pinned (OpenSpec.upto fnWatSeeSpec)

/-- 'laws.FnExactWatSee', WHERE WHAT IT READS IS OF BULK AT MOST 1048576: true; the input reads as it did. -/
def fnExactWatSeeUptoRow : OpenClaim := { program := "ytcmmfamippdgbaa", sum := "a7c6f712e528a18b1748bcc5b4eaba285b886532569951363b49a3865d7f3037", func := "loop.example/stileway/laws.FnExactWatSee", spec := "fnExactWatSee", inPlace := ["slices.overlaps[loop.example/stileway/impl.HedHead]"], apart := false, narrowed := true }
def FnExactWatSeeUptoSaid : Prop := fnExactWatSeeUptoRow.holds Try.pinned (OpenSpec.upto fnExactWatSeeSpec)

/-- 'laws.FnMktRows', WHERE WHAT IT READS IS OF BULK AT MOST 1048576: true; the input reads as it did. -/
def fnMktRowsUptoRow : OpenClaim := { program := "ytcmmfamippdgbaa", sum := "a7c6f712e528a18b1748bcc5b4eaba285b886532569951363b49a3865d7f3037", func := "loop.example/stileway/laws.FnMktRows", spec := "fnMktRows", apart := false, narrowed := true }
def FnMktRowsUptoSaid : Prop := fnMktRowsUptoRow.holds Try.pinned (OpenSpec.upto fnMktRowsSpec)

/-- 'laws.FnMktDealOf', WHERE WHAT IT READS IS OF BULK AT MOST 1048576: true; the input reads as it did. -/
def fnMktDealOfUptoRow : OpenClaim := { program := "ytcmmfamippdgbaa", sum := "a7c6f712e528a18b1748bcc5b4eaba285b886532569951363b49a3865d7f3037", func := "loop.example/stileway/laws.FnMktDealOf", spec := "fnMktDealOf", unfollowed := true, recurses := true, apart := false, narrowed := true }
def FnMktDealOfUptoSaid : Prop := fnMktDealOfUptoRow.holds Try.pinned (OpenSpec.upto fnMktDealOfSpec)

/-- 'laws.FnReqOk', WHERE WHAT IT READS IS OF BULK AT MOST 1048576: true; the input reads as it did. -/
def fnReqOkUptoRow : OpenClaim := { program := "ytcmmfamippdgbaa", sum := "a7c6f712e528a18b1748bcc5b4eaba285b886532569951363b49a3865d7f3037", func := "loop.example/stileway/laws.FnReqOk", spec := "fnReqOk", apart := false, narrowed := true }
def FnReqOkUptoSaid : Prop := fnReqOkUptoRow.holds Try.pinned (OpenSpec.upto fnReqOkSpec)

/-- 'laws.FnMktOffers', WHERE WHAT IT READS IS OF BULK AT MOST 1048576: true; the input reads as it did. -/
def fnMktOffersUptoRow : OpenClaim := { program := "ytcmmfamippdgbaa", sum := "a7c6f712e528a18b1748bcc5b4eaba285b886532569951363b49a3865d7f3037", func := "loop.example/stileway/laws.FnMktOffers", spec := "fnMktOffers", unfollowed := true, recurses := true, apart := false, narrowed := true }
def FnMktOffersUptoSaid : Prop := fnMktOffersUptoRow.holds Try.pinned (OpenSpec.upto fnMktOffersSpec)

/-- 'laws.FnExactGatThrough', WHERE WHAT IT READS IS OF BULK AT MOST 1048576: true; the input reads as it did. -/
def fnExactGatThroughUptoRow : OpenClaim := { program := "ytcmmfamippdgbaa", sum := "a7c6f712e528a18b1748bcc5b4eaba285b886532569951363b49a3865d7f3037", func := "loop.example/stileway/laws.FnExactGatThrough", spec := "fnExactGatThrough", recurses := true, apart := false, narrowed := true }
def FnExactGatThroughUptoSaid : Prop := fnExactGatThroughUptoRow.holds Try.pinned (OpenSpec.upto fnExactGatThroughSpec)

/-- 'laws.FnGatThrough', WHERE WHAT IT READS IS OF BULK AT MOST 1048576: true; the input reads as it did. -/
def fnGatThroughUptoRow : OpenClaim := { program := "ytcmmfamippdgbaa", sum := "a7c6f712e528a18b1748bcc5b4eaba285b886532569951363b49a3865d7f3037", func := "loop.example/stileway/laws.FnGatThrough", spec := "fnGatThrough", recurses := true, apart := false, narrowed := true }
def FnGatThroughUptoSaid : Prop := fnGatThroughUptoRow.holds Try.pinned (OpenSpec.upto fnGatThroughSpec)

end Rows
end Go.Proofs.Ytcmmfamippdgbaa
