/- Contracts: leaves of rows, their root and what shows each; heads of entries. -/
import Derived.Test.YtcmmfamippdgbaaO2
import Derived.Test.YtcmmfamippdgbaaT6
namespace Go.Proofs.Ytcmmfamippdgbaa
open Vc

def rowLeaf (t : Int) (r : Row) : Int := if inB t 0 7 = true then mixLeaf [1000 + t, r.who, r.face, if r.used = true then 1 else 0] else 0
def leavesTo (rs : List Row) (k : Nat) : List Int := (List.range k).map (fun i : Nat => rowLeaf (i : Int) (rs.getD i row0))
def rowLeaves (rs : List Row) : List Int := leavesTo rs rs.length
def ownRoot (rs : List Row) : Int := if ownOk rs = true then rootL (rowLeaves rs) else 0
/-! ## heads -/
def hedOf (xs : List Ent) : Hed × Bool := if (ownFold xs).2 = true then (⟨xs.length, rootL (xs.map entLeaf), ownRoot (ownFold xs).1⟩, true) else (hed0, false)
def hedAt (xs : List Ent) (n : Int) : Hed × Bool := if inB n 0 xs.length = true then hedOf (xs.take n.toNat) else (hed0, false)
end Go.Proofs.Ytcmmfamippdgbaa
