/- Tickets that have gone through gates: the plain law. -/
import Derived.Test.YtcmmfamippdgbaaTypes
import Derived.Shelf.Sort.Plain
import Derived.Shelf.Slices.In.SortNone
import Derived.Shelf.Slices.CompactI
import Derived.Sort.OwnSortedInts
import Derived.Lib.OwnBridge
import Derived.Test.YtcmmfamippdgbaaV2
import Derived.Test.YtcmmfamippdgbaaN2
namespace Go.Proofs.Ytcmmfamippdgbaa
open Vc

/-! ## put in its place -/
def notAbove (n x : Int) : Bool := !decide (n < x)
def posI (n : Int) (xs : List Int) : Nat := (xs.takeWhile (notAbove n)).length
def putI (n : Int) (xs : List Int) : List Int := xs.take (posI n xs) ++ n :: xs.drop (posI n xs)
/-! ## all of them, the reference's way -/
def addI (out : List Int) (x : Int) : List Int := if hasT x out = true then out else putI x out
/-! ## the program's way -/
end Go.Proofs.Ytcmmfamippdgbaa
