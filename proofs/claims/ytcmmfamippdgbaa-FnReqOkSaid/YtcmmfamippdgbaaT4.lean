/- Contracts: roots of leaves, leaves of numbers, proofs that the first leaves are the beginning. -/
import Derived.Test.YtcmmfamippdgbaaT1
import Derived.Test.YtcmmfamippdgbaaA5
namespace Go.Proofs.Ytcmmfamippdgbaa
open Vc

/-! ## leaves of numbers -/
def mixStep (m n : Int) : Int := (m * 4099 + n % 65521 + 11) % 65521
def mixLeaf (xs : List Int) : Int := (xs.foldl mixStep 7 * 31 + xs.length) % 65521
/-! ## roots -/
def rootF : Nat → List Int → Int
  | 0, _ => 0
  | f + 1, xs => if xs.length = 0 then 5 else if xs.length = 1 then headZ' xs else mixP (rootF f (xs.take (spl xs.length).toNat)) (rootF f (xs.drop (spl xs.length).toNat))
where headZ' (xs : List Int) : Int := xs.headD 0
def rootL (xs : List Int) : Int := rootF 41 xs
end Go.Proofs.Ytcmmfamippdgbaa
