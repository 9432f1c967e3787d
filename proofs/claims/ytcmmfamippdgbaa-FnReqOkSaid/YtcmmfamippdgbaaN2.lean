/- Contracts: through how many gates somebody has gone; the law FnExactGatTimes, walked: it returns true. -/
import Derived.Test.YtcmmfamippdgbaaN1
namespace Go.Proofs.Ytcmmfamippdgbaa
open Vc

def hasT (t : Int) (d : List Int) : Bool := d.any (fun x => decide (x = t))
end Go.Proofs.Ytcmmfamippdgbaa
