/- Contracts: heads that are watched: sized, copied, compared; WatOk. -/
import Derived.Test.YtcmmfamippdgbaaA5
namespace Go.Proofs.Ytcmmfamippdgbaa
open Vc

def hed0 : Hed := ⟨0, 0, 0⟩
end Go.Proofs.Ytcmmfamippdgbaa
