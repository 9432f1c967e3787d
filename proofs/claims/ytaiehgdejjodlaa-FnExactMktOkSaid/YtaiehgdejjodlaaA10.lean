/- Contracts: WatMeet of the reference. -/
import Derived.Test.YtaiehgdejjodlaaA9
namespace Go.Proofs.Ytaiehgdejjodlaa
open Vc

end Go.Proofs.Ytaiehgdejjodlaa
