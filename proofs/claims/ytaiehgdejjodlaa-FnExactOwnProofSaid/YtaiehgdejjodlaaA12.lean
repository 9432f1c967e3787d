/- Contracts: gates; GatOk, the program's and the reference's. -/
import Derived.Test.YtaiehgdejjodlaaA11
namespace Go.Proofs.Ytaiehgdejjodlaa
open Vc

end Go.Proofs.Ytaiehgdejjodlaa
