/- The law FnExactMonTurn, walked: it returns true. -/
import Derived.Test.YtaiehgdejjodlaaA5
namespace Go.Proofs.Ytaiehgdejjodlaa
open Vc

end Go.Proofs.Ytaiehgdejjodlaa
