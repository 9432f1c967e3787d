/- The law FnExactWatMeet, walked: it returns true. -/
import Derived.Test.YtaiehgdejjodlaaA10
namespace Go.Proofs.Ytaiehgdejjodlaa
open Vc

end Go.Proofs.Ytaiehgdejjodlaa
