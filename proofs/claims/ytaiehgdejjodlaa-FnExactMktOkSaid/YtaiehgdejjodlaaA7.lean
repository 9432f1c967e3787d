/- Contracts: heads that are watched: sized, copied, compared; WatOk. -/
import Derived.Test.YtaiehgdejjodlaaA6
namespace Go.Proofs.Ytaiehgdejjodlaa
open Vc

end Go.Proofs.Ytaiehgdejjodlaa
