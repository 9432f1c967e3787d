/- Contracts: heads that are watched: sized, copied, compared; WatOk. -/
import Derived.Test.YtblmgpdbncihbaaA6
namespace Go.Proofs.Ytblmgpdbncihbaa
open Vc

end Go.Proofs.Ytblmgpdbncihbaa
