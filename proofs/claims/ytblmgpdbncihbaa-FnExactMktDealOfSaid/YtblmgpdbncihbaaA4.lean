/- Contracts: purses. -/
import Derived.Test.YtblmgpdbncihbaaA3
namespace Go.Proofs.Ytblmgpdbncihbaa
open Vc

end Go.Proofs.Ytblmgpdbncihbaa
