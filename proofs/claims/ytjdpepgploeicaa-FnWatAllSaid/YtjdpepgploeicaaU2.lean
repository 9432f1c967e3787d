/- Contracts: who shows another leaf has found a clash: walked. -/
import Derived.Test.YtjdpepgploeicaaU1
import Derived.Test.YtjdpepgploeicaaV3
namespace Go.Proofs.Ytjdpepgploeicaa
open Vc

end Go.Proofs.Ytjdpepgploeicaa
