/- Contracts: heads that are watched: sized, copied, compared; WatOk. -/
import Derived.Test.YtjdpepgploeicaaA6
namespace Go.Proofs.Ytjdpepgploeicaa
open Vc

def hed0 : Hed := ⟨0, 0, 0⟩
end Go.Proofs.Ytjdpepgploeicaa
