/- Contracts: heads that are watched: sized, copied, compared; WatOk. -/
import Derived.Test.YtihphbicoliioaaA6
namespace Go.Proofs.Ytihphbicoliioaa
open Vc

def hed0 : Hed := ⟨0, 0, 0⟩
end Go.Proofs.Ytihphbicoliioaa
