/- Contracts: heads that fork; requests; and the laws FnExactHedOk, FnExactHedFork, FnExactReqOk. -/
import Derived.Test.YtcmmfamippdgbaaA1
namespace Go.Proofs.Ytcmmfamippdgbaa
open Vc

def hedFork (a b : Hed) : Bool := hedOk a && hedOk b && decide (a.size = b.size) && !decide (a = b)

structure Req where
  user : Int
  n : Int
  kind : Int
  ticket : Int
  who : Int
  price : Int
  deriving DecidableEq
@[reducible] def reqE (r : Req) : List Value := [.int .i64 r.user, .int .i64 r.n, .int .i64 r.kind, .int .i64 r.ticket, .int .i64 r.who, .int .i64 r.price]
instance : Enc reqE 6 := ⟨fun _ => rfl, fun _ => rfl, by omega⟩
end Go.Proofs.Ytcmmfamippdgbaa
