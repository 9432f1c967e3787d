/- Plain laws: what entries that follow one another are about a ticket. -/
import Derived.Test.YtcmmfamippdgbaaO5
namespace Go.Proofs.Ytcmmfamippdgbaa
open Vc

def about (xs : List Ent) (t : Int) : List Ent := xs.filter (fun e => decide (e.ticket = t))
end Go.Proofs.Ytcmmfamippdgbaa
