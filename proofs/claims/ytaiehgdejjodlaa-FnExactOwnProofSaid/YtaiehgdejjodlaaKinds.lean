/- How the laws' arguments read, by their types. -/
import Derived.Test.YtaiehgdejjodlaaA2
import Derived.Test.YtaiehgdejjodlaaOpen
namespace Go.Proofs.Ytaiehgdejjodlaa
open Vc Go.ChangeShapes Go.WideShapes Go.ChangeAt Go.RowKit

theorem opInt : Opens Try.prog 3 intE (fun _ n => Fits64 n) := opens_int Try.underlying3
end Go.Proofs.Ytaiehgdejjodlaa
