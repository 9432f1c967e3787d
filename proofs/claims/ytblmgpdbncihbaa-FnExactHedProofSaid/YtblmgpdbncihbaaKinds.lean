/- How the laws' arguments read, by their types. -/
import Derived.Test.YtblmgpdbncihbaaA2
import Derived.Test.YtblmgpdbncihbaaOpen
namespace Go.Proofs.Ytblmgpdbncihbaa
open Vc Go.ChangeShapes Go.WideShapes Go.ChangeAt Go.RowKit

theorem opInt : Opens Try.prog 3 intE (fun _ n => Fits64 n) := opens_int Try.underlying3
end Go.Proofs.Ytblmgpdbncihbaa
