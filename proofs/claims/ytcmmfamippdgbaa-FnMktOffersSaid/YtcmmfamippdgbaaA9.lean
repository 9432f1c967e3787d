/- Contracts: WatMeet, the program's and the reference's. -/
import Derived.Test.YtcmmfamippdgbaaA7
namespace Go.Proofs.Ytcmmfamippdgbaa
open Vc

/-- the first n resources -/
class Vc.Top (n : Nat) (L : List Res) (Ls : outParam (List Res)) : Prop where h : Ls = L.take n
instance {L : List Res} : Vc.Top 0 L [] := ⟨rfl⟩
instance {n : Nat} {r : Res} {L Ls : List Res} [h : Vc.Top n L Ls] : Vc.Top (n + 1) (r :: L) (r :: Ls) := ⟨by rw [h.h]; rfl⟩
def meet (xs ys : List Hed) : Option (Hed × Hed) := xs.findSome? (fun a => (ys.find? (hedFork a)).map (fun b => (a, b)))
end Go.Proofs.Ytcmmfamippdgbaa
