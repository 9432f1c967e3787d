/- More rules of the calculus: drawing regions, quicker. -/
import Derived.Test.YtcmmfamippdgbaaV2
namespace Go.Proofs.Ytcmmfamippdgbaa.Vc
open Go.RowKit

/-- what a panic's end holds does not hang on a slot -/
def PanicOk (Q : Exit → Act → World → Prop) : Prop := ∀ c a d v w, Q (.panic c) (a.put d v) w → Q (.panic c) a w
section
variable {P : Program} {w0 : World} {X : List Nat} {N : Nat} {ops : Array Oper} {Q : Exit → Act → World → Prop} {fr : Fr} {L Ls : List Res} {f : Nat} {l : Array Bool}
theorem PanicOk.then_ {K : Act → World → Prop} (h : PanicOk Q) : PanicOk (Exit.then K Q) := fun c a d v w h' => h c a d v w h'
theorem PanicOk.block {id : Nat} (h : PanicOk Q) : PanicOk (Exit.inBlock id Q) := fun c a d v w h' => h c a d v w h'
theorem WH.quietD (i : Nat) {o : Oper} (hf : (Region.noSelect ops && Region.free .any ops l i && (Region.ready .any ops l).contains i) = true) (hi : ops[i]? = some o) (hQ : PanicOk Q) (hL : Ls.Sublist L)
    (h : WL true P w0 X N ops (fun _ a' _ => ∃ fr', As N fr' a' ∧ WH P w0 X N ops Q Ls f (l.setIfInBounds i true) fr' L) [o] fr Ls) : WH P w0 X N ops Q Ls (f + 1) l fr L := WH.quiet i hL hf hi hQ h
theorem WH.runD (i : Nat) {o : Oper} (hr : Region.ready .any ops l = [i]) (hi : ops[i]? = some o) (hL : Ls.Sublist L)
    (h : WL false P w0 X N ops (AnyQ (fun w => St w0 X w Ls) P ops Q f (l.setIfInBounds i true)) [o] fr L) : WH P w0 X N ops Q Ls (f + 1) l fr L := WH.run i hL hr hi h
theorem WH.doneD (hr : Region.ready .any ops l = []) (hL : Ls.Sublist L) (h : WQ w0 X N Q .normal fr L) : WH P w0 X N ops Q Ls f l fr L := WH.done hL hr h
end
end Go.Proofs.Ytcmmfamippdgbaa.Vc
