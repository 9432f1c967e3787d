/- Contracts: a market at its beginning; markets marked and held; the law FnExactMktNew, walked: it returns true. -/
import Derived.Test.YtcmmfamippdgbaaH1
import Derived.Test.YtcmmfamippdgbaaA5
namespace Go.Proofs.Ytcmmfamippdgbaa
open Vc

section
variable {P : Program} {w0 : World} {X : List Nat} {N : Nat} {ops : Array Oper} {Q : Exit → Act → World → Prop} {fr : Fr} {L Ls : List Res} {f : Nat} {l : Array Bool}
theorem Vc.WH.run3 (i j k : Nat) {o o' o'' : Oper} (hL : Ls.Sublist L) (hr : Region.ready .any ops l = [i, j, k]) (hi : ops[i]? = some o) (hj : ops[j]? = some o') (hk : ops[k]? = some o'')
    (h : WL false P w0 X N ops (AnyQ (fun w => St w0 X w Ls) P ops Q f (l.setIfInBounds i true)) [o] fr L)
    (h' : WL false P w0 X N ops (AnyQ (fun w => St w0 X w Ls) P ops Q f (l.setIfInBounds j true)) [o'] fr L)
    (h'' : WL false P w0 X N ops (AnyQ (fun w => St w0 X w Ls) P ops Q f (l.setIfInBounds k true)) [o''] fr L) : WH P w0 X N ops Q Ls (f + 1) l fr L := by
  unfold WL at h h' h''
  intro a w ha hs
  refine ⟨hs.sub hL, fun w' hk' => ⟨fun h0 => (by rw [hr] at h0; cases h0), fun m hm => ?_⟩⟩
  rw [hr] at hm
  simp only [List.mem_cons, List.not_mem_nil, or_false] at hm
  rcases hm with rfl | rfl | rfl
  · exact wpOp_of_list hi (h a w' ha (hs.of_keep hk'))
  · exact wpOp_of_list hj (h' a w' ha (hs.of_keep hk'))
  · exact wpOp_of_list hk (h'' a w' ha (hs.of_keep hk'))
end
end Go.Proofs.Ytcmmfamippdgbaa
