/- Contracts: how all tickets stand, drawn; entries that may follow; what the laws of entries and rows draw. -/
import Derived.Test.YtcmmfamippdgbaaD6
namespace Go.Proofs.Ytcmmfamippdgbaa
open Vc

section
variable {q : Bool} {P : Program} {w0 : World} {X : List Nat} {N : Nat} {ops : Array Oper} {Q : Exit → Act → World → Prop} {rest : List Oper} {fr : Fr} {L L' : List Res} {d ty : Nat} {ps : String} {af : Array Edge}
variable {α : Type} {E : α → List Value} {sz f t : Nat} {v : Value} {ys : List α} {x y : Operand} {T : Nat} {p : Addr}
end
theorem Vc.Reads.v {α : Type} {E : α → List Value} {sz : Nat} {v : Value} {ys : List α} {w0 w : World} {X : List Nat} {L L' : List Res} {r t : Nat} {cs : List Value} [hD : CDelB L r t cs L'] [hO : HasVw L' v E sz ys] (hs : St w0 X w L) : Reads E sz v ys w [r] := by
  intro W hk
  have hs' := hs.perm hD.h.perm
  obtain ⟨i, hm⟩ := hO.h
  have hap := (List.pairwise_cons.1 hs'.apart).1 _ hm
  have hh := hs'.res _ (ms hm)
  exact (vw_holds.1 (Res.loc _ w W (fun b hb => hk.block b (Res.here _ w hh b hb) (by
    simp only [List.mem_singleton]
    rintro rfl
    exact hap b (by rw [blk_foot]; simp) hb)) hh)).1
end Go.Proofs.Ytcmmfamippdgbaa
