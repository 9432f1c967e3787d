/- Contracts: mixed numbers and entries drawn. -/
import Derived.Test.YtcmmfamippdgbaaD1
import Derived.Test.YtcmmfamippdgbaaO2
import Derived.Test.YtcmmfamippdgbaaV3
namespace Go.Proofs.Ytcmmfamippdgbaa
open Vc

class Vc.OwnOf (L : List Res) (Ls : outParam (List Res)) : Prop where h : Ls.Sublist L
instance : Vc.OwnOf [] [] := ⟨List.Sublist.refl _⟩
instance {b t : Nat} {cs : List Value} {L Ls : List Res} [h : Vc.OwnOf L Ls] : Vc.OwnOf (blk b t cs :: L) Ls := ⟨h.h.cons _⟩
instance {α : Type} {E : α → List Value} {sz t : Nat} {v : Value} {ys : List α} {L Ls : List Res} [h : Vc.OwnOf L Ls] : Vc.OwnOf (own E sz v t ys :: L) (own E sz v t ys :: Ls) := ⟨h.h.cons_cons _⟩
instance {α : Type} {E : α → List Value} {sz : Nat} [Enc E sz] {v : Value} {ys : List α} {L Ls : List Res} [h : Vc.OwnOf L Ls] : Vc.OwnOf (vw E sz v ys :: L) (vw E sz v ys :: Ls) := ⟨h.h.cons_cons _⟩
theorem entCap_fits (n : Int) : 0 ≤ entCap n ∧ entCap n ≤ 60 := by
  unfold entCap; split
  · rename_i h; have := inB_true.1 h; omega
  · omega
theorem pickP_c (r : Nat) (v : Value) (bs : List Int) (p n : Int) (w : World) (hr : (rdB r v p).holds w) (hs : Rdr v bs w [r]) (hp : 0 ≤ p ∧ p ≤ 1099511627776) (h1 : v.oneCell' = true) (hn : 1 ≤ n ∧ n ≤ 1099511627776) :
    CallsTo Try.prog 77 [ptrV r, .int .i64 n] w [r] (B := Int) (fun k => 0 ≤ k ∧ k < n) (fun k => .int .i64 k) (fun _ => [rdB r v (p + 1)]) := by
  have h := pick_c r v bs p n w hr hs hp h1 (by omega)
  unfold CallsTo at h ⊢
  refine Calls.mono h ?_
  rintro e w' ⟨k, hk, h2, h3⟩
  exact ⟨k, by omega, h2, h3⟩
end Go.Proofs.Ytcmmfamippdgbaa
