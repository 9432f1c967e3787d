/- Contracts: gates in slices: sized, copied, compared; through how many somebody has gone. -/
import Derived.Test.YtcmmfamippdgbaaBag
import Derived.Test.YtcmmfamippdgbaaA9
import Derived.Test.YtcmmfamippdgbaaV2
import Derived.Test.YtcmmfamippdgbaaT6
import Derived.Test.YtcmmfamippdgbaaTypes
import Derived.Shelf.Sort.Plain
import Derived.Shelf.Slices.In.SortNone
import Derived.Shelf.Slices.CompactI
import Derived.Sort.OwnSortedInts
import Derived.Lib.OwnBridge
import Derived.Test.YtcmmfamippdgbaaV5
import Derived.Test.YtcmmfamippdgbaaA5
namespace Go.Proofs.Ytcmmfamippdgbaa
open Vc

structure Gat where
  head : Hed
  v : Value
  done : List Int
  h1 : v.oneCell' = true
@[reducible] def gE (g : Gat) : List Value := [.int .i64 g.head.size, .int .i64 g.head.log, .int .i64 g.head.own, g.v]
instance : Enc gE 4 := ⟨fun _ => rfl, fun g => by simp only [gE, List.all_cons, List.all_nil, g.h1]; rfl, by omega⟩
@[reducible] def gO (g : Gat) : List Res := [own intE 1 g.v 3 g.done]
structure GatS (v : Value) (gs : List Gat) (w : World) : Prop where
  sl : Sl gE 4 v gs w
  el : ∀ g ∈ gs, Sl intE 1 g.v g.done w
theorem GatS.ext {v : Value} {gs : List Gat} {w0 w : World} {L : List Res} (h : GatS v gs w0) (hs : St w0 [] w L) : GatS v gs w := ⟨h.sl.ext hs, fun g hg => (h.el g hg).ext hs⟩
theorem GatS.at {v : Value} {gs : List Gat} {w : World} (h : GatS v gs w) {k : Nat} {g : Gat} (hg : gs[k]? = some g) : Sl intE 1 g.v g.done w := h.el g (List.mem_of_getElem? hg)
@[reducible] def gN (v : Value) (gs : List Gat) : Res := nest gE gO 4 v 95 gs
class HasGs (L : List Res) (v : Value) (gs : outParam (List Gat)) : Prop where h : gN v gs ∈ L
instance (priority := 2000) {L : List Res} {v : Value} {gs : List Gat} : HasGs (gN v gs :: L) v gs := ⟨m0⟩
instance {L : List Res} {r : Res} {v : Value} {gs : List Gat} [h : HasGs L v gs] : HasGs (r :: L) v gs := ⟨ms h.h⟩
theorem GatS.o {v : Value} {gs : List Gat} {w0 w : World} {X : List Nat} {L : List Res} [hG : HasGs L v gs] (hs : St w0 X w L) : GatS v gs w :=
  ⟨Sl.of_own (nest_own (hs.res _ hG.h)), fun _ hg => Sl.of_own (nest_el (hs.res _ hG.h) hg m0)⟩
structure GatL (gs : List Gat) (k : Int) : Prop where
  n : (gs.length : Int) ≤ k
  el : ∀ g ∈ gs, (g.done.length : Int) ≤ k
theorem GatL.at {gs : List Gat} {n : Int} (h : GatL gs n) {k : Nat} {g : Gat} (hg : gs[k]? = some g) : (g.done.length : Int) ≤ n := h.el g (List.mem_of_getElem? hg)
theorem GatL.mono {gs : List Gat} {n m : Int} (h : GatL gs n) (hm : n ≤ m) : GatL gs m := ⟨Int.le_trans h.n hm, fun g hg => Int.le_trans (h.el g hg) hm⟩
/-! ## sized -/
/-! ## copied -/
/-! ## compared -/
end Go.Proofs.Ytcmmfamippdgbaa

namespace Go.Proofs.Ytcmmfamippdgbaa
open Vc

def hasT (t : Int) (d : List Int) : Bool := d.any (fun x => decide (x = t))
end Go.Proofs.Ytcmmfamippdgbaa

namespace Go.Proofs.Ytcmmfamippdgbaa
open Vc

/-! ## put in its place -/
def notAbove (n x : Int) : Bool := !decide (n < x)
def posI (n : Int) (xs : List Int) : Nat := (xs.takeWhile (notAbove n)).length
def putI (n : Int) (xs : List Int) : List Int := xs.take (posI n xs) ++ n :: xs.drop (posI n xs)
/-! ## all of them, the reference's way -/
def addI (out : List Int) (x : Int) : List Int := if hasT x out = true then out else putI x out
/-! ## the program's way -/
end Go.Proofs.Ytcmmfamippdgbaa

namespace Go.Proofs.Ytcmmfamippdgbaa
open Vc

def cur (ds : List (List Int)) (i : Nat) : List Int := (ds.take i).flatten.foldl addI []
end Go.Proofs.Ytcmmfamippdgbaa

namespace Go.Proofs.Ytcmmfamippdgbaa
open Vc

section
variable {q : Bool} {P : Program} {w0 : World} {X : List Nat} {N : Nat} {ops : Array Oper} {Q : Exit → Act → World → Prop} {rest : List Oper} {fr : Fr} {L L' : List Res} {d ty : Nat} {ps : String} {af : Array Edge}
variable {α : Type} {E : α → List Value} {sz t i f a : Nat} {v u : Value} {x y : Operand} {T : Nat} {p : Addr} {ys : List α} {e e' : α}
theorem Vc.WC.toL {c : Code} (hL : ∀ w, Vc.St w0 X w L → Vc.St w0 X w L') (h : WC P w0 X N Q c fr L') : WC P w0 X N Q c fr L := by
  unfold Vc.WC at h ⊢
  exact fun a w ha hs => h a w ha (hL w hs)
end
end Go.Proofs.Ytcmmfamippdgbaa
