/- Contracts: flat structs and slices of them: sized, copied, compared (written by flat.py). -/
import Derived.Test.YtcmmfamippdgbaaA3
import Derived.Test.YtcmmfamippdgbaaA7
import Derived.Test.YtcmmfamippdgbaaV2
import Derived.Test.YtcmmfamippdgbaaA5
import Derived.Test.YtcmmfamippdgbaaA4
namespace Go.Proofs.Ytcmmfamippdgbaa
open Vc

structure Ent where
  kind : Int
  ticket : Int
  who : Int
  price : Int
  deriving DecidableEq
@[reducible] def entE (h : Ent) : List Value := [.int .i64 h.kind, .int .i64 h.ticket, .int .i64 h.who, .int .i64 h.price]
instance : Enc entE 4 := ⟨fun _ => rfl, fun _ => rfl, by omega⟩
structure Deal where
  ticket : Int
  seller : Int
  price : Int
  buyer : Int
  due : Int
  deriving DecidableEq
@[reducible] def dealE (h : Deal) : List Value := [.int .i64 h.ticket, .int .i64 h.seller, .int .i64 h.price, .int .i64 h.buyer, .int .i64 h.due]
instance : Enc dealE 5 := ⟨fun _ => rfl, fun _ => rfl, by omega⟩
def deal0 : Deal := ⟨0, 0, 0, 0, 0⟩
structure Row where
  who : Int
  face : Int
  used : Bool
  deriving DecidableEq
@[reducible] def rowE (h : Row) : List Value := [.int .i64 h.who, .int .i64 h.face, .bool h.used]
instance : Enc rowE 3 := ⟨fun _ => rfl, fun _ => rfl, by omega⟩
def row0 : Row := ⟨0, 0, false⟩
end Go.Proofs.Ytcmmfamippdgbaa

namespace Go.Proofs.Ytcmmfamippdgbaa
open Vc

section
variable {P : Program} {w0 : World} {X : List Nat} {N : Nat} {ops : Array Oper} {Q : Exit → Act → World → Prop} {rest : List Oper} {fr : Fr} {L L' : List Res} {d ty : Nat} {ps : String} {af : Array Edge}
variable {α : Type} {E : α → List Value} {sz t i f : Nat} {v u : Value} {x y : Operand} {T : Nat} {p : Addr} {ys : List α} {e e' : α}
theorem Vc.WL.stF1 [Enc E sz] [TCell P T false 1] [hR : CReplO L E sz v t (ys.set i e) (ys.set i e') L'] (hx : ev fr x = some (.pointer (some (p.add f)))) (hy : ev fr y = some u) (hp : PtrOf v (i * sz) p) (hi : i < ys.length) (hf : f < sz) [he : CSet (E e) f u (E e')] (h1 : u.oneCell' = true)
    (kk : WL false P w0 X N ops Q rest fr L') : WL false P w0 X N ops Q (⟨none, .store T x y, ty, ps, af, none⟩ :: rest) fr L :=
  WL.storeF (ys := ys.set i e) (e := e) (e' := e') hx hy hp (by rw [List.set_set]; exact hR.h) (by rw [List.getElem?_set_self hi]) hf he.h h1 kk
end
theorem set_self_ {α : Type} {ys : List α} {i : Nat} {y : α} (h : ys[i]? = some y) : ys.set i y = ys := by
  apply List.ext_getElem?
  intro j
  by_cases hj : i = j
  · subst hj; rw [List.getElem?_set_self (List.getElem?_eq_some_iff.1 h).1, h]
  · rw [List.getElem?_set_ne hj]
end Go.Proofs.Ytcmmfamippdgbaa

namespace Go.Proofs.Ytcmmfamippdgbaa
open Vc

/-- the first n resources -/
class Vc.TopN (n : Nat) (L : List Res) (Ls : outParam (List Res)) : Prop where h : Ls = L.take n
instance {L : List Res} : Vc.TopN 0 L [] := ⟨rfl⟩
instance {n : Nat} {r : Res} {L Ls : List Res} [h : Vc.TopN n L Ls] : Vc.TopN (n + 1) (r :: L) (r :: Ls) := ⟨by rw [h.h]; rfl⟩
theorem Vc.WC.drawsL {P : Program} {w0 : World} {X : List Nat} {N : Nat} {Q : Exit → Act → World → Prop} {fr : Fr} {L : List Res} {id : Nat} {l : List Oper} (hm : P.follows .mixedOrders = true)
    (h : WH P w0 X N l.toArray Q L l.length (Array.replicate l.length false) fr L) : WC P w0 X N Q (Code.region id l.toArray true) fr L := WC.drawsX L hm h

/-- a mixed number -/
def Mx (n : Int) : Prop := 0 ≤ n ∧ n ≤ 65520
theorem Mx.le {n : Int} (h : Mx n) : 0 ≤ n ∧ n ≤ 65520 := h
theorem Mx.inB {n : Int} (h : Mx n) : inB n 0 65520 = true := inB_true.2 h
theorem Mx.of {n : Int} (h : Go.Proofs.Ytcmmfamippdgbaa.inB n 0 65520 = true) : Mx n := inB_true.1 h
def mixP (a b : Int) : Int := (a * 8191 + b * 127 + a * b + 31) % 65521
def spl (n : Int) : Int := if n ≤ 2 then 1 else if n ≤ 4 then 2 else if n ≤ 8 then 4 else if n ≤ 16 then 8 else if n ≤ 32 then 16 else 32
end Go.Proofs.Ytcmmfamippdgbaa

namespace Go.Proofs.Ytcmmfamippdgbaa
open Vc

/-! ## leaves of numbers -/
def mixStep (m n : Int) : Int := (m * 4099 + n % 65521 + 11) % 65521
def mixLeaf (xs : List Int) : Int := (xs.foldl mixStep 7 * 31 + xs.length) % 65521
/-! ## roots -/
def rootF : Nat → List Int → Int
  | 0, _ => 0
  | f + 1, xs => if xs.length = 0 then 5 else if xs.length = 1 then headZ' xs else mixP (rootF f (xs.take (spl xs.length).toNat)) (rootF f (xs.drop (spl xs.length).toNat))
where headZ' (xs : List Int) : Int := xs.headD 0
def rootL (xs : List Int) : Int := rootF 41 xs
end Go.Proofs.Ytcmmfamippdgbaa

namespace Go.Proofs.Ytcmmfamippdgbaa
open Vc

def entLeaf (e : Ent) : Int := mixLeaf [e.kind, e.ticket, e.who, e.price]
end Go.Proofs.Ytcmmfamippdgbaa
