/- Contracts: flat structs and slices of them: sized, copied, compared (written by flat.py). -/
import Derived.Test.YtcmmfamippdgbaaA3
namespace Go.Proofs.Ytcmmfamippdgbaa
open Vc

structure Ent where
  kind : Int
  ticket : Int
  who : Int
  price : Int
  deriving DecidableEq
@[reducible] def entE (h : Ent) : List Value := [.int .i64 h.kind, .int .i64 h.ticket, .int .i64 h.who, .int .i64 h.price]
instance : Enc entE 4 := ⟨fun _ => rfl, fun _ => rfl, by omega⟩
structure Deal where
  ticket : Int
  seller : Int
  price : Int
  buyer : Int
  due : Int
  deriving DecidableEq
@[reducible] def dealE (h : Deal) : List Value := [.int .i64 h.ticket, .int .i64 h.seller, .int .i64 h.price, .int .i64 h.buyer, .int .i64 h.due]
instance : Enc dealE 5 := ⟨fun _ => rfl, fun _ => rfl, by omega⟩
def deal0 : Deal := ⟨0, 0, 0, 0, 0⟩
structure Row where
  who : Int
  face : Int
  used : Bool
  deriving DecidableEq
@[reducible] def rowE (h : Row) : List Value := [.int .i64 h.who, .int .i64 h.face, .bool h.used]
instance : Enc rowE 3 := ⟨fun _ => rfl, fun _ => rfl, by omega⟩
def row0 : Row := ⟨0, 0, false⟩
end Go.Proofs.Ytcmmfamippdgbaa
