/- Contracts: markets: sized, copied, compared; what is held; which deal is about a ticket; the laws FnExactMktHeld and FnExactMktDealOf. -/
import Derived.Test.YtcmmfamippdgbaaFM
import Derived.Test.YtcmmfamippdgbaaT1
import Derived.Test.YtcmmfamippdgbaaA9
namespace Go.Proofs.Ytcmmfamippdgbaa
open Vc

structure Hou where
  log : List Ent
  purses : List Int
  deals : List Deal
  clock : Int
  nums : List Int
  said : List Int
structure HouV where
  l : Value
  p : Value
  d : Value
  n : Value
  s : Value
@[reducible] def houE (h : HouV) (c : Int) : List Value := [h.l, h.p, h.d, .int .i64 c, h.n, h.s]
structure HouOne (h : HouV) : Prop where
  l : h.l.oneCell' = true
  p : h.p.oneCell' = true
  d : h.d.oneCell' = true
  n : h.n.oneCell' = true
  s : h.s.oneCell' = true
structure HouS (h : HouV) (m : Hou) (w : World) : Prop where
  l : Sl entE 4 h.l m.log w
  p : Sl intE 1 h.p m.purses w
  d : Sl dealE 5 h.d m.deals w
  n : Sl intE 1 h.n m.nums w
  s : Sl intE 1 h.s m.said w
theorem HouS.one {h : HouV} {m : Hou} {w : World} (hs : HouS h m w) : HouOne h := ⟨hs.l.one, hs.p.one, hs.d.one, hs.n.one, hs.s.one⟩
theorem HouS.ext {h : HouV} {m : Hou} {w0 w : World} {L : List Res} (hs : HouS h m w0) (hst : St w0 [] w L) : HouS h m w := ⟨hs.l.ext hst, hs.p.ext hst, hs.d.ext hst, hs.n.ext hst, hs.s.ext hst⟩
structure HouL (m : Hou) (k : Int) : Prop where
  l : m.log.length ≤ k
  p : m.purses.length ≤ k
  d : m.deals.length ≤ k
  n : m.nums.length ≤ k
  s : m.said.length ≤ k
theorem HouL.mono {m : Hou} {k j : Int} (h : HouL m k) (hk : k ≤ j) : HouL m j := ⟨Int.le_trans h.l hk, Int.le_trans h.p hk, Int.le_trans h.d hk, Int.le_trans h.n hk, Int.le_trans h.s hk⟩
/-- the resources of a market of the call's own -/
@[reducible] def houR (u : HouV) (m : Hou) : List Res := [own entE 4 u.l 118 m.log, own intE 1 u.p 3 m.purses, own dealE 5 u.d 70 m.deals, own intE 1 u.n 3 m.nums, own intE 1 u.s 3 m.said]
theorem HouS.o {u : HouV} {m : Hou} {w0 w : World} {X : List Nat} {L : List Res} [h1 : HasOwn L u.l Ent entE 4 118 m.log] [h2 : HasOwn L u.p Int intE 1 3 m.purses] [h3 : HasOwn L u.d Deal dealE 5 70 m.deals]
    [h4 : HasOwn L u.n Int intE 1 3 m.nums] [h5 : HasOwn L u.s Int intE 1 3 m.said] (h : St w0 X w L) : HouS u m w := ⟨Sl.own h1.h h, Sl.own h2.h h, Sl.own h3.h h, Sl.own h4.h h, Sl.own h5.h h⟩

/-! ## what is held -/
end Go.Proofs.Ytcmmfamippdgbaa
