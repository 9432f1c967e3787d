/- Contracts: markets: sized, copied, compared; what is held; which deal is about a ticket; the laws FnExactMktHeld and FnExactMktDealOf. -/
import Derived.Test.YtcmmfamippdgbaaT6
import Derived.Test.YtcmmfamippdgbaaA9
namespace Go.Proofs.Ytcmmfamippdgbaa
open Vc

structure Hou where
  log : List Ent
  purses : List Int
  deals : List Deal
  clock : Int
  nums : List Int
  said : List Int
structure HouV where
  l : Value
  p : Value
  d : Value
  n : Value
  s : Value
@[reducible] def houE (h : HouV) (c : Int) : List Value := [h.l, h.p, h.d, .int .i64 c, h.n, h.s]
structure HouOne (h : HouV) : Prop where
  l : h.l.oneCell' = true
  p : h.p.oneCell' = true
  d : h.d.oneCell' = true
  n : h.n.oneCell' = true
  s : h.s.oneCell' = true
structure HouS (h : HouV) (m : Hou) (w : World) : Prop where
  l : Sl entE 4 h.l m.log w
  p : Sl intE 1 h.p m.purses w
  d : Sl dealE 5 h.d m.deals w
  n : Sl intE 1 h.n m.nums w
  s : Sl intE 1 h.s m.said w
theorem HouS.one {h : HouV} {m : Hou} {w : World} (hs : HouS h m w) : HouOne h := ⟨hs.l.one, hs.p.one, hs.d.one, hs.n.one, hs.s.one⟩
theorem HouS.ext {h : HouV} {m : Hou} {w0 w : World} {L : List Res} (hs : HouS h m w0) (hst : St w0 [] w L) : HouS h m w := ⟨hs.l.ext hst, hs.p.ext hst, hs.d.ext hst, hs.n.ext hst, hs.s.ext hst⟩
structure HouL (m : Hou) (k : Int) : Prop where
  l : m.log.length ≤ k
  p : m.purses.length ≤ k
  d : m.deals.length ≤ k
  n : m.nums.length ≤ k
  s : m.said.length ≤ k
theorem HouL.mono {m : Hou} {k j : Int} (h : HouL m k) (hk : k ≤ j) : HouL m j := ⟨Int.le_trans h.l hk, Int.le_trans h.p hk, Int.le_trans h.d hk, Int.le_trans h.n hk, Int.le_trans h.s hk⟩
/-- the resources of a market of the call's own -/
@[reducible] def houR (u : HouV) (m : Hou) : List Res := [own entE 4 u.l 118 m.log, own intE 1 u.p 3 m.purses, own dealE 5 u.d 70 m.deals, own intE 1 u.n 3 m.nums, own intE 1 u.s 3 m.said]
theorem HouS.o {u : HouV} {m : Hou} {w0 w : World} {X : List Nat} {L : List Res} [h1 : HasOwn L u.l Ent entE 4 118 m.log] [h2 : HasOwn L u.p Int intE 1 3 m.purses] [h3 : HasOwn L u.d Deal dealE 5 70 m.deals]
    [h4 : HasOwn L u.n Int intE 1 3 m.nums] [h5 : HasOwn L u.s Int intE 1 3 m.said] (h : St w0 X w L) : HouS u m w := ⟨Sl.own h1.h h, Sl.own h2.h h, Sl.own h3.h h, Sl.own h4.h h, Sl.own h5.h h⟩

/-! ## what is held -/
def heldStep (s : Int) (d : Deal) : Int := if 0 < d.buyer then IntKind.i64.wrap (s + d.price) else s
def heldTo (ds : List Deal) (k : Nat) : Int := (ds.take k).foldl heldStep 0
def mktHeld (ds : List Deal) : Int := ds.foldl heldStep 0
theorem heldTo_succ {ds : List Deal} {k : Nat} {y : Deal} (h : ds[k]? = some y) : heldTo ds (k + 1) = heldStep (heldTo ds k) y := by
  unfold heldTo; rw [take_snoc_ h, List.foldl_append]; rfl
theorem heldTo_all {ds : List Deal} {k : Nat} (h : ds.length ≤ k) : heldTo ds k = mktHeld ds := by unfold heldTo mktHeld; rw [List.take_of_length_le h]
theorem held_c (d : Deal) (w : World) : FnP Try.prog 109 [.agg (dealE d).toArray] w (.bool (decide (0 < d.buyer))) := by
  refine FnP.enter Try.func109 rfl Try.ntmps109 rfl rfl ?_
  repeat' (first|(refine WL.dMove ?_;refine WL.move rfl rfl ?_)|(refine WL.dAssign ?_;refine WL.assign rfl rfl ?_)|(refine WL.dLoad ?_;refine WL.ld1 rfl rfl rfl ?_)|(refine WL.dField ?_;refine WL.fieldV rfl rfl ?_)|(refine WL.dBin ?_;refine WL.gtr rfl rfl rfl ?_)|(refine WL.dOp ?_;refine WL.boxA rfl rfl (fun _ => ?_))|refine WL.nil ?_|(refine WC.d ?_;(first|refine WC.seq ?_|refine WC.region ?_|refine WC.ret ?_))|(refine WQ.d ?_;(first|refine WQ.then_normal ?_|refine WQ.retP rfl (by repeat (first|exact .nil|apply Rets.tmp rfl|apply Rets.cA rfl|apply Rets.c1 rfl rfl)) ?_)))
  rfl
theorem sMktHeld_c (h : HouV) (m : Hou) (c : Int) (w : World) (hs : Sl dealE 5 h.d m.deals w) (hl : m.deals.length ≤ 1099511627776) : FnP Try.prog 46 [.agg (houE h c).toArray] w (.int .i64 (mktHeld m.deals)) := by
  refine FnP.enter Try.func46 rfl Try.ntmps46 rfl rfl ?_
  repeat' (first|(refine WL.dMove ?_;refine WL.move rfl rfl ?_)|(refine WL.dAssign ?_;refine WL.assign rfl rfl ?_)|(refine WL.dOp ?_;refine WL.boxA rfl rfl (fun _ => ?_))|refine WL.nil ?_|(refine WC.d ?_;(first|refine WC.seq ?_|refine WC.region ?_|refine WC.block ?_))|(refine WQ.d ?_;refine WQ.then_normal ?_))
  refine WC.loopN [1] (m.deals.length) (fun k => True) (fun k => [(3, .int .i64 (heldTo m.deals k)), (4, .int .i64 (k : Int))]) (fun k => _) (by repeat (first | exact .nil | apply Pick.cons rfl))  trivial ⟨rfl, rfl, trivial⟩ (fun _ h => h) (fun k hk _ => ?_)
  refine WC.frame (by first | dsimp only [List.cons_append, List.nil_append] | exact rfl) (by first | dsimp only | exact rfl) ?_
  by_cases hlt : k < m.deals.length
  · obtain ⟨y, hy⟩ := getElem_ex hlt
    by_cases hb : 0 < y.buyer
    · repeat' (first|(refine WL.dMove ?_;refine WL.move rfl rfl ?_)|(refine WL.dAssign ?_;refine WL.assign rfl rfl ?_)|(refine WL.dLoad ?_;(first|refine WL.ld1 rfl rfl rfl ?_|refine WL.ldFX rfl ‹_› ‹_› ‹_› rfl rfl ?_))|(refine WL.dField ?_;(first|refine WL.fieldV rfl rfl ?_|refine WL.fieldP rfl rfl ?_))|(refine WL.dBin ?_;(first|refine WL.addw (n := heldTo m.deals k) rfl rfl rfl ?_|refine WL.lss rfl rfl rfl ?_|refine WL.gtr rfl rfl rfl ?_|refine WL.add rfl rfl rfl (by omega) ?_))|(refine WL.dCall ?_;refine WL.lenX rfl ‹_› rfl ?_)|(refine WL.dIndex ?_;refine WL.ixNX rfl rfl ‹_› (by omega) rfl (fun _ _ => ?_))|refine WL.nil ?_|(refine WC.d ?_;(first|refine WC.seq ?_|refine WC.region ?_|refine WC.condT rfl (by first|assumption|exact decide_eq_true (by omega)|exact notT (by omega)|exact boolT ‹_›) ?_|refine WC.block ?_|refine WC.skip ?_))|(refine WQ.d ?_;(first|refine WQ.then_normal ?_|refine WQ.block_normal ?_)))
      exact WQ.againN hlt trivial ⟨congrArg (fun n => some (Value.int .i64 n)) (by rw [heldTo_succ hy, heldStep, if_pos hb]), rfl, trivial⟩ (by repeat (first | exact trivial | refine ⟨rfl, ?_⟩)) (fun _ h => h)
    · repeat' (first|(refine WL.dMove ?_;refine WL.move rfl rfl ?_)|(refine WL.dAssign ?_;refine WL.assign rfl rfl ?_)|(refine WL.dLoad ?_;(first|refine WL.ld1 rfl rfl rfl ?_|refine WL.ldFX rfl ‹_› ‹_› ‹_› rfl rfl ?_))|(refine WL.dField ?_;(first|refine WL.fieldV rfl rfl ?_|refine WL.fieldP rfl rfl ?_))|(refine WL.dBin ?_;(first|refine WL.lss rfl rfl rfl ?_|refine WL.gtr rfl rfl rfl ?_|refine WL.add rfl rfl rfl (by omega) ?_))|(refine WL.dCall ?_;refine WL.lenX rfl ‹_› rfl ?_)|(refine WL.dIndex ?_;refine WL.ixNX rfl rfl ‹_› (by omega) rfl (fun _ _ => ?_))|refine WL.nil ?_|(refine WC.d ?_;(first|refine WC.seq ?_|refine WC.region ?_|refine WC.condT rfl (by first|assumption|exact decide_eq_true (by omega)|exact notT (by omega)|exact boolT ‹_›) ?_|refine WC.condF rfl (by first|assumption|exact decide_eq_false (by omega)|exact notF (by omega)|exact boolF ‹_›) ?_|refine WC.block ?_|refine WC.skip ?_))|(refine WQ.d ?_;(first|refine WQ.then_normal ?_|refine WQ.block_normal ?_)))
      exact WQ.againN hlt trivial ⟨congrArg (fun n => some (Value.int .i64 n)) (by rw [heldTo_succ hy, heldStep, if_neg hb]), rfl, trivial⟩ (by repeat (first | exact trivial | refine ⟨rfl, ?_⟩)) (fun _ h => h)
  · repeat' (first|(refine WL.dMove ?_;refine WL.move rfl rfl ?_)|(refine WL.dAssign ?_;refine WL.assign rfl rfl ?_)|(refine WL.dLoad ?_;refine WL.ld1 rfl rfl rfl ?_)|(refine WL.dField ?_;refine WL.fieldV rfl rfl ?_)|(refine WL.dBin ?_;refine WL.lss rfl rfl rfl ?_)|(refine WL.dCall ?_;refine WL.lenX rfl ‹_› rfl ?_)|refine WL.nil ?_|(refine WC.d ?_;(first|refine WC.seq ?_|refine WC.region ?_|refine WC.condF rfl (by first|assumption|exact decide_eq_false (by omega)|exact notF (by omega)|exact boolF ‹_›) ?_|refine WC.ret ?_|refine WC.exit ?_))|(refine WQ.d ?_;(first|refine WQ.then_normal ?_|refine WQ.then_exit ?_|refine WQ.block_here ?_|refine WQ.retP rfl (by repeat (first|exact .nil|apply Rets.tmp rfl|apply Rets.cA rfl|apply Rets.c1 rfl rfl)) ?_)))
    rw [heldTo_all (by omega)]; rfl
end Go.Proofs.Ytcmmfamippdgbaa
