/- Contracts: heads that fork; requests; and the laws FnExactHedOk, FnExactHedFork, FnExactReqOk. -/
import Derived.Test.YtcmmfamippdgbaaA1
namespace Go.Proofs.Ytcmmfamippdgbaa
open Vc

def hedFork (a b : Hed) : Bool := hedOk a && hedOk b && decide (a.size = b.size) && !decide (a = b)

structure Req where
  user : Int
  n : Int
  kind : Int
  ticket : Int
  who : Int
  price : Int
  deriving DecidableEq
@[reducible] def reqE (r : Req) : List Value := [.int .i64 r.user, .int .i64 r.n, .int .i64 r.kind, .int .i64 r.ticket, .int .i64 r.who, .int .i64 r.price]
instance : Enc reqE 6 := ⟨fun _ => rfl, fun _ => rfl, by omega⟩
def reqOk (r : Req) : Bool :=
  inB r.user 1 5 && inB r.n 1 99999 && inB r.kind 1 6 && inB r.ticket 0 7 &&
    (if r.kind = 1 then inB r.who 1 5 && inB r.price 1 50 else decide (r.who = 0) && (if r.kind = 2 then inB r.price 1 999 else decide (r.price = 0)))

set_option maxRecDepth 100000 in
theorem sReqOk_c (r : Req) (w : World) : FnP Try.prog 52 [.agg (reqE r).toArray] w (.bool (reqOk r)) := by
  refine FnP.enter Try.func52 rfl Try.ntmps52 rfl rfl ?_
  repeat' (first|(refine WL.dMove ?_;refine WL.move rfl rfl ?_)|(refine WL.dAssign ?_;refine WL.assign rfl rfl ?_)|(refine WL.dGuard ?_;(first|refine WL.take rfl rfl rfl rfl ?_|refine WL.pass rfl rfl rfl rfl rfl rfl ?_|refine WL.passU rfl rfl rfl rfl rfl rfl ?_|refine WL.gT rfl rfl rfl (by first|assumption|exact decide_eq_true (by omega)|exact notT (by omega)|exact boolT ‹_›) ?_|refine WL.gF rfl rfl rfl (by first|assumption|exact decide_eq_false (by omega)|exact notF (by omega)|exact boolF ‹_›) ?_|refine WL.gD rfl rfl rfl (fun _ => ?_) (fun _ => ?_)|refine WL.gN rfl rfl rfl (fun _ => ?_) (fun _ => ?_)|refine WL.gB rfl rfl rfl (fun _ => ?_) (fun _ => ?_)|refine WL.gsplit rfl rfl rfl (fun _ => ?_) (fun _ => ?_)))|(refine WL.dPick ?_;(first|refine WL.pick_true rfl rfl rfl ?_|refine WL.pick_false rfl rfl rfl ?_))|(refine WL.dLoad ?_;(first|refine WL.ld1 rfl rfl rfl ?_|refine WL.ldW rfl rfl rfl ?_|refine WL.ldA rfl rfl ?_|refine WL.ld0X rfl ‹_› ‹_› ‹_› rfl rfl ?_|refine WL.ldFX rfl ‹_› ‹_› ‹_› rfl rfl ?_|refine WL.ldEX rfl ‹_› ‹_› ‹_› rfl ?_|refine WL.ld0O rfl ‹_› ‹_› rfl rfl ?_|refine WL.ldFO rfl ‹_› ‹_› rfl rfl ?_|refine WL.ldEO rfl ‹_› ‹_› rfl ?_))|(refine WL.dField ?_;(first|refine WL.fieldV rfl rfl ?_|refine WL.fieldW rfl rfl ?_|refine WL.fieldP rfl rfl ?_))|(refine WL.dBin ?_;(first|refine WL.leq rfl rfl rfl ?_|refine WL.lss rfl rfl rfl ?_|refine WL.gtr rfl rfl rfl ?_|refine WL.geq rfl rfl rfl ?_|refine WL.eql rfl rfl rfl ?_|refine WL.neq rfl rfl rfl ?_|refine WL.add rfl rfl rfl (by omega) ?_|refine WL.sub_ rfl rfl rfl (by omega) ?_|refine WL.mul rfl rfl rfl (by omega) ?_|refine WL.quo rfl rfl rfl (by omega) ?_|refine WL.remp rfl rfl rfl (by omega) ?_|refine WL.eqlb rfl rfl rfl ?_|refine WL.neqb rfl rfl rfl ?_|refine WL.neqs rfl rfl rfl rfl ?_|refine WL.eqls rfl rfl rfl rfl ?_))|(refine WL.dUn ?_;(first|refine WL.not rfl rfl ?_|refine WL.neg rfl rfl (by omega) ?_))|(refine WL.dStore ?_;(first|refine WL.st1 rfl rfl (by first|rfl|assumption) ?_|refine WL.stA rfl rfl rfl rfl ?_))|(refine WL.dCall ?_;(first|refine WL.lenX rfl ‹_› rfl ?_|refine WL.lenO rfl rfl ?_|refine WL.apNX rfl rfl ‹_› (by omega) rfl rfl (fun _ _ => ?_)|refine WL.apNO rfl rfl (by omega) rfl rfl (fun _ _ => ?_)|(refine WL.apX rfl rfl ‹_› (by simp;omega) rfl rfl (fun _ _ => ?_))|(refine WL.apO rfl rfl (by simp;omega) rfl rfl (fun _ _ => ?_))|refine WL.callP rfl rfl (fun w _ => l1In_c _ _ _ w) rfl ?_))|(refine WL.dIndex ?_;(first|refine WL.ixNX rfl rfl ‹_› (by omega) rfl (fun _ _ => ?_)|refine WL.ixNO rfl rfl (by omega) rfl (fun _ _ => ?_)|refine WL.ixX rfl rfl ‹_› (by omega) rfl (fun _ _ => ?_)|refine WL.ixO rfl rfl (by omega) rfl (fun _ _ => ?_)))|(refine WL.dOp ?_;(first|refine WL.extract rfl rfl rfl ?_|refine WL.alloc rfl (fun _ => ?_)|refine WL.boxA rfl rfl (fun _ => ?_)|refine WL.box1 rfl (by first|rfl|assumption) rfl (fun _ => ?_)|refine WL.nilCheck rfl rfl ?_|refine WL.build (by repeat (first|exact .nil|apply Bld.one' rfl rfl (by first|rfl|assumption)|apply Bld.agg' rfl rfl rfl)) rfl ?_|(refine WL.lit (E := intE) (by repeat (first|exact .nil|(apply Parts.one;exact rfl;exact rfl)|(apply Parts.agg;exact rfl;exact rfl))) rfl rfl rfl (fun _ _ => ?_))))|refine WL.nil ?_|(refine WC.d ?_;(first|refine WC.seq ?_|refine WC.region ?_|refine WC.cond_true rfl ?_|refine WC.cond_false rfl ?_|refine WC.condT rfl (by first|assumption|exact decide_eq_true (by omega)|exact notT (by omega)|exact boolT ‹_›) ?_|refine WC.condF rfl (by first|assumption|exact decide_eq_false (by omega)|exact notF (by omega)|exact boolF ‹_›) ?_|refine WC.condD rfl (fun _ => ?_) (fun _ => ?_)|refine WC.condN rfl (fun _ => ?_) (fun _ => ?_)|refine WC.condB rfl (fun _ => ?_) (fun _ => ?_)|refine WC.cond rfl (fun _ => ?_) (fun _ => ?_)|refine WC.block ?_|refine WC.skip ?_|refine WC.ret ?_|refine WC.exit ?_|refine WC.draws Ytcmmfamippdgbaa.wide (by kernel_rfl) ?_))|(refine WQ.d ?_;(first|refine WQ.then_normal ?_|refine WQ.then_ret ?_|refine WQ.then_exit ?_|refine WQ.block_normal ?_|refine WQ.block_ret ?_|refine WQ.block_here ?_|refine WQ.block_far rfl ?_|refine WQ.retP rfl (by repeat (first|exact .nil|apply Rets.tmp rfl|apply Rets.cA rfl|apply Rets.c1 rfl rfl)) ?_)))
  all_goals simp_all [retVal, reqOk]
end Go.Proofs.Ytcmmfamippdgbaa
