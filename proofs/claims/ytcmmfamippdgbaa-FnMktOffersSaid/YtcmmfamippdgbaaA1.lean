/- Contracts of the small functions on numbers: ranges, heads, requests. -/
import Derived.Test.YtcmmfamippdgbaaTypes
namespace Go.Proofs.Ytcmmfamippdgbaa
open Vc

def inB (n lo hi : Int) : Bool := decide (lo ≤ n) && decide (n ≤ hi)
theorem inB_true {n lo hi : Int} : inB n lo hi = true ↔ lo ≤ n ∧ n ≤ hi := by simp [inB]
theorem in_c (n lo hi : Int) (w : World) : FnP Try.prog 115 [.int .i64 n, .int .i64 lo, .int .i64 hi] w (.bool (inB n lo hi)) := by
  refine FnP.enter Try.func115 rfl Try.ntmps115 rfl rfl ?_
  repeat' (first|(refine WL.dMove ?_;refine WL.move rfl rfl ?_)|(refine WL.dAssign ?_;refine WL.assign rfl rfl ?_)|(refine WL.dGuard ?_;(first|refine WL.take rfl rfl rfl rfl ?_|refine WL.pass rfl rfl rfl rfl rfl rfl ?_|refine WL.gD rfl rfl rfl (fun _ => ?_) (fun _ => ?_)))|(refine WL.dPick ?_;(first|refine WL.pick_true rfl rfl rfl ?_|refine WL.pick_false rfl rfl rfl ?_))|(refine WL.dBin ?_;refine WL.leq rfl rfl rfl ?_)|refine WL.nil ?_|(refine WC.d ?_;(first|refine WC.seq ?_|refine WC.region ?_|refine WC.ret ?_))|(refine WQ.d ?_;(first|refine WQ.then_normal ?_|refine WQ.retP rfl (by repeat (first|exact .nil|apply Rets.tmp rfl|apply Rets.cA rfl|apply Rets.c1 rfl rfl)) ?_)))
  all_goals (simp_all [retVal, inB] <;> omega)
theorem l1In_c (n lo hi : Int) (w : World) : FnP Try.prog 84 [.int .i64 n, .int .i64 lo, .int .i64 hi] w (.bool (inB n lo hi)) := by
  refine FnP.enter Try.func84 rfl Try.ntmps84 rfl rfl ?_
  repeat' (first|(refine WL.dMove ?_;refine WL.move rfl rfl ?_)|(refine WL.dAssign ?_;refine WL.assign rfl rfl ?_)|(refine WL.dGuard ?_;(first|refine WL.take rfl rfl rfl rfl ?_|refine WL.pass rfl rfl rfl rfl rfl rfl ?_|refine WL.gD rfl rfl rfl (fun _ => ?_) (fun _ => ?_)))|(refine WL.dPick ?_;(first|refine WL.pick_true rfl rfl rfl ?_|refine WL.pick_false rfl rfl rfl ?_))|(refine WL.dBin ?_;(first|refine WL.leq rfl rfl rfl ?_|refine WL.geq rfl rfl rfl ?_))|refine WL.nil ?_|(refine WC.d ?_;(first|refine WC.seq ?_|refine WC.region ?_|refine WC.ret ?_))|(refine WQ.d ?_;(first|refine WQ.then_normal ?_|refine WQ.retP rfl (by repeat (first|exact .nil|apply Rets.tmp rfl|apply Rets.cA rfl|apply Rets.c1 rfl rfl)) ?_)))
  all_goals (simp_all [retVal, inB] <;> omega)

theorem iMixOk_c (n : Int) (w : World) : FnP Try.prog 92 [.int .i64 n] w (.bool (inB n 0 65520)) := by
  refine FnP.enter Try.func92 rfl Try.ntmps92 rfl rfl ?_
  repeat' (first|(refine WL.dMove ?_;refine WL.move rfl rfl ?_)|(refine WL.dAssign ?_;refine WL.assign rfl rfl ?_)|(refine WL.dCall ?_;refine WL.callP rfl rfl (fun w _ => in_c _ _ _ w) rfl ?_)|refine WL.nil ?_|(refine WC.d ?_;(first|refine WC.seq ?_|refine WC.region ?_|refine WC.ret ?_))|(refine WQ.d ?_;(first|refine WQ.then_normal ?_|refine WQ.retP rfl (by repeat (first|exact .nil|apply Rets.tmp rfl|apply Rets.cA rfl|apply Rets.c1 rfl rfl)) ?_)))
  rfl
/-! ## heads -/
structure Hed where
  size : Int
  log : Int
  own : Int
  deriving DecidableEq
@[reducible] def hedE (h : Hed) : List Value := [.int .i64 h.size, .int .i64 h.log, .int .i64 h.own]
instance : Enc hedE 3 := ⟨fun _ => rfl, fun _ => rfl, by omega⟩
def hedOk (h : Hed) : Bool := inB h.size 0 40 && inB h.log 0 65520 && inB h.own 0 65520

end Go.Proofs.Ytcmmfamippdgbaa
