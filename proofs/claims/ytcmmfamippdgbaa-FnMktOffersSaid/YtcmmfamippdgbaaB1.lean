/- Contracts: money moved; the law FnExactMonMove, walked: it returns true. -/
import Derived.Test.YtcmmfamippdgbaaA5
namespace Go.Proofs.Ytcmmfamippdgbaa
open Vc

def monMove (xs : List Int) (a b n : Int) : List Int × Bool :=
  if inB n 0 100000 = true ∧ a ≠ b ∧ (monTurn xs a (-n)).2 = true ∧ (monTurn (monTurn xs a (-n)).1 b n).2 = true then ((monTurn (monTurn xs a (-n)).1 b n).1, true) else (xs, false)
theorem monMove_no1 {xs : List Int} {a b n : Int} (h : inB n 0 100000 = false) : monMove xs a b n = (xs, false) := by simp [monMove, h]
theorem monMove_no2 {xs : List Int} {a b n : Int} (h : a = b) : monMove xs a b n = (xs, false) := by simp [monMove, h]
theorem monMove_no3 {xs : List Int} {a b n : Int} (h : (monTurn xs a (-n)).2 = false) : monMove xs a b n = (xs, false) := by simp [monMove, h]
theorem monMove_no4 {xs : List Int} {a b n : Int} (h : (monTurn (monTurn xs a (-n)).1 b n).2 = false) : monMove xs a b n = (xs, false) := by simp [monMove, h]
theorem monMove_yes {xs : List Int} {a b n : Int} (h1 : inB n 0 100000 = true) (h2 : a ≠ b) (h3 : (monTurn xs a (-n)).2 = true) (h4 : (monTurn (monTurn xs a (-n)).1 b n).2 = true) : monMove xs a b n = ((monTurn (monTurn xs a (-n)).1 b n).1, true) := by
  rw [monMove, if_pos ⟨h1, h2, h3, h4⟩]
theorem sMonMove_c (v : Value) (xs : List Int) (a b n : Int) (w : World) (hs : Sl intE 1 v xs w) (hl : xs.length ≤ 1099511627776) :
    CallsTo Try.prog 203 [v, .int .i64 a, .int .i64 b, .int .i64 n] w [] (B := Value) (fun u => u.oneCell' = true) (fun u => .tuple #[u, .bool (monMove xs a b n).2]) (fun u => [own intE 1 u 3 (monMove xs a b n).1]) := by
  refine CallsTo.enter Try.func203 rfl Try.ntmps203 rfl rfl (St.start w []) ?_
  have hm := monTurn_length xs a (-n)
  cases hn : inB n 0 100000
  case false =>
    rw [monMove_no1 hn]
    repeat' (first|(refine WL.dMove ?_;refine WL.move rfl rfl ?_)|(refine WL.dAssign ?_;refine WL.assign rfl rfl ?_)|(refine WL.dGuard ?_;refine WL.pass rfl rfl rfl rfl rfl rfl ?_)|(refine WL.dPick ?_;refine WL.pick_true rfl rfl rfl ?_)|(refine WL.dUn ?_;refine WL.not rfl rfl ?_)|(refine WL.dCall ?_;(first|(refine WL.apX rfl rfl ‹_› (by simp;omega) rfl rfl (fun _ _ => ?_))|(refine WL.callP rfl rfl (fun w h => l1In_c n 0 100000 w) rfl ?_;rw [hn])))|(refine WL.dOp ?_;refine WL.lit (E := intE) (ys := []) .nil rfl rfl rfl (fun u0 hu0 => ?_))|refine WL.nil ?_|(refine WC.d ?_;(first|refine WC.seq ?_|refine WC.region ?_|refine WC.cond_true rfl ?_|refine WC.ret ?_))|(refine WQ.d ?_;(first|refine WQ.then_normal ?_|refine WQ.then_ret ?_)))
    (refine WQ.retE rfl (by repeat (first | exact .nil | apply Rets.tmp rfl | apply Rets.cA rfl | apply Rets.c1 rfl rfl)) ?_; exact ⟨_, by assumption, rfl, fun _ h => h⟩)
  have hn' := inB_true.1 hn
  by_cases hab : a = b
  case pos =>
    rw [monMove_no2 hab]
    repeat' (first|(refine WL.dMove ?_;refine WL.move rfl rfl ?_)|(refine WL.dAssign ?_;refine WL.assign rfl rfl ?_)|(refine WL.dGuard ?_;refine WL.take rfl rfl rfl rfl ?_)|(refine WL.dPick ?_;refine WL.pick_false rfl rfl rfl ?_)|(refine WL.dBin ?_;refine WL.eql rfl rfl rfl ?_)|(refine WL.dUn ?_;refine WL.not rfl rfl ?_)|(refine WL.dCall ?_;(first|(refine WL.apX rfl rfl ‹_› (by simp;omega) rfl rfl (fun _ _ => ?_))|(refine WL.callP rfl rfl (fun w h => l1In_c n 0 100000 w) rfl ?_;rw [hn])))|(refine WL.dOp ?_;refine WL.lit (E := intE) (ys := []) .nil rfl rfl rfl (fun u0 hu0 => ?_))|refine WL.nil ?_|(refine WC.d ?_;(first|refine WC.seq ?_|refine WC.region ?_|refine WC.condT rfl (by first|assumption|exact decide_eq_true (by omega)|exact notT (by omega)|exact boolT ‹_›) ?_|refine WC.ret ?_))|(refine WQ.d ?_;(first|refine WQ.then_normal ?_|refine WQ.then_ret ?_)))
    (refine WQ.retE rfl (by repeat (first | exact .nil | apply Rets.tmp rfl | apply Rets.cA rfl | apply Rets.c1 rfl rfl)) ?_; exact ⟨_, by assumption, rfl, fun _ h => h⟩)
  cases h3 : (monTurn xs a (-n)).2
  case false =>
    rw [monMove_no3 h3]
    repeat' (first|(refine WL.dMove ?_;refine WL.move rfl rfl ?_)|(refine WL.dAssign ?_;refine WL.assign rfl rfl ?_)|(refine WL.dGuard ?_;refine WL.take rfl rfl rfl rfl ?_)|(refine WL.dPick ?_;refine WL.pick_false rfl rfl rfl ?_)|(refine WL.dBin ?_;refine WL.eql rfl rfl rfl ?_)|(refine WL.dUn ?_;(first|refine WL.not rfl rfl ?_|refine WL.neg rfl rfl (by omega) ?_))|(refine WL.dCall ?_;(first|(refine WL.apX rfl rfl ‹_› (by simp;omega) rfl rfl (fun _ _ => ?_))|(refine WL.callP rfl rfl (fun w h => l1In_c n 0 100000 w) rfl ?_;rw [hn])|(refine WL.call1 rfl rfl (fun w h => sMonTurn_c v xs a (-n) w (hs.ext h) hl) rfl (fun u hu => ?_);rw [h3])))|(refine WL.dOp ?_;(first|refine WL.extract rfl rfl rfl ?_|refine WL.lit (E := intE) (ys := []) .nil rfl rfl rfl (fun u0 hu0 => ?_)))|refine WL.nil ?_|(refine WC.d ?_;(first|refine WC.seq ?_|refine WC.region ?_|refine WC.cond_true rfl ?_|refine WC.condF rfl (by first|assumption|exact decide_eq_false (by omega)|exact notF (by omega)|exact boolF ‹_›) ?_|refine WC.skip ?_|refine WC.ret ?_))|(refine WQ.d ?_;(first|refine WQ.then_normal ?_|refine WQ.then_ret ?_)))
    refine WQ.retE rfl (by repeat (first | exact .nil | apply Rets.tmp rfl | apply Rets.cA rfl | apply Rets.c1 rfl rfl)) ⟨_, by assumption, rfl, fun _ h => h.sub (by repeat (first | exact List.nil_sublist _ | exact List.Sublist.refl _ | apply List.Sublist.cons_cons | apply List.Sublist.cons))⟩
  cases h4 : (monTurn (monTurn xs a (-n)).1 b n).2
  case false =>
    rw [monMove_no4 h4]
    repeat' (first|(refine WL.dMove ?_;refine WL.move rfl rfl ?_)|(refine WL.dAssign ?_;refine WL.assign rfl rfl ?_)|(refine WL.dGuard ?_;refine WL.take rfl rfl rfl rfl ?_)|(refine WL.dPick ?_;refine WL.pick_false rfl rfl rfl ?_)|(refine WL.dBin ?_;refine WL.eql rfl rfl rfl ?_)|(refine WL.dUn ?_;(first|refine WL.not rfl rfl ?_|refine WL.neg rfl rfl (by omega) ?_))|(refine WL.dCall ?_;(first|(refine WL.apX rfl rfl ‹_› (by simp;omega) rfl rfl (fun _ _ => ?_))|(refine WL.callP rfl rfl (fun w h => l1In_c n 0 100000 w) rfl ?_;rw [hn])|(refine WL.call1 rfl rfl (fun w h => sMonTurn_c v xs a (-n) w (hs.ext h) hl) rfl (fun u hu => ?_);rw [h3])|(refine WL.call1 rfl rfl (fun w h => sMonTurn_c _ (monTurn xs a (-n)).1 b n w (Sl.o h) (by omega)) rfl (fun u hu => ?_);rw [h4])))|(refine WL.dOp ?_;(first|refine WL.extract rfl rfl rfl ?_|refine WL.lit (E := intE) (ys := []) .nil rfl rfl rfl (fun u0 hu0 => ?_)))|refine WL.nil ?_|(refine WC.d ?_;(first|refine WC.seq ?_|refine WC.region ?_|refine WC.cond_true rfl ?_|refine WC.cond_false rfl ?_|refine WC.condF rfl (by first|assumption|exact decide_eq_false (by omega)|exact notF (by omega)|exact boolF ‹_›) ?_|refine WC.skip ?_|refine WC.ret ?_))|(refine WQ.d ?_;(first|refine WQ.then_normal ?_|refine WQ.then_ret ?_)))
    refine WQ.retE rfl (by repeat (first | exact .nil | apply Rets.tmp rfl | apply Rets.cA rfl | apply Rets.c1 rfl rfl)) ⟨_, by assumption, rfl, fun _ h => h.sub (by repeat (first | exact List.nil_sublist _ | exact List.Sublist.refl _ | apply List.Sublist.cons_cons | apply List.Sublist.cons))⟩
  rw [monMove_yes hn hab h3 h4]
  repeat' (first|(refine WL.dMove ?_;refine WL.move rfl rfl ?_)|(refine WL.dAssign ?_;refine WL.assign rfl rfl ?_)|(refine WL.dGuard ?_;refine WL.take rfl rfl rfl rfl ?_)|(refine WL.dPick ?_;refine WL.pick_false rfl rfl rfl ?_)|(refine WL.dBin ?_;refine WL.eql rfl rfl rfl ?_)|(refine WL.dUn ?_;(first|refine WL.not rfl rfl ?_|refine WL.neg rfl rfl (by omega) ?_))|(refine WL.dCall ?_;(first|(refine WL.callP rfl rfl (fun w h => l1In_c n 0 100000 w) rfl ?_;rw [hn])|(refine WL.call1 rfl rfl (fun w h => sMonTurn_c v xs a (-n) w (hs.ext h) hl) rfl (fun u hu => ?_);rw [h3])|(refine WL.call1 rfl rfl (fun w h => sMonTurn_c _ (monTurn xs a (-n)).1 b n w (Sl.o h) (by omega)) rfl (fun u hu => ?_);rw [h4])))|(refine WL.dOp ?_;refine WL.extract rfl rfl rfl ?_)|refine WL.nil ?_|(refine WC.d ?_;(first|refine WC.seq ?_|refine WC.region ?_|refine WC.cond_false rfl ?_|refine WC.condF rfl (by first|assumption|exact decide_eq_false (by omega)|exact notF (by omega)|exact boolF ‹_›) ?_|refine WC.skip ?_|refine WC.ret ?_))|(refine WQ.d ?_;refine WQ.then_normal ?_))
  refine WQ.retE rfl (by repeat (first | exact .nil | apply Rets.tmp rfl | apply Rets.cA rfl | apply Rets.c1 rfl rfl)) ⟨_, by assumption, rfl, fun _ h => h.sub (by repeat (first | exact List.nil_sublist _ | exact List.Sublist.refl _ | apply List.Sublist.cons_cons | apply List.Sublist.cons))⟩

end Go.Proofs.Ytcmmfamippdgbaa
