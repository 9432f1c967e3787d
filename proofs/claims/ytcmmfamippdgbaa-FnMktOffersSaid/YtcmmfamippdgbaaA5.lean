/- Contracts: a purse turned; what is marked and held; and the law FnExactMonTurn. -/
import Derived.Test.YtcmmfamippdgbaaA4
namespace Go.Proofs.Ytcmmfamippdgbaa
open Vc

def monTurn (xs : List Int) (who n : Int) : List Int × Bool :=
  if monOk xs = true ∧ inB who 1 5 = true ∧ inB n (-100000) 100000 = true ∧ inB (xs.getD (who - 1).toNat 0 + n) 0 100000 = true then (xs.set (who - 1).toNat (xs.getD (who - 1).toNat 0 + n), true) else (xs, false)
theorem monTurn_no1 {xs : List Int} {who n : Int} (h : monOk xs = false) : monTurn xs who n = (xs, false) := by simp [monTurn, h]
theorem monTurn_no2 {xs : List Int} {who n : Int} (h : inB who 1 5 = false) : monTurn xs who n = (xs, false) := by simp [monTurn, h]
theorem monTurn_no3 {xs : List Int} {who n : Int} (h : inB n (-100000) 100000 = false) : monTurn xs who n = (xs, false) := by simp [monTurn, h]
theorem monTurn_no4 {xs : List Int} {who n y : Int} (hy : xs[(who - 1).toNat]? = some y) (h : inB (y + n) 0 100000 = false) : monTurn xs who n = (xs, false) := by
  have : xs.getD (who - 1).toNat 0 = y := by rw [List.getD_eq_getElem?_getD, hy]; rfl
  rw [monTurn, this, if_neg (by rintro ⟨_, _, _, h4⟩; rw [h] at h4; cases h4)]
theorem monTurn_yes {xs : List Int} {who n y : Int} (h1 : monOk xs = true) (h2 : inB who 1 5 = true) (h3 : inB n (-100000) 100000 = true) (hy : xs[(who - 1).toNat]? = some y) (h4 : inB (y + n) 0 100000 = true) : monTurn xs who n = (xs.set (who - 1).toNat (y + n), true) := by
  have : xs.getD (who - 1).toNat 0 = y := by rw [List.getD_eq_getElem?_getD, hy]; rfl
  rw [monTurn, this, if_pos ⟨h1, h2, h3, h4⟩]
theorem monTurn_length (xs : List Int) (who n : Int) : (monTurn xs who n).1.length = xs.length := by unfold monTurn; split <;> simp

theorem sMonTurn_c (v : Value) (xs : List Int) (who n : Int) (w : World) (hs : Sl intE 1 v xs w) (hl : xs.length ≤ 1099511627776) :
    CallsTo Try.prog 173 [v, .int .i64 who, .int .i64 n] w [] (B := Value) (fun u => u.oneCell' = true) (fun u => .tuple #[u, .bool (monTurn xs who n).2]) (fun u => [own intE 1 u 3 (monTurn xs who n).1]) := by
  refine CallsTo.enter Try.func173 rfl Try.ntmps173 rfl rfl (St.start w []) ?_
  cases ho : monOk xs
  case false =>
    rw [monTurn_no1 ho]
    repeat' (first|(refine WL.dMove ?_;refine WL.move rfl rfl ?_)|(refine WL.dAssign ?_;refine WL.assign rfl rfl ?_)|(refine WL.dGuard ?_;(first|refine WL.pass rfl rfl rfl rfl rfl rfl ?_|refine WL.gT rfl rfl rfl (by first|assumption|exact decide_eq_true (by omega)|exact notT (by omega)|exact boolT ‹_›) ?_))|(refine WL.dPick ?_;refine WL.pick_true rfl rfl rfl ?_)|(refine WL.dUn ?_;refine WL.not rfl rfl ?_)|(refine WL.dCall ?_;(first|(refine WL.apX rfl rfl ‹_› (by simp;omega) rfl rfl (fun _ _ => ?_))|refine WL.callP rfl rfl (fun w h => sMonOk_c v xs w (hs.ext h) hl) rfl ?_))|(refine WL.dOp ?_;refine WL.lit (E := intE) (ys := []) .nil rfl rfl rfl (fun u0 hu0 => ?_))|refine WL.nil ?_|(refine WC.d ?_;(first|refine WC.seq ?_|refine WC.region ?_|refine WC.cond_true rfl ?_|refine WC.ret ?_))|(refine WQ.d ?_;(first|refine WQ.then_normal ?_|refine WQ.then_ret ?_)))
    (refine WQ.retE rfl (by repeat (first | exact .nil | apply Rets.tmp rfl | apply Rets.cA rfl | apply Rets.c1 rfl rfl)) ?_; exact ⟨_, by assumption, rfl, fun _ h => h⟩)
  cases hw : inB who 1 5
  case false =>
    rw [monTurn_no2 hw]
    repeat' (first|(refine WL.dMove ?_;refine WL.move rfl rfl ?_)|(refine WL.dAssign ?_;refine WL.assign rfl rfl ?_)|(refine WL.dGuard ?_;(first|refine WL.take rfl rfl rfl rfl ?_|refine WL.pass rfl rfl rfl rfl rfl rfl ?_|refine WL.gT rfl rfl rfl (by first|assumption|exact decide_eq_true (by omega)|exact notT (by omega)|exact boolT ‹_›) ?_|refine WL.gF rfl rfl rfl (by first|assumption|exact decide_eq_false (by omega)|exact notF (by omega)|exact boolF ‹_›) ?_))|(refine WL.dPick ?_;(first|refine WL.pick_true rfl rfl rfl ?_|refine WL.pick_false rfl rfl rfl ?_))|(refine WL.dUn ?_;refine WL.not rfl rfl ?_)|(refine WL.dCall ?_;(first|(refine WL.apX rfl rfl ‹_› (by simp;omega) rfl rfl (fun _ _ => ?_))|refine WL.callP rfl rfl (fun w h => sMonOk_c v xs w (hs.ext h) hl) rfl ?_|refine WL.callP rfl rfl (fun w h => l1In_c _ _ _ w) rfl ?_))|(refine WL.dOp ?_;refine WL.lit (E := intE) (ys := []) .nil rfl rfl rfl (fun u0 hu0 => ?_))|refine WL.nil ?_|(refine WC.d ?_;(first|refine WC.seq ?_|refine WC.region ?_|refine WC.cond_true rfl ?_|refine WC.ret ?_))|(refine WQ.d ?_;(first|refine WQ.then_normal ?_|refine WQ.then_ret ?_)))
    (refine WQ.retE rfl (by repeat (first | exact .nil | apply Rets.tmp rfl | apply Rets.cA rfl | apply Rets.c1 rfl rfl)) ?_; exact ⟨_, by assumption, rfl, fun _ h => h⟩)
  cases hn : inB n (-100000) 100000
  case false =>
    rw [monTurn_no3 hn]
    repeat' (first|(refine WL.dMove ?_;refine WL.move rfl rfl ?_)|(refine WL.dAssign ?_;refine WL.assign rfl rfl ?_)|(refine WL.dGuard ?_;(first|refine WL.take rfl rfl rfl rfl ?_|refine WL.pass rfl rfl rfl rfl rfl rfl ?_|refine WL.gT rfl rfl rfl (by first|assumption|exact decide_eq_true (by omega)|exact notT (by omega)|exact boolT ‹_›) ?_|refine WL.gF rfl rfl rfl (by first|assumption|exact decide_eq_false (by omega)|exact notF (by omega)|exact boolF ‹_›) ?_))|(refine WL.dPick ?_;(first|refine WL.pick_true rfl rfl rfl ?_|refine WL.pick_false rfl rfl rfl ?_))|(refine WL.dUn ?_;refine WL.not rfl rfl ?_)|(refine WL.dCall ?_;(first|(refine WL.apX rfl rfl ‹_› (by simp;omega) rfl rfl (fun _ _ => ?_))|refine WL.callP rfl rfl (fun w h => sMonOk_c v xs w (hs.ext h) hl) rfl ?_|refine WL.callP rfl rfl (fun w h => l1In_c _ _ _ w) rfl ?_))|(refine WL.dOp ?_;refine WL.lit (E := intE) (ys := []) .nil rfl rfl rfl (fun u0 hu0 => ?_))|refine WL.nil ?_|(refine WC.d ?_;(first|refine WC.seq ?_|refine WC.region ?_|refine WC.cond_true rfl ?_|refine WC.ret ?_))|(refine WQ.d ?_;(first|refine WQ.then_normal ?_|refine WQ.then_ret ?_)))
    (refine WQ.retE rfl (by repeat (first | exact .nil | apply Rets.tmp rfl | apply Rets.cA rfl | apply Rets.c1 rfl rfl)) ?_; exact ⟨_, by assumption, rfl, fun _ h => h⟩)
  have h5 := monOk_len ho
  have hw' := inB_true.1 hw
  have hn' := inB_true.1 hn
  obtain ⟨y, hy⟩ := getElem_ex (xs := xs) (k := (who - 1).toNat) (by omega)
  have hyb := monOk_at ho hy
  cases hr : inB (y + n) 0 100000
  case false =>
    rw [monTurn_no4 hy hr]
    repeat' (first|(refine WL.dMove ?_;refine WL.move rfl rfl ?_)|(refine WL.dAssign ?_;refine WL.assign rfl rfl ?_)|(refine WL.dGuard ?_;(first|refine WL.take rfl rfl rfl rfl ?_|refine WL.gF rfl rfl rfl (by first|assumption|exact decide_eq_false (by omega)|exact notF (by omega)|exact boolF ‹_›) ?_))|(refine WL.dPick ?_;refine WL.pick_false rfl rfl rfl ?_)|(refine WL.dLoad ?_;refine WL.ld0X rfl ‹_› ‹_› ‹_› rfl rfl ?_)|(refine WL.dBin ?_;(first|refine WL.add rfl rfl rfl (by omega) ?_|refine WL.sub_ rfl rfl rfl (by omega) ?_))|(refine WL.dUn ?_;refine WL.not rfl rfl ?_)|(refine WL.dCall ?_;(first|(refine WL.apX rfl rfl ‹_› (by simp;omega) rfl rfl (fun _ _ => ?_))|refine WL.callP rfl rfl (fun w h => sMonOk_c v xs w (hs.ext h) hl) rfl ?_|refine WL.callP rfl rfl (fun w h => l1In_c _ _ _ w) rfl ?_))|(refine WL.dIndex ?_;refine WL.ixX rfl rfl ‹_› (by omega) rfl (fun _ _ => ?_))|(refine WL.dOp ?_;refine WL.lit (E := intE) (ys := []) .nil rfl rfl rfl (fun u0 hu0 => ?_))|refine WL.nil ?_|(refine WC.d ?_;(first|refine WC.seq ?_|refine WC.region ?_|refine WC.condT rfl (by first|assumption|exact decide_eq_true (by omega)|exact notT (by omega)|exact boolT ‹_›) ?_|refine WC.ret ?_))|(refine WQ.d ?_;(first|refine WQ.then_normal ?_|refine WQ.then_ret ?_)))
    (refine WQ.retE rfl (by repeat (first | exact .nil | apply Rets.tmp rfl | apply Rets.cA rfl | apply Rets.c1 rfl rfl)) ?_; exact ⟨_, by assumption, rfl, fun _ h => h⟩)
  have h5' : ([] ++ xs).length = 5 := h5
  have hy' : ([] ++ xs)[(who - 1).toNat]? = some y := hy
  rw [monTurn_yes ho hw hn hy hr]
  repeat' (first|(refine WL.dMove ?_;refine WL.move rfl rfl ?_)|(refine WL.dAssign ?_;refine WL.assign rfl rfl ?_)|(refine WL.dGuard ?_;(first|refine WL.take rfl rfl rfl rfl ?_|refine WL.gF rfl rfl rfl (by first|assumption|exact decide_eq_false (by omega)|exact notF (by omega)|exact boolF ‹_›) ?_))|(refine WL.dPick ?_;refine WL.pick_false rfl rfl rfl ?_)|(refine WL.dLoad ?_;(first|refine WL.ld0X rfl ‹_› ‹_› ‹_› rfl rfl ?_|refine WL.ld0O rfl ‹_› ‹_› rfl rfl ?_))|(refine WL.dBin ?_;(first|refine WL.add rfl rfl rfl (by omega) ?_|refine WL.sub_ rfl rfl rfl (by omega) ?_))|(refine WL.dUn ?_;refine WL.not rfl rfl ?_)|(refine WL.dStore ?_;refine WL.st0O (E := intE) (e' := y + n) rfl rfl ‹_› hy' rfl ?_)|(refine WL.dCall ?_;(first|(refine WL.apX rfl rfl ‹_› (by simp;omega) rfl rfl (fun _ _ => ?_))|refine WL.callP rfl rfl (fun w h => sMonOk_c v xs w (hs.ext h) hl) rfl ?_|refine WL.callP rfl rfl (fun w h => l1In_c _ _ _ w) rfl ?_))|(refine WL.dIndex ?_;(first|refine WL.ixX rfl rfl ‹_› (by omega) rfl (fun _ _ => ?_)|refine WL.ixO rfl rfl (by omega) rfl (fun _ _ => ?_)))|(refine WL.dOp ?_;refine WL.lit (E := intE) (ys := []) .nil rfl rfl rfl (fun u0 hu0 => ?_))|refine WL.nil ?_|(refine WC.d ?_;(first|refine WC.seq ?_|refine WC.region ?_|refine WC.condF rfl (by first|assumption|exact decide_eq_false (by omega)|exact notF (by omega)|exact boolF ‹_›) ?_|refine WC.skip ?_|refine WC.ret ?_))|(refine WQ.d ?_;refine WQ.then_normal ?_))
  (refine WQ.retE rfl (by repeat (first | exact .nil | apply Rets.tmp rfl | apply Rets.cA rfl | apply Rets.c1 rfl rfl)) ?_; exact ⟨_, by assumption, rfl, fun _ h => h⟩)

/-! ## marks -/
def marks (k : Int) (n : Nat) : List Int := (List.range n).map (fun i : Nat => k + (i : Int))
end Go.Proofs.Ytcmmfamippdgbaa
