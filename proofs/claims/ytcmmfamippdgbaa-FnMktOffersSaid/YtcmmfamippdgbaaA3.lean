/- Contracts: slices of numbers: copied, compared, added up; and the law FnExactMonSum. -/
import Derived.Test.YtcmmfamippdgbaaA2
namespace Go.Proofs.Ytcmmfamippdgbaa
open Vc

/-- the sum as the machine makes it -/
def sumW (xs : List Int) : Int := xs.foldl (fun s n => IntKind.i64.wrap (s + n)) 0
theorem sumW_take {xs : List Int} {k : Nat} {y : Int} (h : xs[k]? = some y) : IntKind.i64.wrap (sumW (xs.take k) + y) = sumW (xs.take (k + 1)) := by
  unfold sumW
  rw [take_snoc_ h, List.foldl_append]; rfl

theorem sMonSum_c (v : Value) (xs : List Int) (w : World) (hs : Sl intE 1 v xs w) (hl : xs.length ≤ 1099511627776) : FnP Try.prog 122 [v] w (.int .i64 (sumW xs)) := by
  refine FnP.enter Try.func122 rfl Try.ntmps122 rfl rfl ?_
  repeat' (first|(refine WL.dMove ?_;refine WL.move rfl rfl ?_)|(refine WL.dAssign ?_;refine WL.assign rfl rfl ?_)|refine WL.nil ?_|(refine WC.d ?_;(first|refine WC.seq ?_|refine WC.region ?_|refine WC.block ?_))|(refine WQ.d ?_;refine WQ.then_normal ?_))
  refine WC.loop' (A := Nat) (G := fun k => k ≤ xs.length) (frI := fun k => [(3, .int .i64 (sumW (xs.take k))), (0, v), (4, .int .i64 (k : Int))]) (LI := fun _ => []) (μ := fun k => xs.length - k) 0 (Nat.zero_le _) ⟨rfl, rfl, rfl, trivial⟩ (fun _ h => h) (fun k hk => ?_)
  by_cases hlt : k < xs.length
  · obtain ⟨y, hy⟩ := getElem_ex hlt
    repeat' (first|(refine WL.dMove ?_;refine WL.move rfl rfl ?_)|(refine WL.dAssign ?_;refine WL.assign rfl rfl ?_)|(refine WL.dLoad ?_;refine WL.ld0X rfl ‹_› ‹_› ‹_› rfl rfl ?_)|(refine WL.dBin ?_;(first|refine WL.lss rfl rfl rfl ?_|refine WL.add rfl rfl rfl (by omega) ?_|refine WL.addw (n := sumW (xs.take k)) rfl rfl rfl ?_))|(refine WL.dCall ?_;refine WL.lenX rfl ‹_› rfl ?_)|(refine WL.dIndex ?_;refine WL.ixNX rfl rfl ‹_› (by omega) rfl (fun _ _ => ?_))|refine WL.nil ?_|(refine WC.d ?_;(first|refine WC.seq ?_|refine WC.region ?_|refine WC.condT rfl (by first|assumption|exact decide_eq_true (by omega)|exact notT (by omega)|exact boolT ‹_›) ?_|refine WC.block ?_|refine WC.skip ?_))|(refine WQ.d ?_;(first|refine WQ.then_normal ?_|refine WQ.block_normal ?_)))
    exact WQ.again' (k + 1) hlt (by omega) ⟨congrArg (fun n => some (Value.int .i64 n)) (sumW_take hy), rfl, rfl, trivial⟩ (fun _ h => h)
  · repeat' (first|(refine WL.dMove ?_;refine WL.move rfl rfl ?_)|(refine WL.dAssign ?_;refine WL.assign rfl rfl ?_)|(refine WL.dBin ?_;refine WL.lss rfl rfl rfl ?_)|(refine WL.dCall ?_;refine WL.lenX rfl ‹_› rfl ?_)|refine WL.nil ?_|(refine WC.d ?_;(first|refine WC.seq ?_|refine WC.region ?_|refine WC.condF rfl (by first|assumption|exact decide_eq_false (by omega)|exact notF (by omega)|exact boolF ‹_›) ?_|refine WC.ret ?_|refine WC.exit ?_))|(refine WQ.d ?_;(first|refine WQ.then_normal ?_|refine WQ.then_exit ?_|refine WQ.block_here ?_|refine WQ.retP rfl (by repeat (first|exact .nil|apply Rets.tmp rfl|apply Rets.cA rfl|apply Rets.c1 rfl rfl)) ?_)))
    have : xs.take k = xs := List.take_of_length_le (by omega)
    simp [retVal, this]

theorem take_eq_snoc {xs ys : List Int} {k : Nat} {x y : Int} (hx : xs[k]? = some x) (hy : ys[k]? = some y) (h : xs.take k = ys.take k) (e : x = y) : xs.take (k + 1) = ys.take (k + 1) := by
  rw [take_snoc_ hx, take_snoc_ hy, h, e]
end Go.Proofs.Ytcmmfamippdgbaa
