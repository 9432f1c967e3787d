/- Contracts: purses. -/
import Derived.Test.YtcmmfamippdgbaaA3
namespace Go.Proofs.Ytcmmfamippdgbaa
open Vc

theorem any_take_succ {xs : List Int} {p : Int → Bool} {k : Nat} {y : Int} (h : (xs.take k).any p = false) (hy : xs[k]? = some y) (hp : p y = false) : (xs.take (k + 1)).any p = false := by
  rw [take_snoc_ hy, List.any_append, h]; simp [hp]

def monOk (xs : List Int) : Bool := decide (xs.length = 5) && xs.all (fun n => inB n 0 100000)
theorem monOk_len {xs : List Int} (h : monOk xs = true) : xs.length = 5 := by simp [monOk] at h; exact h.1
theorem monOk_at {xs : List Int} (h : monOk xs = true) {k : Nat} {y : Int} (hy : xs[k]? = some y) : 0 ≤ y ∧ y ≤ 100000 := by
  simp [monOk] at h
  have := h.2 y (List.mem_of_getElem? hy)
  exact inB_true.1 this

theorem sMonOk_c (v : Value) (xs : List Int) (w : World) (hs : Sl intE 1 v xs w) (_hl : xs.length ≤ 1099511627776) : FnP Try.prog 120 [v] w (.bool (monOk xs)) := by
  refine FnP.enter Try.func120 rfl Try.ntmps120 rfl rfl ?_
  by_cases h5 : xs.length = 5
  case neg =>
    repeat' (first|(refine WL.dMove ?_;refine WL.move rfl rfl ?_)|(refine WL.dAssign ?_;refine WL.assign rfl rfl ?_)|(refine WL.dBin ?_;refine WL.neq rfl rfl rfl ?_)|(refine WL.dCall ?_;refine WL.lenX rfl ‹_› rfl ?_)|refine WL.nil ?_|(refine WC.d ?_;(first|refine WC.seq ?_|refine WC.region ?_|refine WC.condT rfl (by first|assumption|exact decide_eq_true (by omega)|exact notT (by omega)|exact boolT ‹_›) ?_|refine WC.ret ?_))|(refine WQ.d ?_;(first|refine WQ.then_normal ?_|refine WQ.then_ret ?_|refine WQ.retP rfl (by repeat (first|exact .nil|apply Rets.tmp rfl|apply Rets.cA rfl|apply Rets.c1 rfl rfl)) ?_)))
    simp [retVal, monOk, h5]
  repeat' (first|(refine WL.dMove ?_;refine WL.move rfl rfl ?_)|(refine WL.dAssign ?_;refine WL.assign rfl rfl ?_)|(refine WL.dBin ?_;refine WL.neq rfl rfl rfl ?_)|(refine WL.dCall ?_;refine WL.lenX rfl ‹_› rfl ?_)|refine WL.nil ?_|(refine WC.d ?_;(first|refine WC.seq ?_|refine WC.region ?_|refine WC.condF rfl (by first|assumption|exact decide_eq_false (by omega)|exact notF (by omega)|exact boolF ‹_›) ?_|refine WC.block ?_|refine WC.skip ?_))|(refine WQ.d ?_;refine WQ.then_normal ?_))
  refine WC.loop' (A := Nat) (G := fun k => k ≤ xs.length ∧ (xs.take k).any (fun n => !inB n 0 100000) = false) (frI := fun k => [(0, v), (3, .int .i64 (k : Int))]) (LI := fun _ => []) (μ := fun k => xs.length - k) 0 ⟨Nat.zero_le _, rfl⟩ ⟨rfl, rfl, trivial⟩ (fun _ h => h) (fun k hk => ?_)
  obtain ⟨hk, hno⟩ := hk
  by_cases hlt : k < xs.length
  · obtain ⟨y, hy⟩ := getElem_ex hlt
    cases hp : inB y 0 100000
    · repeat' (first|(refine WL.dMove ?_;refine WL.move rfl rfl ?_)|(refine WL.dAssign ?_;refine WL.assign rfl rfl ?_)|(refine WL.dLoad ?_;refine WL.ld0X rfl ‹_› ‹_› ‹_› rfl rfl ?_)|(refine WL.dBin ?_;refine WL.lss rfl rfl rfl ?_)|(refine WL.dUn ?_;refine WL.not rfl rfl ?_)|(refine WL.dCall ?_;(first|refine WL.lenX rfl ‹_› rfl ?_|refine WL.callP rfl rfl (fun w _ => l1In_c _ _ _ w) rfl ?_))|(refine WL.dIndex ?_;refine WL.ixNX rfl rfl ‹_› (by omega) rfl (fun _ _ => ?_))|refine WL.nil ?_|(refine WC.d ?_;(first|refine WC.seq ?_|refine WC.region ?_|refine WC.condT rfl (by first|assumption|exact decide_eq_true (by omega)|exact notT (by omega)|exact boolT ‹_›) ?_|refine WC.block ?_|refine WC.skip ?_|refine WC.ret ?_))|(refine WQ.d ?_;(first|refine WQ.then_normal ?_|refine WQ.then_ret ?_|refine WQ.block_ret ?_|refine WQ.retP rfl (by repeat (first|exact .nil|apply Rets.tmp rfl|apply Rets.cA rfl|apply Rets.c1 rfl rfl)) ?_)))
      have : xs.all (fun n => inB n 0 100000) = false := by rw [List.all_eq_false]; exact ⟨y, List.mem_of_getElem? hy, by simp [hp]⟩
      simp [retVal, monOk, this]
    · repeat' (first|(refine WL.dMove ?_;refine WL.move rfl rfl ?_)|(refine WL.dAssign ?_;refine WL.assign rfl rfl ?_)|(refine WL.dLoad ?_;refine WL.ld0X rfl ‹_› ‹_› ‹_› rfl rfl ?_)|(refine WL.dBin ?_;(first|refine WL.lss rfl rfl rfl ?_|refine WL.add rfl rfl rfl (by omega) ?_))|(refine WL.dUn ?_;refine WL.not rfl rfl ?_)|(refine WL.dCall ?_;(first|refine WL.lenX rfl ‹_› rfl ?_|refine WL.callP rfl rfl (fun w _ => l1In_c _ _ _ w) rfl ?_))|(refine WL.dIndex ?_;refine WL.ixNX rfl rfl ‹_› (by omega) rfl (fun _ _ => ?_))|refine WL.nil ?_|(refine WC.d ?_;(first|refine WC.seq ?_|refine WC.region ?_|refine WC.condT rfl (by first|assumption|exact decide_eq_true (by omega)|exact notT (by omega)|exact boolT ‹_›) ?_|refine WC.condF rfl (by first|assumption|exact decide_eq_false (by omega)|exact notF (by omega)|exact boolF ‹_›) ?_|refine WC.block ?_|refine WC.skip ?_))|(refine WQ.d ?_;(first|refine WQ.then_normal ?_|refine WQ.block_normal ?_)))
      exact WQ.again' (k + 1) ⟨hlt, any_take_succ hno hy (by simp [hp])⟩ (by omega) ⟨rfl, rfl, trivial⟩ (fun _ h => h)
  · repeat' (first|(refine WL.dMove ?_;refine WL.move rfl rfl ?_)|(refine WL.dAssign ?_;refine WL.assign rfl rfl ?_)|(refine WL.dBin ?_;refine WL.lss rfl rfl rfl ?_)|(refine WL.dCall ?_;refine WL.lenX rfl ‹_› rfl ?_)|refine WL.nil ?_|(refine WC.d ?_;(first|refine WC.seq ?_|refine WC.region ?_|refine WC.condF rfl (by first|assumption|exact decide_eq_false (by omega)|exact notF (by omega)|exact boolF ‹_›) ?_|refine WC.ret ?_|refine WC.exit ?_))|(refine WQ.d ?_;(first|refine WQ.then_normal ?_|refine WQ.then_exit ?_|refine WQ.block_here ?_|refine WQ.retP rfl (by repeat (first|exact .nil|apply Rets.tmp rfl|apply Rets.cA rfl|apply Rets.c1 rfl rfl)) ?_)))
    rw [List.take_of_length_le (by omega)] at hno
    simp [retVal, monOk, h5, List.all_eq_not_any_not, hno]

end Go.Proofs.Ytcmmfamippdgbaa
