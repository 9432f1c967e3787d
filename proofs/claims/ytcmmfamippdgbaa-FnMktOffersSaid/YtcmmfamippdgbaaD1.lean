/- Contracts: the reader of the draws; purses drawn. -/
import Derived.Test.YtcmmfamippdgbaaA3
import Derived.Test.YtcmmfamippdgbaaV2
namespace Go.Proofs
instance : Ytcmmfamippdgbaa.Vc.TConv Try.prog 5 3 := ⟨by kernel_rfl⟩
end Go.Proofs
namespace Go.Proofs.Ytcmmfamippdgbaa
open Vc

@[reducible] def ptrV (r : Nat) : Value := .pointer (some ⟨r, 0, none⟩)
@[reducible] def rdB (r : Nat) (v : Value) (p : Int) : Res := blk r 135 [v, .int .i64 p]

theorem l20Open_c (v : Value) (bs : List Int) (w : World) (hs : Sl byteE 1 v bs w) :
    CallsTo Try.prog 75 [v] w [] (B := Nat × Value) (fun x => x.2.oneCell' = true ∧ ∀ W, Sl byteE 1 v bs W → Sl byteE 1 x.2 (bs.take 2000) W) (fun x => ptrV x.1) (fun x => [rdB x.1 x.2 0]) := by
  have h1 := hs.one
  refine CallsTo.enter Try.func75 rfl Try.ntmps75 rfl rfl (St.start w []) ?_
  repeat' (first|(refine WL.dMove ?_;refine WL.move rfl rfl ?_)|(refine WL.dAssign ?_;refine WL.assign rfl rfl ?_)|(refine WL.dBin ?_;refine WL.gtr rfl rfl rfl ?_)|(refine WL.dCall ?_;refine WL.lenX rfl ‹_› rfl ?_)|(refine WL.dOp ?_;(first|refine WL.boxA rfl rfl (fun _ => ?_)|refine WL.build (by repeat (first|exact .nil|apply Bld.one' rfl rfl (by first|rfl|assumption)|apply Bld.agg' rfl rfl rfl)) rfl ?_|refine WL.slice_hi (E := byteE) (ys := bs) rfl rfl (fun _ h => hs.ext h) (by omega) rfl (fun v' h1' h2' => ?_)))|refine WL.nil ?_|(refine WC.d ?_;(first|refine WC.seq ?_|refine WC.region ?_|refine WC.condD rfl (fun _ => ?_) (fun _ => ?_)|refine WC.skip ?_|refine WC.ret ?_))|(refine WQ.d ?_;refine WQ.then_normal ?_))
  · refine WQ.retE rfl (by repeat (first | exact .nil | apply Rets.tmp rfl | apply Rets.cA rfl | apply Rets.c1 rfl rfl)) ⟨(_, _), ⟨by assumption, h2'⟩, rfl, fun _ h => h⟩
  · refine WQ.retE rfl (by repeat (first | exact .nil | apply Rets.tmp rfl | apply Rets.cA rfl | apply Rets.c1 rfl rfl)) ⟨(_, _), ⟨h1, fun W h => ?_⟩, rfl, fun _ h => h⟩
    rw [List.take_of_length_le (by omega)]; exact h

theorem CodeS.opened {v u : Value} {bs : List Int} {w : World} (hs : Sl byteE 1 v bs w) (hb : ∀ y ∈ bs, 0 ≤ y ∧ y ≤ 255) (hu : u.oneCell' = true ∧ ∀ W, Sl byteE 1 v bs W → Sl byteE 1 u (bs.take 2000) W) : CodeS u (bs.take 2000) w :=
  ⟨hu.2 _ hs, fun y hy => hb y (List.mem_of_mem_take hy), by simp; omega⟩
theorem pick_c (r : Nat) (v : Value) (bs : List Int) (p n : Int) (w : World) (hr : (rdB r v p).holds w) (hs : Rdr v bs w [r]) (hp : 0 ≤ p ∧ p ≤ 1099511627776) (_h1 : v.oneCell' = true) (hn : n ≤ 1099511627776) :
    CallsTo Try.prog 77 [ptrV r, .int .i64 n] w [r] (B := Int) (fun k => 0 ≤ k ∧ (k = 0 ∨ k < n)) (fun k => .int .i64 k) (fun _ => [rdB r v (p + 1)]) := by
  have hl := hs.len
  refine CallsTo.enter Try.func77 rfl Try.ntmps77 rfl rfl (St.startB hr) ?_
  repeat' (first|(refine WL.dMove ?_;refine WL.move rfl rfl ?_)|(refine WL.dAssign ?_;refine WL.assign rfl rfl ?_)|(refine WL.dGuard ?_;(first|refine WL.take rfl rfl rfl rfl ?_|refine WL.pass rfl rfl rfl rfl rfl rfl ?_|refine WL.gD rfl rfl rfl (fun _ => ?_) (fun _ => ?_)))|(refine WL.dPick ?_;(first|refine WL.pick_true rfl rfl rfl ?_|refine WL.pick_false rfl rfl rfl ?_))|(refine WL.dLoad ?_;(first|refine WL.ldB hs rfl ‹_› rfl (fun _ _ => ?_)|refine WL.ld1 rfl rfl rfl ?_))|(refine WL.dField ?_;refine WL.fieldV rfl rfl ?_)|(refine WL.dBin ?_;(first|refine WL.remV rfl rfl rfl (by omega) (fun _ _ => ?_)|refine WL.quoV rfl rfl rfl (by omega) (fun _ _ => ?_)|refine WL.lss rfl rfl rfl ?_|refine WL.eql rfl rfl rfl ?_|refine WL.add rfl rfl rfl (by omega) ?_|refine WL.sub_ rfl rfl rfl (by omega) ?_|refine WL.mul rfl rfl rfl (by omega) ?_|refine WL.xor rfl rfl rfl (by omega) (fun _ _ => ?_)))|(refine WL.dStore ?_;refine WL.st1 rfl rfl (by first|rfl|assumption) ?_)|(refine WL.dCall ?_;refine WL.lenB hs rfl rfl ?_)|(refine WL.dIndex ?_;refine WL.ixB hs rfl rfl (by omega) rfl (fun _ _ => ?_))|(refine WL.dOp ?_;(first|refine WL.nilCheck rfl rfl ?_|refine WL.conv rfl rfl (by omega) ?_))|refine WL.nil ?_|(refine WC.d ?_;(first|refine WC.seq ?_|refine WC.region ?_|refine WC.cond_true rfl ?_|refine WC.condD rfl (fun _ => ?_) (fun _ => ?_)|refine WC.skip ?_|refine WC.ret ?_|refine WC.draws Ytcmmfamippdgbaa.wide (by kernel_rfl) ?_))|(refine WQ.d ?_;(first|refine WQ.then_normal ?_|refine WQ.then_ret ?_)))
  all_goals (refine WQ.retE rfl (by repeat (first | exact .nil | apply Rets.tmp rfl | apply Rets.cA rfl | apply Rets.c1 rfl rfl)) ⟨_, ?_, rfl, fun _ h => h⟩; omega)
theorem odd_c (r : Nat) (v : Value) (bs : List Int) (p n : Int) (w : World) (hr : (rdB r v p).holds w) (hs : Rdr v bs w [r]) (hp : 0 ≤ p ∧ p ≤ 1099511627776) (h1 : v.oneCell' = true) (hn : 0 ≤ n ∧ n ≤ 1099511627776) :
    CallsTo Try.prog 81 [ptrV r, .int .i64 n] w [r] (B := Bool) (fun k => k = k ∧ True) (fun k => .bool k) (fun _ => [rdB r v (p + 1)]) := by
  refine CallsTo.enter Try.func81 rfl Try.ntmps81 rfl rfl (St.startB hr) ?_
  repeat' (first|(refine WL.dMove ?_;refine WL.move rfl rfl ?_)|(refine WL.dAssign ?_;refine WL.assign rfl rfl ?_)|(refine WL.dBin ?_;(first|refine WL.eql rfl rfl rfl ?_|refine WL.sub_ rfl rfl rfl (by omega) ?_))|(refine WL.dCall ?_;(refine WL.callR1 rfl rfl (fun w h => pick_c _ _ _ _ _ w (by first|exact Sl.ext ‹_› h|exact Sl.o h|exact Sl.v h|exact St.blk h|exact Rdr.sub ‹_› h|exact Rdr.x ‹_› h|exact Reads.sub ‹_› h|exact Reads.nil ‹_› h|exact Reads.x ‹_› h|exact Reads.o h|exact Reads.v h|exact Reads.at ‹_› h|assumption|omega) (by first|exact Sl.ext ‹_› h|exact Sl.o h|exact Sl.v h|exact St.blk h|exact Rdr.sub ‹_› h|exact Rdr.x ‹_› h|exact Reads.sub ‹_› h|exact Reads.nil ‹_› h|exact Reads.x ‹_› h|exact Reads.o h|exact Reads.v h|exact Reads.at ‹_› h|assumption|omega) (by first|exact Sl.ext ‹_› h|exact Sl.o h|exact Sl.v h|exact St.blk h|exact Rdr.sub ‹_› h|exact Rdr.x ‹_› h|exact Reads.sub ‹_› h|exact Reads.nil ‹_› h|exact Reads.x ‹_› h|exact Reads.o h|exact Reads.v h|exact Reads.at ‹_› h|assumption|omega) (by first|exact Sl.ext ‹_› h|exact Sl.o h|exact Sl.v h|exact St.blk h|exact Rdr.sub ‹_› h|exact Rdr.x ‹_› h|exact Reads.sub ‹_› h|exact Reads.nil ‹_› h|exact Reads.x ‹_› h|exact Reads.o h|exact Reads.v h|exact Reads.at ‹_› h|assumption|omega) (by first|exact Sl.ext ‹_› h|exact Sl.o h|exact Sl.v h|exact St.blk h|exact Rdr.sub ‹_› h|exact Rdr.x ‹_› h|exact Reads.sub ‹_› h|exact Reads.nil ‹_› h|exact Reads.x ‹_› h|exact Reads.o h|exact Reads.v h|exact Reads.at ‹_› h|assumption|omega)) rfl (fun u hu => ?_);obtain ⟨hu1, hu2⟩ := hu))|refine WL.nil ?_|(refine WC.d ?_;(first|refine WC.seq ?_|refine WC.region ?_|refine WC.ret ?_))|(refine WQ.d ?_;refine WQ.then_normal ?_))
  exact WQ.retE rfl (by repeat (first | exact .nil | apply Rets.tmp rfl | apply Rets.cA rfl | apply Rets.c1 rfl rfl)) ⟨_, ⟨rfl, trivial⟩, rfl, fun _ h => h⟩

end Go.Proofs.Ytcmmfamippdgbaa
