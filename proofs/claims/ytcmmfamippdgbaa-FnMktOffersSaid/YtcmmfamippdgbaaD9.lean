/- Contracts: mixed numbers and entries drawn. -/
import Derived.Test.YtcmmfamippdgbaaD1
import Derived.Test.YtcmmfamippdgbaaO2
import Derived.Test.YtcmmfamippdgbaaV5
import Derived.Test.YtcmmfamippdgbaaD4
import Derived.Test.YtcmmfamippdgbaaO5
import Derived.Test.YtcmmfamippdgbaaP2
import Derived.Test.YtcmmfamippdgbaaO3
namespace Go.Proofs.Ytcmmfamippdgbaa
open Vc

class Vc.OwnOf (L : List Res) (Ls : outParam (List Res)) : Prop where h : Ls.Sublist L
instance : Vc.OwnOf [] [] := ⟨List.Sublist.refl _⟩
instance {b t : Nat} {cs : List Value} {L Ls : List Res} [h : Vc.OwnOf L Ls] : Vc.OwnOf (blk b t cs :: L) Ls := ⟨h.h.cons _⟩
instance {α : Type} {E : α → List Value} {sz t : Nat} {v : Value} {ys : List α} {L Ls : List Res} [h : Vc.OwnOf L Ls] : Vc.OwnOf (own E sz v t ys :: L) (own E sz v t ys :: Ls) := ⟨h.h.cons_cons _⟩
instance {α : Type} {E : α → List Value} {sz : Nat} [Enc E sz] {v : Value} {ys : List α} {L Ls : List Res} [h : Vc.OwnOf L Ls] : Vc.OwnOf (vw E sz v ys :: L) (vw E sz v ys :: Ls) := ⟨h.h.cons_cons _⟩
theorem entCap_fits (n : Int) : 0 ≤ entCap n ∧ entCap n ≤ 60 := by
  unfold entCap; split
  · rename_i h; have := inB_true.1 h; omega
  · omega
theorem pickP_c (r : Nat) (v : Value) (bs : List Int) (p n : Int) (w : World) (hr : (rdB r v p).holds w) (hs : Rdr v bs w [r]) (hp : 0 ≤ p ∧ p ≤ 1099511627776) (h1 : v.oneCell' = true) (hn : 1 ≤ n ∧ n ≤ 1099511627776) :
    CallsTo Try.prog 77 [ptrV r, .int .i64 n] w [r] (B := Int) (fun k => 0 ≤ k ∧ k < n) (fun k => .int .i64 k) (fun _ => [rdB r v (p + 1)]) := by
  have h := pick_c r v bs p n w hr hs hp h1 (by omega)
  unfold CallsTo at h ⊢
  refine Calls.mono h ?_
  rintro e w' ⟨k, hk, h2, h3⟩
  exact ⟨k, by omega, h2, h3⟩
set_option maxHeartbeats 1600000 in
theorem l20Entry_c (r : Nat) (v : Value) (bs : List Int) (p n : Int) (w : World) (hr : (rdB r v p).holds w) (hs : Rdr v bs w [r]) (hp : 0 ≤ p ∧ p ≤ 1099511627000) (h1 : v.oneCell' = true) (hn : 0 ≤ n ∧ n ≤ 1099511627776) :
    CallsTo Try.prog 142 [ptrV r, .int .i64 n] w [r] (B := Ent × Int) (fun x => (p ≤ x.2 ∧ x.2 ≤ p + 10) ∧ True) (fun x => .agg (entE x.1).toArray) (fun x => [rdB r v x.2]) := by
  have h60 : entCap 50 = 60 := by decide
  refine CallsTo.enter Try.func142 rfl Try.ntmps142 rfl rfl (St.startB hr) ?_
  repeat' (first|(refine WL.dMove ?_;refine WL.move rfl rfl ?_)|(refine WL.dAssign ?_;refine WL.assign rfl rfl ?_)|(refine WL.dGuard ?_;(first|refine WL.take rfl rfl rfl rfl ?_|refine WL.pass rfl rfl rfl rfl rfl rfl ?_|refine WL.passU rfl rfl rfl rfl rfl rfl ?_|refine WL.gT rfl rfl rfl (by first|assumption|exact decide_eq_true (by omega)|exact notT (by omega)|exact boolT ‹_›) ?_|refine WL.gF rfl rfl rfl (by first|assumption|exact decide_eq_false (by omega)|exact notF (by omega)|exact boolF ‹_›) ?_|refine WL.gD rfl rfl rfl (fun _ => ?_) (fun _ => ?_)|refine WL.gN rfl rfl rfl (fun _ => ?_) (fun _ => ?_)|refine WL.gB rfl rfl rfl (fun _ => ?_) (fun _ => ?_)|refine WL.gsplit rfl rfl rfl (fun _ => ?_) (fun _ => ?_)))|(refine WL.dPick ?_;(first|refine WL.pick_true rfl rfl rfl ?_|refine WL.pick_false rfl rfl rfl ?_))|(refine WL.dLoad ?_;(first|refine WL.ld1 rfl rfl rfl ?_|refine WL.ldW rfl rfl rfl ?_|refine WL.ldA rfl rfl ?_|refine WL.ld0X rfl ‹_› ‹_› ‹_› rfl rfl ?_|refine WL.ldFX rfl ‹_› ‹_› ‹_› rfl rfl ?_|refine WL.ldEX rfl ‹_› ‹_› ‹_› rfl ?_|refine WL.ld0R rfl ‹_› ‹_› ‹_› rfl rfl ?_|refine WL.ldFR rfl ‹_› ‹_› ‹_› rfl rfl ?_|refine WL.ldER rfl ‹_› ‹_› ‹_› rfl ?_|refine WL.ld0O rfl ‹_› ‹_› rfl rfl ?_|refine WL.ldFO rfl ‹_› ‹_› rfl rfl ?_|refine WL.ldEO rfl ‹_› ‹_› rfl ?_|refine WL.ldL rfl ‹_› rfl (fun _ _ => ?_)))|(refine WL.dField ?_;(first|refine WL.fieldV rfl rfl ?_|refine WL.fieldW rfl rfl ?_|refine WL.fieldP rfl rfl ?_))|(refine WL.dBin ?_;(first|refine WL.leq rfl rfl rfl ?_|refine WL.lss rfl rfl rfl ?_|refine WL.gtr rfl rfl rfl ?_|refine WL.geq rfl rfl rfl ?_|refine WL.eql rfl rfl rfl ?_|refine WL.neq rfl rfl rfl ?_|refine WL.add rfl rfl rfl (by omega) ?_|refine WL.sub_ rfl rfl rfl (by omega) ?_|refine WL.mul rfl rfl rfl (by omega) ?_|refine WL.quo rfl rfl rfl (by omega) ?_|refine WL.remp rfl rfl rfl (by omega) ?_|refine WL.eqlb rfl rfl rfl ?_|refine WL.neqb rfl rfl rfl ?_|refine WL.xor rfl rfl rfl (by omega) (fun _ _ => ?_)|refine WL.neqs rfl rfl rfl rfl ?_|refine WL.eqls rfl rfl rfl rfl ?_))|(refine WL.dUn ?_;(first|refine WL.not rfl rfl ?_|refine WL.neg rfl rfl (by omega) ?_))|(refine WL.dStore ?_;(first|refine WL.st1 rfl rfl (by first|rfl|assumption) ?_|refine WL.stA rfl rfl rfl rfl ?_))|(refine WL.dCall ?_;(first|refine WL.lenX rfl ‹_› rfl ?_|refine WL.lenO rfl rfl ?_|refine WL.lenR rfl ‹_› rfl ?_|refine WL.apNX rfl rfl ‹_› (by omega) rfl rfl (fun _ _ => ?_)|refine WL.apNO rfl rfl (by omega) rfl rfl (fun _ _ => ?_)|(refine WL.apX rfl rfl ‹_› (by simp;omega) rfl rfl (fun _ _ => ?_))|(refine WL.apO rfl rfl (by simp;omega) rfl rfl (fun _ _ => ?_))|(refine WL.callR1 rfl rfl (fun w h => pickP_c _ _ _ _ _ w (by first|exact Sl.ext ‹_› h|exact Sl.o h|exact Sl.v h|exact St.blk h|exact Rdr.sub ‹_› h|exact Rdr.x ‹_› h|exact Reads.sub ‹_› h|exact Reads.nil ‹_› h|exact Reads.x ‹_› h|exact Reads.o h|exact Reads.v h|exact Reads.at ‹_› h|assumption|omega) (by first|exact Sl.ext ‹_› h|exact Sl.o h|exact Sl.v h|exact St.blk h|exact Rdr.sub ‹_› h|exact Rdr.x ‹_› h|exact Reads.sub ‹_› h|exact Reads.nil ‹_› h|exact Reads.x ‹_› h|exact Reads.o h|exact Reads.v h|exact Reads.at ‹_› h|assumption|omega) (by first|exact Sl.ext ‹_› h|exact Sl.o h|exact Sl.v h|exact St.blk h|exact Rdr.sub ‹_› h|exact Rdr.x ‹_› h|exact Reads.sub ‹_› h|exact Reads.nil ‹_› h|exact Reads.x ‹_› h|exact Reads.o h|exact Reads.v h|exact Reads.at ‹_› h|assumption|omega) (by first|exact Sl.ext ‹_› h|exact Sl.o h|exact Sl.v h|exact St.blk h|exact Rdr.sub ‹_› h|exact Rdr.x ‹_› h|exact Reads.sub ‹_› h|exact Reads.nil ‹_› h|exact Reads.x ‹_› h|exact Reads.o h|exact Reads.v h|exact Reads.at ‹_› h|assumption|omega) (by first|exact Sl.ext ‹_› h|exact Sl.o h|exact Sl.v h|exact St.blk h|exact Rdr.sub ‹_› h|exact Rdr.x ‹_› h|exact Reads.sub ‹_› h|exact Reads.nil ‹_› h|exact Reads.x ‹_› h|exact Reads.o h|exact Reads.v h|exact Reads.at ‹_› h|assumption|omega)) rfl (fun u hu => ?_);obtain ⟨hu1, hu2⟩ := hu)|(refine WL.callR1 rfl rfl (fun w h => odd_c _ _ _ _ _ w (by first|exact Sl.ext ‹_› h|exact Sl.o h|exact Sl.v h|exact St.blk h|exact Rdr.sub ‹_› h|exact Rdr.x ‹_› h|exact Reads.sub ‹_› h|exact Reads.nil ‹_› h|exact Reads.x ‹_› h|exact Reads.o h|exact Reads.v h|exact Reads.at ‹_› h|assumption|omega) (by first|exact Sl.ext ‹_› h|exact Sl.o h|exact Sl.v h|exact St.blk h|exact Rdr.sub ‹_› h|exact Rdr.x ‹_› h|exact Reads.sub ‹_› h|exact Reads.nil ‹_› h|exact Reads.x ‹_› h|exact Reads.o h|exact Reads.v h|exact Reads.at ‹_› h|assumption|omega) (by first|exact Sl.ext ‹_› h|exact Sl.o h|exact Sl.v h|exact St.blk h|exact Rdr.sub ‹_› h|exact Rdr.x ‹_› h|exact Reads.sub ‹_› h|exact Reads.nil ‹_› h|exact Reads.x ‹_› h|exact Reads.o h|exact Reads.v h|exact Reads.at ‹_› h|assumption|omega) (by first|exact Sl.ext ‹_› h|exact Sl.o h|exact Sl.v h|exact St.blk h|exact Rdr.sub ‹_› h|exact Rdr.x ‹_› h|exact Reads.sub ‹_› h|exact Reads.nil ‹_› h|exact Reads.x ‹_› h|exact Reads.o h|exact Reads.v h|exact Reads.at ‹_› h|assumption|omega) (by first|exact Sl.ext ‹_› h|exact Sl.o h|exact Sl.v h|exact St.blk h|exact Rdr.sub ‹_› h|exact Rdr.x ‹_› h|exact Reads.sub ‹_› h|exact Reads.nil ‹_› h|exact Reads.x ‹_› h|exact Reads.o h|exact Reads.v h|exact Reads.at ‹_› h|assumption|omega)) rfl (fun u hu => ?_);obtain ⟨hu1, hu2⟩ := hu)|(refine WL.callP rfl rfl (fun w h => sEntCap_c 50 w) rfl ?_;rw [h60])))|(refine WL.dIndex ?_;(first|(refine WL.ixL rfl rfl (by first|omega|(simp;omega)) rfl (fun _ _ => ?_))|refine WL.ixNX rfl rfl ‹_› (by omega) rfl (fun _ _ => ?_)|refine WL.ixNO rfl rfl (by omega) rfl (fun _ _ => ?_)|refine WL.ixNR rfl rfl ‹_› (by omega) rfl (fun _ _ => ?_)|refine WL.ixR rfl rfl ‹_› (by omega) rfl (fun _ _ => ?_)|refine WL.ixX rfl rfl ‹_› (by omega) rfl (fun _ _ => ?_)|refine WL.ixO rfl rfl (by omega) rfl (fun _ _ => ?_)))|(refine WL.dOp ?_;(first|refine WL.extract rfl rfl rfl ?_|refine WL.alloc rfl (fun _ => ?_)|refine WL.boxA rfl rfl (fun _ => ?_)|refine WL.box1 rfl (by first|rfl|assumption) rfl (fun _ => ?_)|refine WL.nilCheck rfl rfl ?_|refine WL.conv rfl rfl (by omega) ?_|refine WL.build (by repeat (first|exact .nil|apply Bld.one' rfl rfl (by first|rfl|assumption)|apply Bld.agg' rfl rfl rfl)) rfl ?_|(refine WL.lit (E := intE) (by repeat (first|exact .nil|(apply Parts.one;exact rfl;exact rfl)|(apply Parts.agg;exact rfl;exact rfl))) rfl rfl rfl (fun _ _ => ?_))))|refine WL.nil ?_|(refine WC.d ?_;(first|refine WC.seq ?_|refine WC.region ?_|refine WC.cond_true rfl ?_|refine WC.cond_false rfl ?_|refine WC.condT rfl (by first|assumption|exact decide_eq_true (by omega)|exact notT (by omega)|exact boolT ‹_›) ?_|refine WC.condF rfl (by first|assumption|exact decide_eq_false (by omega)|exact notF (by omega)|exact boolF ‹_›) ?_|refine WC.condD rfl (fun _ => ?_) (fun _ => ?_)|refine WC.condN rfl (fun _ => ?_) (fun _ => ?_)|refine WC.condB rfl (fun _ => ?_) (fun _ => ?_)|refine WC.cond rfl (fun _ => ?_) (fun _ => ?_)|refine WC.block ?_|refine WC.skip ?_|refine WC.ret ?_|refine WC.exit ?_|refine WC.draws Ytcmmfamippdgbaa.wide (by kernel_rfl) ?_))|(refine WQ.d ?_;(first|refine WQ.then_normal ?_|refine WQ.then_ret ?_|refine WQ.then_exit ?_|refine WQ.block_normal ?_|refine WQ.block_ret ?_|refine WQ.block_here ?_|refine WQ.block_far rfl ?_|refine WQ.retP rfl (by repeat (first|exact .nil|apply Rets.tmp rfl|apply Rets.cA rfl|apply Rets.c1 rfl rfl)) ?_)))
  all_goals (refine WQ.retE rfl (by repeat (first | exact .nil | apply Rets.tmp rfl | apply Rets.cA rfl | apply Rets.c1 rfl rfl)) ?_; refine ⟨(⟨_, _, _, _⟩, _), ?_, (by first | (dsimp only [retVal]; done) | (dsimp only [retVal]; exact rfl) | exact rfl), fun _ h => (by dsimp only; exact h.sel (by repeat (first | exact Sel.nil | apply Sel.cons (by repeat (first | exact Del.here | apply Del.there)))))⟩; exact ⟨(by first | assumption | omega | (simp; done) | (simp; omega) | (dsimp only; omega) | (simp_all; done) | (simp_all; omega)), trivial⟩)
end Go.Proofs.Ytcmmfamippdgbaa

namespace Go.Proofs.Ytcmmfamippdgbaa
open Vc

section
variable {q : Bool} {P : Program} {w0 : World} {X : List Nat} {N : Nat} {ops : Array Oper} {Q : Exit → Act → World → Prop} {rest : List Oper} {fr : Fr} {L L' : List Res} {d ty : Nat} {ps : String} {af : Array Edge}
variable {α : Type} {E : α → List Value} {sz f t : Nat} {v : Value} {ys : List α} {x y : Operand} {T : Nat} {p : Addr}
end
theorem Vc.Reads.v {α : Type} {E : α → List Value} {sz : Nat} {v : Value} {ys : List α} {w0 w : World} {X : List Nat} {L L' : List Res} {r t : Nat} {cs : List Value} [hD : CDelB L r t cs L'] [hO : HasVw L' v E sz ys] (hs : St w0 X w L) : Reads E sz v ys w [r] := by
  intro W hk
  have hs' := hs.perm hD.h.perm
  obtain ⟨i, hm⟩ := hO.h
  have hap := (List.pairwise_cons.1 hs'.apart).1 _ hm
  have hh := hs'.res _ (ms hm)
  exact (vw_holds.1 (Res.loc _ w W (fun b hb => hk.block b (Res.here _ w hh b hb) (by
    simp only [List.mem_singleton]
    rintro rfl
    exact hap b (by rw [blk_foot]; simp) hb)) hh)).1
end Go.Proofs.Ytcmmfamippdgbaa

namespace Go.Proofs.Ytcmmfamippdgbaa
open Vc

section
variable {q : Bool} {P : Program} {w0 : World} {X : List Nat} {N : Nat} {ops : Array Oper} {Q : Exit → Act → World → Prop} {rest : List Oper} {fr : Fr} {L : List Res} {d ty : Nat} {ps : String} {af : Array Edge}
theorem Vc.WL.neqbF {x y : Operand} {a b : Bool} {t t' : Nat} [hT : TBool P t] (hx : ev fr x = some (.bool a)) (hy : ev fr y = some (.bool b)) (hN : Nat.ble (d + 1) N = true) (h : a = b)
    (k : WL q P w0 X N ops Q rest ((d, .bool false) :: fr) L) : WL q P w0 X N ops Q (⟨some d, .binOp .neq t x y t', ty, ps, af, none⟩ :: rest) fr L := WL.neqb hx hy hN (by rw [h, beq_self_eq_true]; exact k)
end
end Go.Proofs.Ytcmmfamippdgbaa

namespace Go.Proofs.Ytcmmfamippdgbaa
open Vc

class Vc.Init2 (L : List Res) (Ls : outParam (List Res)) : Prop where h : Ls.Sublist L
instance {a b : Res} : Vc.Init2 [a, b] [] := ⟨List.nil_sublist _⟩
instance {r s t : Res} {L Ls : List Res} [h : Vc.Init2 (s :: t :: L) Ls] : Vc.Init2 (r :: s :: t :: L) (r :: Ls) := ⟨h.h.cons_cons _⟩
end Go.Proofs.Ytcmmfamippdgbaa
