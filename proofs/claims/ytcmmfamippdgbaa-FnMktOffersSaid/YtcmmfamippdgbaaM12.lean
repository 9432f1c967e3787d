/- Contract: a market that requests have led to, drawn. -/
import Derived.Test.YtcmmfamippdgbaaM1
import Derived.Test.YtcmmfamippdgbaaM10
import Derived.Test.YtcmmfamippdgbaaM11
import Derived.Test.YtcmmfamippdgbaaH4
namespace Go.Proofs.Ytcmmfamippdgbaa
open Vc

section
variable {P : Program} {w0 : World} {X : List Nat} {N : Nat} {ops : Array Oper} {Q : Exit → Act → World → Prop} {rest : List Oper} {fr : Fr} {L L' : List Res} {d ty : Nat} {ps : String} {af : Array Edge}
theorem Vc.WL.callR6 {f : Nat} {x : Operand} {ars : List Operand} {ats : Array Nat} {vs cap : List Value} {B : Type} {G : B → Prop} {v : B → Value} {R0 R1 R2 R3 R4 R5 : B → Res} {r t : Nat} {cs : List Value} [TFunc P f] [CDelB L r t cs L']
    (hf : ev fr x = some (.func (.func f) #[] cap.toArray)) (hv : evs fr ars = some vs) (hc : ∀ w, St w0 X w L → CallsTo P f (vs ++ cap) w [r] G v (fun x => [R0 x, R1 x, R2 x, R3 x, R4 x, R5 x])) (hN : Nat.ble (d + 1) N = true)
    (k : ∀ x, G x → WL false P w0 X N ops Q rest ((d, v x) :: fr) (R0 x :: R1 x :: R2 x :: R3 x :: R4 x :: R5 x :: L')) :
    WL false P w0 X N ops Q (⟨some d, .call { callee := .value x, args := ars.toArray, argTypes := ats }, ty, ps, af, none⟩ :: rest) fr L := WL.callR hf hv hc hN k
end
theorem mktStart : mktNew [0, 100, 100, 300, 50] = ⟨[], [0, 100, 100, 300, 50], [], 0, [0, 0, 0, 0, 0], [0, 0, 0, 0, 0]⟩ := by
  rw [mktNew_yes (by decide) (by decide)]; rfl
theorem mktStart_inv : MInv (mktNew [0, 100, 100, 300, 50]) := by
  rw [mktStart]
  exact ⟨by decide, by simp, by simp, by simp, by simp, by simp, by simp, by simp⟩
theorem MInv.hl {m : Hou} (h : MInv m) {k : Int} (hk : 60 ≤ k) : HouL m k := by
  have h1 := h.dl
  have h2 := h.ll
  have h3 := h.nl
  have h4 := h.sl
  have h5 := h.pl
  exact ⟨by omega, by omega, by omega, by omega, by omega⟩
theorem sMktStart_c (v : Value) (w : World) (hs : Sl intE 1 v [0, 100, 100, 300, 50] w) :
    CallsTo Try.prog 152 [v] w [] (B := HouV × Hou) (fun x => HouOne x.1 ∧ MInv x.2 ∧ x.2.clock = 0) (fun x => .agg (houE x.1 x.2.clock).toArray) (fun x => [own entE 4 x.1.l 118 x.2.log, own intE 1 x.1.p 3 x.2.purses, own dealE 5 x.1.d 70 x.2.deals, own intE 1 x.1.n 3 x.2.nums, own intE 1 x.1.s 3 x.2.said]) := by
  have h := sMktNew_c v _ w hs (by simp)
  have hI := mktStart_inv
  have hc := mktNew_clock [0, 100, 100, 300, 50]
  generalize mktNew [0, 100, 100, 300, 50] = m at h hI hc
  unfold CallsTo at h ⊢
  refine Calls.mono h ?_
  rintro e w' ⟨u, hu, h2, h3⟩
  exact ⟨(u, m), ⟨hu, hI, hc⟩, by dsimp only; rw [hc]; exact h2, h3⟩
attribute [local irreducible] Vc.WH
set_option maxHeartbeats 3200000 in
theorem l21Market_c (r : Nat) (v : Value) (bs : List Int) (p : Int) (w : World) (hr : (rdB r v p).holds w) (hs : Rdr v bs w [r]) (hp : 0 ≤ p ∧ p ≤ 1099511610000) (h1 : v.oneCell' = true) :
    CallsTo Try.prog 113 [ptrV r] w [r] (B := HouV × Hou × Int) (fun x => HouOne x.1 ∧ MInv x.2.1 ∧ (p ≤ x.2.2 ∧ x.2.2 ≤ p + 2000)) (fun x => .agg (houE x.1 x.2.1.clock).toArray) (fun x => [own entE 4 x.1.l 118 x.2.1.log, own intE 1 x.1.p 3 x.2.1.purses, own dealE 5 x.1.d 70 x.2.1.deals, own intE 1 x.1.n 3 x.2.1.nums, own intE 1 x.1.s 3 x.2.1.said, rdB r v x.2.2]) := by
  refine CallsTo.enter Try.func113 rfl Try.ntmps113 rfl rfl (St.startB hr) ?_
  repeat' (first|(refine WL.dMove ?_;refine WL.move rfl rfl ?_)|(refine WL.dAssign ?_;refine WL.assign rfl rfl ?_)|(refine WL.dOp ?_;refine WL.alloc rfl (fun _ => ?_))|refine WL.nil ?_|(refine WC.d ?_;(first|refine WC.stopR 1 ?_|refine WC.seq ?_|refine WC.region ?_))|(refine WQ.d ?_;refine WQ.then_normal ?_))
  rename_i b2
  refine Mark.go ?_
  repeat' (first|(refine WL.dMove ?_;refine WL.move rfl rfl ?_)|(refine WL.dAssign ?_;refine WL.assign rfl rfl ?_)|(refine WL.dStore ?_;(refine WL.stA rfl rfl rfl (by simp only [List.all_cons, List.all_nil, Bool.and_true, *];rfl) ?_))|(refine WL.dCall ?_;(refine WL.call5 rfl rfl (fun w h => sMktStart_c _ w (Sl.o h)) rfl (fun z hz => ?_);obtain ⟨⟨z1, z2, z3, z4, z5⟩, hzI, hzc⟩ := hz))|(refine WL.dOp ?_;(first|refine WL.alloc rfl (fun _ => ?_)|(refine WL.lit (E := intE) (by repeat (first|exact .nil|(apply Parts.one;exact rfl;exact rfl)|(apply Parts.agg;exact rfl;exact rfl))) rfl rfl rfl (fun _ _ => ?_))))|refine WL.nil ?_|(refine WC.d ?_;(first|refine WC.stopR 2 ?_|refine WC.seq ?_|refine WC.region ?_))|(refine WQ.d ?_;refine WQ.then_normal ?_))
  rename_i b3
  refine Mark.go ?_
  repeat' (first|(refine WL.dMove ?_;refine WL.move rfl rfl ?_)|(refine WL.dAssign ?_;refine WL.assign rfl rfl ?_)|(refine WL.dLoad ?_;refine WL.ldL rfl ‹_› rfl (fun k0 hk0 => ?_))|(refine WL.dCall ?_;(first|(refine WL.callR1 rfl rfl (fun w h => pickP_c r v bs _ 40 w (St.blk h) (Rdr.sub hs h) (by omega) h1 (by omega)) rfl (fun k40 hk40 => ?_))|(refine WL.callR1 rfl rfl (fun w h => pickP_c r v bs _ 5 w (St.blk h) (Rdr.sub hs h) (by omega) h1 (by omega)) rfl (fun k5 hk5 => ?_))))|(refine WL.dIndex ?_;(refine WL.ixL (E := intE) rfl rfl (by first|omega|(simp;omega)) rfl (fun _ _ => ?_)))|(refine WL.dOp ?_;(refine WL.lit (E := intE) (by repeat (first|exact .nil|(apply Parts.one;exact rfl;exact rfl)|(apply Parts.agg;exact rfl;exact rfl))) rfl rfl rfl (fun _ _ => ?_)))|refine WL.nil ?_|(refine WC.d ?_;(first|refine WC.region ?_|refine WC.block ?_))|(refine WQ.d ?_;refine WQ.then_normal ?_))
  have hk : 0 ≤ k0 ∧ k0 ≤ 40 := by
    simp only [List.mem_cons, List.not_mem_nil, or_false] at hk0
    omega
  refine WC.loopU (A := HouV × Hou × Nat × Int) [0, 2, 3] (fun a => HouOne a.1 ∧ MInv a.2.1 ∧ (a.2.2.1 ≤ 40 ∧ a.2.1.clock ≤ 40 - (a.2.2.1 : Int)) ∧ (p + 2 ≤ a.2.2.2 ∧ a.2.2.2 ≤ p + 2 + 45 * (40 - (a.2.2.1 : Int)))) (fun a => [(4, .int .i64 (a.2.2.1 : Int))]) (fun a => [own entE 4 a.1.l 118 a.2.1.log, own intE 1 a.1.p 3 a.2.1.purses, own dealE 5 a.1.d 70 a.2.1.deals, own intE 1 a.1.n 3 a.2.1.nums, own intE 1 a.1.s 3 a.2.1.said, blk b3 62 (houE a.1 a.2.1.clock), rdB r v a.2.2.2, blk b2 62 [.slice none 0 0, .slice none 0 0, .slice none 0 0, .int .i64 0, .slice none 0 0, .slice none 0 0]]) (fun a => a.2.2.1) (z.1, z.2, k0.toNat, p + 1 + 1) ⟨⟨z1, z2, z3, z4, z5⟩, hzI, by dsimp only; omega, by dsimp only; omega⟩ (by repeat (first | exact .nil | apply Pick.cons rfl)) ⟨congrArg (fun n => some (Value.int .i64 n)) (by dsimp only; omega), trivial⟩ (fun _ h => h.sel (by repeat (first | exact Sel.nil | apply Sel.cons (by repeat (first | exact Del.here | apply Del.there))))) (fun a ha => ?_)
  obtain ⟨u, m, k, p'⟩ := a
  obtain ⟨g1, g2, g3, g4⟩ := ha
  dsimp only at g1 g2 g3 g4
  refine WC.frame (by first | dsimp only [List.cons_append, List.nil_append] | exact rfl) (by first | dsimp only | exact rfl) ?_
  have g1' := g1
  obtain ⟨o1, o2, o3, o4, o5⟩ := g1'
  by_cases hk0 : 0 < k
  · repeat' (first|(refine WL.dMove ?_;refine WL.move rfl rfl ?_)|(refine WL.dAssign ?_;refine WL.assign rfl rfl ?_)|(refine WL.dLoad ?_;refine WL.ldW rfl rfl rfl ?_)|(refine WL.dBin ?_;(first|refine WL.gtr rfl rfl rfl ?_|refine WL.eql rfl rfl rfl ?_))|(refine WL.dStore ?_;(refine WL.stA rfl rfl rfl (by simp only [List.all_cons, List.all_nil, Bool.and_true, *];rfl) ?_))|(refine WL.dCall ?_;(first|(refine WL.callR1 rfl rfl (fun w h => pickP_c r v bs _ 8 w (St.blk h) (Rdr.sub hs h) (by omega) h1 (by omega)) rfl (fun k8 hk8 => ?_))|(refine WL.call5 rfl rfl (fun w h => l7Copy_c u m _ w (HouS.o h) (MInv.hl g2 (by omega))) rfl (fun uc huc => ?_);have huc2 := huc;obtain ⟨c1, c2, c3, c4, c5⟩ := huc2)|(refine WL.callHou (hh := fun z : HouV × Hou => z.1) (mm := fun z => z.2) (u := uc) (m := m) rfl rfl (fun w h => l7Tick_c uc m w h huc g2 (by omega)) rfl (fun zt hzt => ?_);obtain ⟨⟨t1, t2, t3, t4, t5⟩, htI, htc⟩ := hzt)))|refine WL.nil ?_|(refine WC.d ?_;(first|(refine WC.joinC 21 (A := HouV × Hou) [0, 2, 3, 4] (fun x => HouOne x.1 ∧ MInv x.2 ∧ x.2.clock ≤ 41 - (k : Int)) (fun _ => []) (fun x => [own entE 4 x.1.l 118 x.2.log, own intE 1 x.1.p 3 x.2.purses, own dealE 5 x.1.d 70 x.2.deals, own intE 1 x.1.n 3 x.2.nums, own intE 1 x.1.s 3 x.2.said, blk b3 62 (houE x.1 x.2.clock), rdB r v (p' + 1), blk b2 62 [.slice none 0 0, .slice none 0 0, .slice none 0 0, .int .i64 0, .slice none 0 0, .slice none 0 0]]) rfl (by repeat (first|exact .nil|apply Pick.cons rfl)) (fun hb21 => ?_) (fun hb21 => ?_) (fun x hx => ?_))|refine WC.seq ?_|refine WC.region ?_|refine WC.condT rfl (by first|assumption|exact decide_eq_true (by omega)|exact notT (by omega)|exact boolT ‹_›) ?_|refine WC.block ?_|refine WC.skip ?_))|(refine WQ.d ?_;refine WQ.then_normal ?_))
    · exact WQ.met (A := HouV × Hou) zt ⟨⟨t1, t2, t3, t4, t5⟩, htI, by omega⟩ (by repeat (first | exact trivial | refine ⟨rfl, ?_⟩)) (by repeat (first | exact trivial | refine ⟨rfl, ?_⟩)) (fun _ h => h.sel (by repeat (first | exact Sel.nil | apply Sel.cons (by repeat (first | exact Del.here | apply Del.there)))))
    · exact WQ.met (A := HouV × Hou) (u, m) ⟨g1, g2, by dsimp only; omega⟩ (by repeat (first | exact trivial | refine ⟨rfl, ?_⟩)) (by repeat (first | exact trivial | refine ⟨rfl, ?_⟩)) (fun _ h => h.sel (by repeat (first | exact Sel.nil | apply Sel.cons (by repeat (first | exact Del.here | apply Del.there)))))
    obtain ⟨hx1, hxI, hxc⟩ := hx
    have hx1' := hx1
    obtain ⟨q1, q2, q3, q4, q5⟩ := hx1'
    repeat' (first|(refine WL.dMove ?_;refine WL.move rfl rfl ?_)|(refine WL.dAssign ?_;refine WL.assign rfl rfl ?_)|(refine WL.dStore ?_;refine WL.stA rfl rfl rfl rfl ?_)|(refine WL.dCall ?_;(refine WL.callR1 rfl rfl (fun w h => l21Req_c r v bs x.1 x.2 _ w (St.blk h) (Rdr.sub hs h) (Reads.o h) (Reads.o h) (Reads.o h) hx1 hxI (by omega) h1) rfl (fun y hy => ?_);obtain ⟨hy, _⟩ := hy))|(refine WL.dOp ?_;refine WL.alloc rfl (fun _ => ?_))|refine WL.nil ?_|(refine WC.d ?_;(first|refine WC.stopR 8 ?_|refine WC.seq ?_))|(refine WQ.d ?_;refine WQ.then_normal ?_))
    rename_i b5
    refine Mark.go ?_
    by_cases hq : reqOk y.1 = true
    · repeat' (first|(refine WL.dMove ?_;refine WL.move rfl rfl ?_)|(refine WL.dAssign ?_;refine WL.assign rfl rfl ?_)|(refine WL.dLoad ?_;refine WL.ldW rfl rfl rfl ?_)|(refine WL.dBin ?_;refine WL.sub_ rfl rfl rfl (by omega) ?_)|(refine WL.dStore ?_;(refine WL.stA rfl rfl rfl (by simp only [List.all_cons, List.all_nil, Bool.and_true, *];rfl) ?_))|(refine WL.dCall ?_;(first|(refine WL.callP rfl rfl (fun w h => sReqOk_c y.1 w) rfl ?_;rw [hq])|(refine WL.call5 rfl rfl (fun w h => l7Copy_c x.1 x.2 _ w (HouS.o h) (MInv.hl hxI (by omega))) rfl (fun uc huc => ?_);have huc2 := huc;obtain ⟨c1, c2, c3, c4, c5⟩ := huc2)|(refine WL.callHou (hh := fun z : HouV × Hou × Int => z.1) (mm := fun z => z.2.1) (u := uc) (m := x.2) rfl rfl (fun w h => l7Do_c uc x.2 y.1 w h huc hxI hq) rfl (fun zd hzd => ?_);obtain ⟨⟨t1, t2, t3, t4, t5⟩, hdI, hdc⟩ := hzd)))|(refine WL.dOp ?_;refine WL.extract rfl rfl rfl ?_)|refine WL.nil ?_|(refine WC.d ?_;(first|refine WC.region ?_|refine WC.cond_true rfl ?_|refine WC.drawsX [blk b5 76 (reqE y.1)] Ytcmmfamippdgbaa.wide ?_))|(refine WQ.d ?_;(first|refine WQ.then_normal ?_|refine WQ.block_normal ?_|refine WQ.held ?_|refine WQ.any ?_))|(first|(refine WH.quietD (f := 7) 2 (by decide +kernel) rfl (by repeat (first|assumption|with_reducible apply PanicOk.then_|with_reducible apply PanicOk.block|exact (fun _ _ d _ _ h => by cases d <;> exact h))) (by repeat (first|exact List.nil_sublist _|exact List.Sublist.refl _|apply List.Sublist.cons_cons|apply List.Sublist.cons)) ?_)|refine WH.runD (f := 6) 0 (by decide +kernel) rfl (by repeat (first|exact List.nil_sublist _|exact List.Sublist.refl _|apply List.Sublist.cons_cons|apply List.Sublist.cons)) ?_|refine WH.runD (f := 5) 1 (by decide +kernel) rfl (by repeat (first|exact List.nil_sublist _|exact List.Sublist.refl _|apply List.Sublist.cons_cons|apply List.Sublist.cons)) ?_|refine WH.runD (f := 4) 3 (by decide +kernel) rfl (by repeat (first|exact List.nil_sublist _|exact List.Sublist.refl _|apply List.Sublist.cons_cons|apply List.Sublist.cons)) ?_|(refine WH.quietD (f := 3) 4 (by decide +kernel) rfl (by repeat (first|assumption|with_reducible apply PanicOk.then_|with_reducible apply PanicOk.block|exact (fun _ _ d _ _ h => by cases d <;> exact h))) (by repeat (first|exact List.nil_sublist _|exact List.Sublist.refl _|apply List.Sublist.cons_cons|apply List.Sublist.cons)) ?_)|(refine WH.quietD (f := 2) 5 (by decide +kernel) rfl (by repeat (first|assumption|with_reducible apply PanicOk.then_|with_reducible apply PanicOk.block|exact (fun _ _ d _ _ h => by cases d <;> exact h))) (by repeat (first|exact List.nil_sublist _|exact List.Sublist.refl _|apply List.Sublist.cons_cons|apply List.Sublist.cons)) ?_)|(refine WH.quietD (f := 1) 6 (by decide +kernel) rfl (by repeat (first|assumption|with_reducible apply PanicOk.then_|with_reducible apply PanicOk.block|exact (fun _ _ d _ _ h => by cases d <;> exact h))) (by repeat (first|exact List.nil_sublist _|exact List.Sublist.refl _|apply List.Sublist.cons_cons|apply List.Sublist.cons)) ?_)|refine WH.runD (f := 0) 7 (by decide +kernel) rfl (by repeat (first|exact List.nil_sublist _|exact List.Sublist.refl _|apply List.Sublist.cons_cons|apply List.Sublist.cons)) ?_|refine WH.doneD (f := 0) (by decide +kernel) (by repeat (first|exact List.nil_sublist _|exact List.Sublist.refl _|apply List.Sublist.cons_cons|apply List.Sublist.cons)) ?_))
      refine WQ.againU (zd.1, zd.2.1, k - 1, y.2) ⟨⟨t1, t2, t3, t4, t5⟩, hdI, by dsimp only; omega, by dsimp only; omega⟩ (by dsimp only; omega) ?_ (by repeat (first | exact trivial | refine ⟨rfl, ?_⟩)) (fun _ h => h.sel (by repeat (first | exact Sel.nil | apply Sel.cons (by repeat (first | exact Del.here | apply Del.there)))))
      exact ⟨congrArg (fun n => some (Value.int .i64 n)) (by dsimp only; omega), trivial⟩
    · have hq' : reqOk y.1 = false := by simpa using hq
      repeat' (first|(refine WL.dMove ?_;refine WL.move rfl rfl ?_)|(refine WL.dAssign ?_;refine WL.assign rfl rfl ?_)|(refine WL.dLoad ?_;refine WL.ldW rfl rfl rfl ?_)|(refine WL.dBin ?_;refine WL.sub_ rfl rfl rfl (by omega) ?_)|(refine WL.dCall ?_;(refine WL.callP rfl rfl (fun w h => sReqOk_c y.1 w) rfl ?_;rw [hq']))|refine WL.nil ?_|(refine WC.d ?_;(first|refine WC.region ?_|refine WC.cond_false rfl ?_|refine WC.skip ?_))|(refine WQ.d ?_;(first|refine WQ.then_normal ?_|refine WQ.block_normal ?_)))
      refine WQ.againU (x.1, x.2, k - 1, y.2) ⟨hx1, hxI, by dsimp only; omega, by dsimp only; omega⟩ (by dsimp only; omega) ?_ (by repeat (first | exact trivial | refine ⟨rfl, ?_⟩)) (fun _ h => h.sel (by repeat (first | exact Sel.nil | apply Sel.cons (by repeat (first | exact Del.here | apply Del.there)))))
      exact ⟨congrArg (fun n => some (Value.int .i64 n)) (by dsimp only; omega), trivial⟩
  repeat' (first|(refine WL.dMove ?_;refine WL.move rfl rfl ?_)|(refine WL.dAssign ?_;refine WL.assign rfl rfl ?_)|(refine WL.dLoad ?_;refine WL.ldW rfl rfl rfl ?_)|(refine WL.dBin ?_;refine WL.gtr rfl rfl rfl ?_)|(refine WL.dStore ?_;(refine WL.stA rfl rfl rfl (by simp only [List.all_cons, List.all_nil, Bool.and_true, *];rfl) ?_))|refine WL.nil ?_|(refine WC.d ?_;(first|refine WC.seq ?_|refine WC.region ?_|refine WC.condF rfl (by first|assumption|exact decide_eq_false (by omega)|exact notF (by omega)|exact boolF ‹_›) ?_|refine WC.ret ?_|refine WC.exit ?_))|(refine WQ.d ?_;(first|refine WQ.then_normal ?_|refine WQ.then_exit ?_|refine WQ.block_here ?_)))
  exact WQ.retE rfl (by repeat (first | exact .nil | apply Rets.tmp rfl | apply Rets.cA rfl | apply Rets.c1 rfl rfl)) ⟨(u, m, p'), ⟨g1, g2, by dsimp only; omega⟩, rfl, fun _ h => h.sel (by repeat (first | exact Sel.nil | apply Sel.cons (by repeat (first | exact Del.here | apply Del.there))))⟩
end Go.Proofs.Ytcmmfamippdgbaa
