/- The law FnOwnCheck, walked: it returns true. -/
import Derived.Test.YtcmmfamippdgbaaD13
import Derived.Test.YtcmmfamippdgbaaU2
import Derived.Test.YtcmmfamippdgbaaU3
import Derived.Test.YtcmmfamippdgbaaL5
namespace Go.Proofs.Ytcmmfamippdgbaa
open Vc

theorem clashF_mx : ∀ (f : Nat) (xs : List Int) (i leaf : Int) (pr : List Int), (∀ y ∈ xs, Mx y) → Mx leaf → (∀ y ∈ pr, Mx y) → ∀ z ∈ clashF f xs i leaf pr, Mx z
  | 0, _, _, _, _, _, _, _ => by simp [clashF]
  | f + 1, xs, i, leaf, [], _, _, _ => by rw [clashF]; split <;> simp
  | f + 1, xs, i, leaf, y :: r, hx, hl, hp => by
    obtain ⟨q1, q2⟩ := mem_part (k := (spl xs.length).toNat) hx
    have hy : Mx y := hp y (List.mem_cons_self ..)
    have hr : ∀ x ∈ r, Mx x := fun x h => hp x (List.mem_cons_of_mem _ h)
    rw [clashF]
    split
    · simp
    · split
      · split
        · exact clashF_mx f _ _ _ _ q1 hl hr
        · intro z hz
          simp only [List.mem_cons, List.not_mem_nil, or_false] at hz
          rcases hz with rfl | rfl | rfl | rfl
          · exact upR_mx _ _ _ _ hl
          · exact hy
          · exact rootL_mx q1
          · exact rootL_mx q2
      · split
        · exact clashF_mx f _ _ _ _ q2 hl hr
        · intro z hz
          simp only [List.mem_cons, List.not_mem_nil, or_false] at hz
          rcases hz with rfl | rfl | rfl | rfl
          · exact hy
          · exact upR_mx _ _ _ _ hl
          · exact rootL_mx q1
          · exact rootL_mx q2
theorem iMixPair_c (a b : Int) (w : World) (ha : Mx a) (hb : Mx b) : FnP Try.prog 23 [.int .i64 a, .int .i64 b] w (.int .i64 (mixP a b)) := by
  have h1 := ha.inB
  have h2 := hb.inB
  refine FnP.enter Try.func23 rfl Try.ntmps23 rfl rfl ?_
  repeat' (first|(refine WL.dMove ?_;refine WL.move rfl rfl ?_)|(refine WL.dAssign ?_;refine WL.assign rfl rfl ?_)|(refine WL.dGuard ?_;(first|refine WL.take rfl rfl rfl rfl ?_|refine WL.pass rfl rfl rfl rfl rfl rfl ?_|refine WL.passU rfl rfl rfl rfl rfl rfl ?_|refine WL.gT rfl rfl rfl (by first|assumption|exact decide_eq_true (by omega)|exact notT (by omega)|exact boolT ‹_›) ?_|refine WL.gF rfl rfl rfl (by first|assumption|exact decide_eq_false (by omega)|exact notF (by omega)|exact boolF ‹_›) ?_|refine WL.gD rfl rfl rfl (fun _ => ?_) (fun _ => ?_)|refine WL.gN rfl rfl rfl (fun _ => ?_) (fun _ => ?_)|refine WL.gB rfl rfl rfl (fun _ => ?_) (fun _ => ?_)|refine WL.gsplit rfl rfl rfl (fun _ => ?_) (fun _ => ?_)))|(refine WL.dPick ?_;(first|refine WL.pick_true rfl rfl rfl ?_|refine WL.pick_false rfl rfl rfl ?_))|(refine WL.dLoad ?_;(first|refine WL.ld1 rfl rfl rfl ?_|refine WL.ldW rfl rfl rfl ?_|refine WL.ldA rfl rfl ?_|refine WL.ld0X rfl ‹_› ‹_› ‹_› rfl rfl ?_|refine WL.ldFX rfl ‹_› ‹_› ‹_› rfl rfl ?_|refine WL.ldEX rfl ‹_› ‹_› ‹_› rfl ?_|refine WL.ld0O rfl ‹_› ‹_› rfl rfl ?_|refine WL.ldFO rfl ‹_› ‹_› rfl rfl ?_|refine WL.ldEO rfl ‹_› ‹_› rfl ?_))|(refine WL.dField ?_;(first|refine WL.fieldV rfl rfl ?_|refine WL.fieldW rfl rfl ?_|refine WL.fieldP rfl rfl ?_))|(refine WL.dBin ?_;(first|refine WL.leq rfl rfl rfl ?_|refine WL.lss rfl rfl rfl ?_|refine WL.gtr rfl rfl rfl ?_|refine WL.geq rfl rfl rfl ?_|refine WL.eql rfl rfl rfl ?_|refine WL.neq rfl rfl rfl ?_|refine WL.add rfl rfl rfl (by omega) ?_|refine WL.sub_ rfl rfl rfl (by omega) ?_|refine WL.mul rfl rfl rfl (by omega) ?_|refine WL.quo rfl rfl rfl (by omega) ?_|refine WL.remp rfl rfl rfl (by omega) ?_|refine WL.eqlb rfl rfl rfl ?_|refine WL.neqb rfl rfl rfl ?_|refine WL.neqs rfl rfl rfl rfl ?_|refine WL.eqls rfl rfl rfl rfl ?_))|(refine WL.dUn ?_;(first|refine WL.not rfl rfl ?_|refine WL.neg rfl rfl (by omega) ?_))|(refine WL.dStore ?_;(first|refine WL.st1 rfl rfl (by first|rfl|assumption) ?_|refine WL.stA rfl rfl rfl rfl ?_))|(refine WL.dCall ?_;(first|refine WL.lenX rfl ‹_› rfl ?_|refine WL.lenO rfl rfl ?_|refine WL.apNX rfl rfl ‹_› (by omega) rfl rfl (fun _ _ => ?_)|refine WL.apNO rfl rfl (by omega) rfl rfl (fun _ _ => ?_)|(refine WL.apX rfl rfl ‹_› (by simp;omega) rfl rfl (fun _ _ => ?_))|(refine WL.apO rfl rfl (by simp;omega) rfl rfl (fun _ _ => ?_))|(refine WL.callP rfl rfl (fun w _ => iMixOk_c a w) rfl ?_;rw [h1])|(refine WL.callP rfl rfl (fun w _ => iMixOk_c b w) rfl ?_;rw [h2])|refine WL.callP rfl rfl (fun w _ => pair_c a b w ha hb) rfl ?_))|(refine WL.dIndex ?_;(first|refine WL.ixNX rfl rfl ‹_› (by omega) rfl (fun _ _ => ?_)|refine WL.ixNO rfl rfl (by omega) rfl (fun _ _ => ?_)|refine WL.ixX rfl rfl ‹_› (by omega) rfl (fun _ _ => ?_)|refine WL.ixO rfl rfl (by omega) rfl (fun _ _ => ?_)))|(refine WL.dOp ?_;(first|refine WL.extract rfl rfl rfl ?_|refine WL.alloc rfl (fun _ => ?_)|refine WL.boxA rfl rfl (fun _ => ?_)|refine WL.box1 rfl (by first|rfl|assumption) rfl (fun _ => ?_)|refine WL.nilCheck rfl rfl ?_|refine WL.build (by repeat (first|exact .nil|apply Bld.one' rfl rfl (by first|rfl|assumption)|apply Bld.agg' rfl rfl rfl)) rfl ?_|(refine WL.lit (E := intE) (by repeat (first|exact .nil|(apply Parts.one;exact rfl;exact rfl)|(apply Parts.agg;exact rfl;exact rfl))) rfl rfl rfl (fun _ _ => ?_))))|refine WL.nil ?_|(refine WC.d ?_;(first|refine WC.seq ?_|refine WC.region ?_|refine WC.cond_true rfl ?_|refine WC.cond_false rfl ?_|refine WC.condT rfl (by first|assumption|exact decide_eq_true (by omega)|exact notT (by omega)|exact boolT ‹_›) ?_|refine WC.condF rfl (by first|assumption|exact decide_eq_false (by omega)|exact notF (by omega)|exact boolF ‹_›) ?_|refine WC.condD rfl (fun _ => ?_) (fun _ => ?_)|refine WC.condN rfl (fun _ => ?_) (fun _ => ?_)|refine WC.condB rfl (fun _ => ?_) (fun _ => ?_)|refine WC.cond rfl (fun _ => ?_) (fun _ => ?_)|refine WC.block ?_|refine WC.skip ?_|refine WC.ret ?_|refine WC.exit ?_|refine WC.draws Ytcmmfamippdgbaa.wide (by kernel_rfl) ?_))|(refine WQ.d ?_;(first|refine WQ.then_normal ?_|refine WQ.then_ret ?_|refine WQ.then_exit ?_|refine WQ.block_normal ?_|refine WQ.block_ret ?_|refine WQ.block_here ?_|refine WQ.block_far rfl ?_|refine WQ.retP rfl (by repeat (first|exact .nil|apply Rets.tmp rfl|apply Rets.cA rfl|apply Rets.c1 rfl rfl)) ?_)))
  rfl
theorem ocCases (root t : Int) (r : Row) (p : List Int) : (ownCheck root t r p = false ∧ (t < 0 ∨ 7 < t)) ∨ ((0 ≤ t ∧ t ≤ 7) ∧ treCheck root 8 t (rowLeaf t r) p = ownCheck root t r p) := by
  cases h : inB t 0 7
  · refine .inl ⟨by rw [ownCheck, h]; rfl, ?_⟩
    rcases Int.lt_or_le t 0 with h0 | h0
    · exact .inl h0
    · rcases Int.lt_or_le 7 t with h1 | h1
      · exact .inr h1
      · rw [inB_true.2 ⟨h0, h1⟩] at h; cases h
  · exact .inr ⟨inB_true.1 h, by rw [ownCheck, h]; rfl⟩
structure Found (rs : List Row) (t : Int) (leaf : Int) (p : List Int) (y : Int) : Prop where
  at_ : (rowLeaves rs)[t.toNat]? = some y
  lt : 0 ≤ t ∧ t < (rowLeaves rs).length
  len : (rowLeaves rs).length ≤ 40
  found : y = leaf ∨ ∃ a b c d, treClash (rowLeaves rs) t leaf p = [a, b, c, d] ∧ (Mx a ∧ Mx b ∧ Mx c ∧ Mx d) ∧ mixP a b = mixP c d ∧ ¬ (a = c ∧ b = d)
theorem found_of {rs : List Row} {root t leaf : Int} {p : List Int} (ho : ownOk rs = true) (hr : ownRoot rs = root) (ht : 0 ≤ t ∧ t ≤ 7) (hc : treCheck root 8 t leaf p = true) : ∃ y, Found rs t leaf p y := by
  have h8 := ownOk_len ho
  have hl8 : (rowLeaves rs).length = 8 := by rw [rowLeaves, leavesTo_len]; omega
  obtain ⟨y, hy⟩ := getElem_ex (xs := rowLeaves rs) (k := t.toNat) (by omega)
  have e8 : ((rowLeaves rs).length : Int) = 8 := by omega
  rw [← hr, ownRoot_yes ho, ← e8] at hc
  refine ⟨y, hy, by omega, by omega, ?_⟩
  by_cases he : y = leaf
  · exact .inl he
  · have hne : ¬ (rowLeaves rs).getD t.toNat 0 = leaf := by rw [List.getD_eq_getElem?_getD, hy]; exact he
    obtain ⟨a, b, c, d, e, h1, h2⟩ := treClash_found (by omega) hc hne
    have hU := (treCheck_up.1 hc).1
    have hm : ∀ z ∈ treClash (rowLeaves rs) t leaf p, Mx z := by
      rw [treClash, if_pos ⟨hc, hne⟩]
      exact clashF_mx 40 _ _ _ _ (rowLeaves_mx rs) hU.hlf (fun z hz => hU.mx z (List.mem_reverse.1 hz))
    rw [e] at hm
    exact .inr ⟨a, b, c, d, e, ⟨hm a (by simp), hm b (by simp), hm c (by simp), hm d (by simp)⟩, h1, h2⟩
set_option maxHeartbeats 3200000 in
theorem lFnOwnCheck_c (v v' : Value) (bs bs' : List Int) (w : World) (hs : Sl byteE 1 v bs w) (hs' : Sl byteE 1 v' bs' w) (hb : ∀ y ∈ bs, 0 ≤ y ∧ y ≤ 255) (hb' : ∀ y ∈ bs', 0 ≤ y ∧ y ≤ 255) : FnP Try.prog 3 [v, v'] w (.bool true) := by
  refine FnP.enter Try.func3 rfl Try.ntmps3 rfl rfl ?_
  repeat' (first|(refine WL.dMove ?_;refine WL.move rfl rfl ?_)|(refine WL.dAssign ?_;refine WL.assign rfl rfl ?_)|(refine WL.dGuard ?_;(first|refine WL.take rfl rfl rfl rfl ?_|refine WL.pass rfl rfl rfl rfl rfl rfl ?_|refine WL.passU rfl rfl rfl rfl rfl rfl ?_|refine WL.gT rfl rfl rfl (by first|assumption|exact decide_eq_true (by omega)|exact notT (by omega)|exact boolT ‹_›) ?_|refine WL.gF rfl rfl rfl (by first|assumption|exact decide_eq_false (by omega)|exact notF (by omega)|exact boolF ‹_›) ?_|refine WL.gD rfl rfl rfl (fun _ => ?_) (fun _ => ?_)|refine WL.gN rfl rfl rfl (fun _ => ?_) (fun _ => ?_)|refine WL.gB rfl rfl rfl (fun _ => ?_) (fun _ => ?_)|refine WL.gsplit rfl rfl rfl (fun _ => ?_) (fun _ => ?_)))|(refine WL.dPick ?_;(first|refine WL.pick_true rfl rfl rfl ?_|refine WL.pick_false rfl rfl rfl ?_))|(refine WL.dLoad ?_;(first|refine WL.ld0O (E := intE) rfl ‹_› i0 rfl rfl ?_|refine WL.ld0O (E := intE) rfl ‹_› i1 rfl rfl ?_|refine WL.ld0O (E := intE) rfl ‹_› i2 rfl rfl ?_|refine WL.ld0O (E := intE) rfl ‹_› i3 rfl rfl ?_|refine WL.ld1 rfl rfl rfl ?_|refine WL.ldW rfl rfl rfl ?_|refine WL.ldA rfl rfl ?_|refine WL.ld0X rfl ‹_› ‹_› ‹_› rfl rfl ?_|refine WL.ldFX rfl ‹_› ‹_› ‹_› rfl rfl ?_|refine WL.ldEX rfl ‹_› ‹_› ‹_› rfl ?_|refine WL.ld0R rfl ‹_› ‹_› ‹_› rfl rfl ?_|refine WL.ldFR rfl ‹_› ‹_› ‹_› rfl rfl ?_|refine WL.ldER rfl ‹_› ‹_› ‹_› rfl ?_|refine WL.ld0O rfl ‹_› ‹_› rfl rfl ?_|refine WL.ldFO rfl ‹_› ‹_› rfl rfl ?_|refine WL.ldEO rfl ‹_› ‹_› rfl ?_))|(refine WL.dField ?_;(first|refine WL.fieldV rfl rfl ?_|refine WL.fieldW rfl rfl ?_|refine WL.fieldP rfl rfl ?_))|(refine WL.dBin ?_;(first|refine WL.neqbF rfl rfl rfl rfl ?_|refine WL.leq rfl rfl rfl ?_|refine WL.lss rfl rfl rfl ?_|refine WL.gtr rfl rfl rfl ?_|refine WL.geq rfl rfl rfl ?_|refine WL.eql rfl rfl rfl ?_|refine WL.neq rfl rfl rfl ?_|refine WL.add rfl rfl rfl (by omega) ?_|refine WL.sub_ rfl rfl rfl (by omega) ?_|refine WL.mul rfl rfl rfl (by omega) ?_|refine WL.quo rfl rfl rfl (by omega) ?_|refine WL.remp rfl rfl rfl (by omega) ?_|refine WL.eqlb rfl rfl rfl ?_|refine WL.neqb rfl rfl rfl ?_|refine WL.xor rfl rfl rfl (by omega) (fun _ _ => ?_)|refine WL.neqs rfl rfl rfl rfl ?_|refine WL.eqls rfl rfl rfl rfl ?_))|(refine WL.dUn ?_;(first|refine WL.not rfl rfl ?_|refine WL.neg rfl rfl (by omega) ?_))|(refine WL.dStore ?_;(first|refine WL.st1 rfl rfl (by first|rfl|assumption) ?_|refine WL.stA rfl rfl rfl rfl ?_))|(refine WL.dCall ?_;(first|refine WL.lenX rfl ‹_› rfl ?_|refine WL.lenO rfl rfl ?_|refine WL.lenR rfl ‹_› rfl ?_|refine WL.apNX rfl rfl ‹_› (by omega) rfl rfl (fun _ _ => ?_)|refine WL.apNO rfl rfl (by omega) rfl rfl (fun _ _ => ?_)|(refine WL.apX rfl rfl ‹_› (by simp;omega) rfl rfl (fun _ _ => ?_))|(refine WL.apO rfl rfl (by simp;omega) rfl rfl (fun _ _ => ?_))|(refine WL.call1 rfl rfl (fun w h => DrawOwnCheck_c v bs w (Sl.ext hs h) hb) rfl (fun z hz => ?_);obtain ⟨hz1, hz2⟩ := hz;rcases ocCases z.1 z.2.1 z.2.2.1 z.2.2.2.2 with (⟨hc, ht⟩|⟨ht, htc⟩);rotate_left;cases hc : ownCheck z.1 z.2.1 z.2.2.1 z.2.2.2.2)|(refine WL.call1 rfl rfl (fun w h => DrawOwnRoot_c v' bs' w (Sl.ext hs' h) hb') rfl (fun y hy => ?_);obtain ⟨hy1, hy2⟩ := hy;cases ho : ownOk y.2)|(refine WL.callP rfl rfl (fun w h => iOwnCheck_c z.1 z.2.1 z.2.2.1 _ z.2.2.2.2 w (Sl.v h) (by omega)) rfl ?_;rw [hc])|(refine WL.callP rfl rfl (fun w h => sOwnCheck_c z.1 z.2.1 z.2.2.1 _ z.2.2.2.2 w (Sl.v h) (by omega)) rfl ?_;rw [hc])|refine WL.callP rfl rfl (fun w h => iOwnLeaf_c z.2.1 z.2.2.1 w) rfl ?_|(refine WL.callP rfl rfl (fun w h => iTreCheck_c z.1 8 z.2.1 (rowLeaf z.2.1 z.2.2.1) _ z.2.2.2.2 w (Sl.v h) (by omega)) rfl ?_;rw [htc, hc])|(refine WL.callP rfl rfl (fun w h => sOwnOk_c _ y.2 w (Sl.v h) (by omega)) rfl ?_;rw [ho])|(refine WL.callP rfl rfl (fun w h => iOwnRoot_c _ y.2 w (Sl.v h) (by omega)) rfl ?_;by_cases hrt : ownRoot y.2 = z.1)|refine WL.callP rfl rfl (fun w h => swOk_c w) rfl ?_|(refine WL.call1 rfl rfl (fun w h => swLeaves_c _ y.2 w (Sl.v h) (by omega)) rfl (fun u hu => ?_);rw [hc] at htc;obtain ⟨lt, hF⟩ := found_of ho hrt ht htc;have hat := hF.at_;have hlt := hF.lt;rcases hF.found with (hfd|⟨ca, cb, cc, cd, hcl, ⟨m1, m2, m3, m4⟩, hmix, hne⟩);rotate_left;have i0 : ([ca, cb, cc, cd] : List Int)[Int.toNat 0]? = some ca := rfl;have i1 : ([ca, cb, cc, cd] : List Int)[Int.toNat 1]? = some cb := rfl;have i2 : ([ca, cb, cc, cd] : List Int)[Int.toNat 2]? = some cc := rfl;have i3 : ([ca, cb, cc, cd] : List Int)[Int.toNat 3]? = some cd := rfl;have j0 : ([ca, cb, cc, cd] : List Int)[0]? = some ca := rfl;have j1 : ([ca, cb, cc, cd] : List Int)[1]? = some cb := rfl;have j2 : ([ca, cb, cc, cd] : List Int)[2]? = some cc := rfl;have j3 : ([ca, cb, cc, cd] : List Int)[3]? = some cd := rfl;by_cases hac : ca = cc)|(refine WL.call1 rfl rfl (fun w h => iTreClash_c _ _ (rowLeaves y.2) z.2.1 (rowLeaf z.2.1 z.2.2.1) z.2.2.2.2 w (Sl.o h) (Sl.v h) (rowLeaves_mx _) hF.len (by omega)) rfl (fun u hu => ?_);try rw [hcl])|refine WL.callP rfl rfl (fun w h => iMixPair_c ca cb w m1 m2) rfl ?_|refine WL.callP rfl rfl (fun w h => iMixPair_c cc cd w m3 m4) rfl ?_))|(refine WL.dIndex ?_;(first|refine WL.ixO rfl rfl (by simp) rfl (fun _ _ => ?_)|refine WL.ixNX rfl rfl ‹_› (by omega) rfl (fun _ _ => ?_)|refine WL.ixNO rfl rfl (by omega) rfl (fun _ _ => ?_)|refine WL.ixNR rfl rfl ‹_› (by omega) rfl (fun _ _ => ?_)|refine WL.ixR rfl rfl ‹_› (by omega) rfl (fun _ _ => ?_)|refine WL.ixX rfl rfl ‹_› (by omega) rfl (fun _ _ => ?_)|refine WL.ixO rfl rfl (by omega) rfl (fun _ _ => ?_)))|(refine WL.dOp ?_;(first|refine WL.extract rfl rfl rfl ?_|refine WL.alloc rfl (fun _ => ?_)|refine WL.boxA rfl rfl (fun _ => ?_)|refine WL.box1 rfl (by first|rfl|assumption) rfl (fun _ => ?_)|refine WL.nilCheck rfl rfl ?_|refine WL.conv rfl rfl (by omega) ?_|refine WL.build (by repeat (first|exact .nil|apply Bld.one' rfl rfl (by first|rfl|assumption)|apply Bld.agg' rfl rfl rfl)) rfl ?_|(refine WL.lit (E := intE) (by repeat (first|exact .nil|(apply Parts.one;exact rfl;exact rfl)|(apply Parts.agg;exact rfl;exact rfl))) rfl rfl rfl (fun _ _ => ?_))))|refine WL.nil ?_|(refine WC.d ?_;(first|refine WC.seq ?_|refine WC.region ?_|refine WC.cond_true rfl ?_|refine WC.cond_false rfl ?_|refine WC.condT rfl (by first|assumption|exact decide_eq_true (by omega)|exact notT (by omega)|exact boolT ‹_›) ?_|refine WC.condF rfl (by first|assumption|exact decide_eq_false (by omega)|exact notF (by omega)|exact boolF ‹_›) ?_|refine WC.condD rfl (fun _ => ?_) (fun _ => ?_)|refine WC.condN rfl (fun _ => ?_) (fun _ => ?_)|refine WC.condB rfl (fun _ => ?_) (fun _ => ?_)|refine WC.cond rfl (fun _ => ?_) (fun _ => ?_)|refine WC.block ?_|refine WC.skip ?_|refine WC.ret ?_|refine WC.exit ?_|refine WC.draws Ytcmmfamippdgbaa.wide (by kernel_rfl) ?_))|(refine WQ.d ?_;(first|refine WQ.then_normal ?_|refine WQ.then_ret ?_|refine WQ.then_exit ?_|refine WQ.block_normal ?_|refine WQ.block_ret ?_|refine WQ.block_here ?_|refine WQ.block_far rfl ?_|refine WQ.retP rfl (by repeat (first|exact .nil|apply Rets.tmp rfl|apply Rets.cA rfl|apply Rets.c1 rfl rfl)) ?_)))
  all_goals first | exact rfl | (simp_all [retVal]; done)
end Go.Proofs.Ytcmmfamippdgbaa
