/- Contracts: an entry put, entries folded. -/
import Derived.Test.YtcmmfamippdgbaaO1
namespace Go.Proofs.Ytcmmfamippdgbaa
open Vc

section
variable {P : Program} {w0 : World} {X : List Nat} {N : Nat} {ops : Array Oper} {Q : Exit → Act → World → Prop} {rest : List Oper} {fr : Fr} {L L' : List Res} {d ty : Nat} {ps : String} {af : Array Edge}
variable {α : Type} {E : α → List Value} {sz t i : Nat} {v : Value} {x y : Operand} {T : Nat} {p : Addr} {ys : List α} {e e' : α}
theorem Vc.WL.stE1 [Enc E sz] [TCell P T true sz] [hR : CReplO L E sz v t (ys.set i e) (ys.set i e') L'] (hx : ev fr x = some (.pointer (some p))) (hy : ev fr y = some (.agg (E e').toArray)) (hp : PtrOf v (i * sz) p) (hi : i < ys.length)
    (kk : WL false P w0 X N ops Q rest fr L') : WL false P w0 X N ops Q (⟨none, .store T x y, ty, ps, af, none⟩ :: rest) fr L :=
  WL.storeE (ys := ys.set i e) (e := e) (e' := e') hx hy hp (by rw [List.set_set]; exact hR.h) (by rw [List.getElem?_set_self hi]) kk
end
def put (r : Row) (e : Ent) : Row := if e.kind = 1 then ⟨e.who, e.price, false⟩ else if e.kind = 2 then ⟨e.who, r.face, r.used⟩ else ⟨r.who, r.face, true⟩
def ownPut (rs : List Row) (e : Ent) : List Row × Bool := if ownFits rs e = true then (rs.set e.ticket.toNat (put (rs.getD e.ticket.toNat row0) e), true) else (rs, false)
theorem ownPut_length (rs : List Row) (e : Ent) : (ownPut rs e).1.length = rs.length := by unfold ownPut; split <;> simp
theorem ownPut_no {rs : List Row} {e : Ent} (h : ownFits rs e = false) : ownPut rs e = (rs, false) := by simp [ownPut, h]
structure Fit (rs : List Row) (e : Ent) (r : Row) : Prop where
  at_ : rs[e.ticket.toNat]? = some r
  lt : 0 ≤ e.ticket ∧ e.ticket < rs.length
  put_ : ownPut rs e = (rs.set e.ticket.toNat (put r e), true)
  fits_ : fits r e = true
  ok : rowOk r = true
  free : e.kind = 1 → r = row0
theorem fit_of {rs : List Row} {e : Ent} (h : ownFits rs e = true) : ∃ r, Fit rs e r := by
  have h' := h
  simp only [ownFits, Bool.and_eq_true] at h'
  obtain ⟨⟨h1, h2⟩, h3⟩ := h'
  obtain ⟨r, hr, hg, h0, ho⟩ := fits_at h1 h2
  rw [hg] at h3
  refine ⟨r, hr, h0, by rw [ownPut, if_pos h, hg], h3, ho, fun hk => ?_⟩
  have hw : r.who = 0 := by simpa [fits, hk] using h3
  simp only [rowOk, Bool.or_eq_true, Bool.and_eq_true, decide_eq_true_eq] at ho
  rcases ho with ho | ho
  · exact ho
  · have := inB_true.1 ho.1; omega
set_option maxHeartbeats 1600000 in
theorem sOwnPut_c (v : Value) (rs : List Row) (e : Ent) (w : World) (hs : Sl rowE 3 v rs w) (hl : rs.length ≤ 1099511627776) :
    CallsTo Try.prog 141 [v, .agg (entE e).toArray] w [] (B := Value) (fun u => u.oneCell' = true) (fun u => .tuple #[u, .bool (ownPut rs e).2]) (fun u => [own rowE 3 u 24 (ownPut rs e).1]) := by
  refine CallsTo.enter Try.func141 rfl Try.ntmps141 rfl rfl (St.start w []) ?_
  cases hf : ownFits rs e
  · rw [ownPut_no hf]
    repeat' (first|(refine WL.dMove ?_;refine WL.move rfl rfl ?_)|(refine WL.dAssign ?_;refine WL.assign rfl rfl ?_)|(refine WL.dLoad ?_;refine WL.ldW rfl rfl rfl ?_)|(refine WL.dUn ?_;refine WL.not rfl rfl ?_)|(refine WL.dCall ?_;(first|(refine WL.apX rfl rfl ‹_› (by simp;omega) rfl rfl (fun _ _ => ?_))|(refine WL.callP rfl rfl (fun w h => sOwnFits_c v rs e w (hs.ext h) hl) rfl ?_;rw [hf])))|(refine WL.dOp ?_;(first|refine WL.boxA rfl rfl (fun _ => ?_)|refine WL.lit (E := rowE) (ys := []) .nil rfl rfl rfl (fun u0 hu0 => ?_)))|refine WL.nil ?_|(refine WC.d ?_;(first|refine WC.seq ?_|refine WC.region ?_|refine WC.cond_true rfl ?_|refine WC.ret ?_))|(refine WQ.d ?_;(first|refine WQ.then_normal ?_|refine WQ.then_ret ?_)))
    (refine WQ.retE rfl (by repeat (first | exact .nil | apply Rets.tmp rfl | apply Rets.cA rfl | apply Rets.c1 rfl rfl)) ?_; refine ⟨_, ?_, (by first | (dsimp only [retVal]; done) | (dsimp only [retVal]; exact rfl) | exact rfl), fun _ h => (by first | (dsimp only; exact h.sel (by repeat (first | exact Sel.nil | apply Sel.cons (by repeat (first | exact Del.here | apply Del.there))))) | exact h.sel (by repeat (first | exact Sel.nil | apply Sel.cons (by repeat (first | exact Del.here | apply Del.there)))))⟩; assumption)
  obtain ⟨r, hF⟩ := fit_of hf
  have hr := hF.at_
  have h0 := hF.lt
  have hi : e.ticket.toNat < rs.length := by omega
  rw [hF.put_]
  by_cases k1 : e.kind = 1
  · obtain rfl := hF.free k1
    rw [put, if_pos k1]
    repeat' (first|(refine WL.dMove ?_;refine WL.move rfl rfl ?_)|(refine WL.dAssign ?_;refine WL.assign rfl rfl ?_)|(refine WL.dLoad ?_;(first|refine WL.ld1 rfl rfl rfl ?_|refine WL.ldW rfl rfl rfl ?_))|(refine WL.dField ?_;refine WL.fieldV rfl rfl ?_)|(refine WL.dBin ?_;refine WL.eql rfl rfl rfl ?_)|(refine WL.dUn ?_;refine WL.not rfl rfl ?_)|(refine WL.dStore ?_;refine WL.stE1 (E := rowE) (e := row0) (e' := ⟨e.who, e.price, false⟩) rfl rfl ‹_› hi ?_)|(refine WL.dCall ?_;(first|(refine WL.apX (E := rowE) (ys := []) rfl rfl hs (by simp;omega) rfl rfl (fun u hu => ?_);refine WL.res (L' := own rowE 3 u 24 (rs.set e.ticket.toNat row0) :: _) (fun _ h => by rw [set_self_ hr];exact h) ?_)|(refine WL.callP rfl rfl (fun w h => sOwnFits_c v rs e w (hs.ext h) hl) rfl ?_;rw [hf])))|(refine WL.dIndex ?_;(refine WL.ixO rfl rfl (by rw [List.length_set];exact h0) rfl (fun _ _ => ?_)))|(refine WL.dOp ?_;(first|refine WL.boxA rfl rfl (fun _ => ?_)|refine WL.build (by repeat (first|exact .nil|apply Bld.one' rfl rfl (by first|rfl|assumption)|apply Bld.agg' rfl rfl rfl)) rfl ?_|refine WL.lit (E := rowE) (ys := []) .nil rfl rfl rfl (fun u0 hu0 => ?_)))|refine WL.nil ?_|(refine WC.d ?_;(first|refine WC.seq ?_|refine WC.region ?_|refine WC.cond_false rfl ?_|refine WC.condT rfl (by first|assumption|exact decide_eq_true (by omega)|exact notT (by omega)|exact boolT ‹_›) ?_|refine WC.block ?_|refine WC.skip ?_|refine WC.ret ?_))|(refine WQ.d ?_;(first|refine WQ.then_normal ?_|refine WQ.block_normal ?_)))
    (refine WQ.retE rfl (by repeat (first | exact .nil | apply Rets.tmp rfl | apply Rets.cA rfl | apply Rets.c1 rfl rfl)) ?_; refine ⟨_, ?_, (by first | (dsimp only [retVal]; done) | (dsimp only [retVal]; exact rfl) | exact rfl), fun _ h => (by first | (dsimp only; exact h.sel (by repeat (first | exact Sel.nil | apply Sel.cons (by repeat (first | exact Del.here | apply Del.there))))) | exact h.sel (by repeat (first | exact Sel.nil | apply Sel.cons (by repeat (first | exact Del.here | apply Del.there)))))⟩; assumption)
  by_cases k2 : e.kind = 2
  · rw [put, if_neg k1, if_pos k2]
    repeat' (first|(refine WL.dMove ?_;refine WL.move rfl rfl ?_)|(refine WL.dAssign ?_;refine WL.assign rfl rfl ?_)|(refine WL.dLoad ?_;(first|refine WL.ld1 rfl rfl rfl ?_|refine WL.ldW rfl rfl rfl ?_))|(refine WL.dField ?_;(first|refine WL.fieldV rfl rfl ?_|refine WL.fieldP rfl rfl ?_))|(refine WL.dBin ?_;refine WL.eql rfl rfl rfl ?_)|(refine WL.dUn ?_;refine WL.not rfl rfl ?_)|(refine WL.dStore ?_;refine WL.stF1 (E := rowE) (f := 0) (e := r) (e' := ⟨e.who, r.face, r.used⟩) rfl rfl ‹_› hi (by omega) rfl ?_)|(refine WL.dCall ?_;(first|(refine WL.apX (E := rowE) (ys := []) rfl rfl hs (by simp;omega) rfl rfl (fun u hu => ?_);refine WL.res (L' := own rowE 3 u 24 (rs.set e.ticket.toNat r) :: _) (fun _ h => by rw [set_self_ hr];exact h) ?_)|(refine WL.callP rfl rfl (fun w h => sOwnFits_c v rs e w (hs.ext h) hl) rfl ?_;rw [hf])))|(refine WL.dIndex ?_;(refine WL.ixO rfl rfl (by rw [List.length_set];exact h0) rfl (fun _ _ => ?_)))|(refine WL.dOp ?_;(first|refine WL.boxA rfl rfl (fun _ => ?_)|refine WL.lit (E := rowE) (ys := []) .nil rfl rfl rfl (fun u0 hu0 => ?_)))|refine WL.nil ?_|(refine WC.d ?_;(first|refine WC.seq ?_|refine WC.region ?_|refine WC.cond_false rfl ?_|refine WC.condT rfl (by first|assumption|exact decide_eq_true (by omega)|exact notT (by omega)|exact boolT ‹_›) ?_|refine WC.condF rfl (by first|assumption|exact decide_eq_false (by omega)|exact notF (by omega)|exact boolF ‹_›) ?_|refine WC.block ?_|refine WC.skip ?_|refine WC.ret ?_))|(refine WQ.d ?_;(first|refine WQ.then_normal ?_|refine WQ.block_normal ?_)))
    (refine WQ.retE rfl (by repeat (first | exact .nil | apply Rets.tmp rfl | apply Rets.cA rfl | apply Rets.c1 rfl rfl)) ?_; refine ⟨_, ?_, (by first | (dsimp only [retVal]; done) | (dsimp only [retVal]; exact rfl) | exact rfl), fun _ h => (by first | (dsimp only; exact h.sel (by repeat (first | exact Sel.nil | apply Sel.cons (by repeat (first | exact Del.here | apply Del.there))))) | exact h.sel (by repeat (first | exact Sel.nil | apply Sel.cons (by repeat (first | exact Del.here | apply Del.there)))))⟩; assumption)
  · rw [put, if_neg k1, if_neg k2]
    repeat' (first|(refine WL.dMove ?_;refine WL.move rfl rfl ?_)|(refine WL.dAssign ?_;refine WL.assign rfl rfl ?_)|(refine WL.dLoad ?_;(first|refine WL.ld1 rfl rfl rfl ?_|refine WL.ldW rfl rfl rfl ?_))|(refine WL.dField ?_;(first|refine WL.fieldV rfl rfl ?_|refine WL.fieldP rfl rfl ?_))|(refine WL.dBin ?_;refine WL.eql rfl rfl rfl ?_)|(refine WL.dUn ?_;refine WL.not rfl rfl ?_)|(refine WL.dStore ?_;refine WL.stF1 (E := rowE) (f := 2) (e := r) (e' := ⟨r.who, r.face, true⟩) rfl rfl ‹_› hi (by omega) rfl ?_)|(refine WL.dCall ?_;(first|(refine WL.apX (E := rowE) (ys := []) rfl rfl hs (by simp;omega) rfl rfl (fun u hu => ?_);refine WL.res (L' := own rowE 3 u 24 (rs.set e.ticket.toNat r) :: _) (fun _ h => by rw [set_self_ hr];exact h) ?_)|(refine WL.callP rfl rfl (fun w h => sOwnFits_c v rs e w (hs.ext h) hl) rfl ?_;rw [hf])))|(refine WL.dIndex ?_;(refine WL.ixO rfl rfl (by rw [List.length_set];exact h0) rfl (fun _ _ => ?_)))|(refine WL.dOp ?_;(first|refine WL.boxA rfl rfl (fun _ => ?_)|refine WL.lit (E := rowE) (ys := []) .nil rfl rfl rfl (fun u0 hu0 => ?_)))|refine WL.nil ?_|(refine WC.d ?_;(first|refine WC.seq ?_|refine WC.region ?_|refine WC.cond_false rfl ?_|refine WC.condF rfl (by first|assumption|exact decide_eq_false (by omega)|exact notF (by omega)|exact boolF ‹_›) ?_|refine WC.block ?_|refine WC.skip ?_|refine WC.ret ?_))|(refine WQ.d ?_;(first|refine WQ.then_normal ?_|refine WQ.block_normal ?_)))
    (refine WQ.retE rfl (by repeat (first | exact .nil | apply Rets.tmp rfl | apply Rets.cA rfl | apply Rets.c1 rfl rfl)) ?_; refine ⟨_, ?_, (by first | (dsimp only [retVal]; done) | (dsimp only [retVal]; exact rfl) | exact rfl), fun _ h => (by first | (dsimp only; exact h.sel (by repeat (first | exact Sel.nil | apply Sel.cons (by repeat (first | exact Del.here | apply Del.there))))) | exact h.sel (by repeat (first | exact Sel.nil | apply Sel.cons (by repeat (first | exact Del.here | apply Del.there)))))⟩; assumption)

def foldE (rs : List Row) : List Ent → Option (List Row)
  | [] => some rs
  | e :: es => if (ownPut rs e).2 = true then foldE (ownPut rs e).1 es else none
def rows0 : List Row := List.replicate 8 row0
def ownFold (xs : List Ent) : List Row × Bool := if xs.length ≤ 40 then (match foldE rows0 xs with | some r => (r, true) | none => ([], false)) else ([], false)
theorem foldE_drop {rs : List Row} {xs : List Ent} {k : Nat} {y : Ent} (h : xs[k]? = some y) : foldE rs (xs.drop k) = if (ownPut rs y).2 = true then foldE (ownPut rs y).1 (xs.drop (k + 1)) else none := by
  obtain ⟨hlt, rfl⟩ := List.getElem?_eq_some_iff.1 h
  rw [List.drop_eq_getElem_cons hlt]; rfl
theorem l5New_c (w : World) : CallsTo Try.prog 133 [] w [] (B := Value) (fun u => u.oneCell' = true) (fun u => u) (fun u => [own rowE 3 u 24 rows0]) := by
  refine CallsTo.enter Try.func133 rfl Try.ntmps133 rfl rfl (St.start w []) ?_
  repeat' (first|(refine WL.dMove ?_;refine WL.move rfl rfl ?_)|(refine WL.dAssign ?_;refine WL.assign rfl rfl ?_)|(refine WL.dOp ?_;refine WL.make (E := rowE) row0 rfl rfl (by omega) rfl rfl (fun u0 hu0 => ?_))|refine WL.nil ?_|(refine WC.d ?_;(first|refine WC.seq ?_|refine WC.region ?_|refine WC.ret ?_))|(refine WQ.d ?_;refine WQ.then_normal ?_))
  (refine WQ.retE rfl (by repeat (first | exact .nil | apply Rets.tmp rfl | apply Rets.cA rfl | apply Rets.c1 rfl rfl)) ?_; exact ⟨_, by assumption, rfl, fun _ h => h⟩)
set_option maxHeartbeats 800000 in
theorem sOwnFold_c (v : Value) (xs : List Ent) (w : World) (hs : Sl entE 4 v xs w) (hl : xs.length ≤ 1099511627776) :
    CallsTo Try.prog 108 [v] w [] (B := Value) (fun u => u.oneCell' = true) (fun u => .tuple #[u, .bool (ownFold xs).2]) (fun u => [own rowE 3 u 24 (ownFold xs).1]) := by
  refine CallsTo.enter Try.func108 rfl Try.ntmps108 rfl rfl (St.start w []) ?_
  by_cases h4 : xs.length ≤ 40
  case neg =>
    rw [ownFold, if_neg h4]
    repeat' (first|(refine WL.dMove ?_;refine WL.move rfl rfl ?_)|(refine WL.dAssign ?_;refine WL.assign rfl rfl ?_)|(refine WL.dBin ?_;refine WL.gtr rfl rfl rfl ?_)|(refine WL.dCall ?_;(first|refine WL.lenX rfl ‹_› rfl ?_|refine WL.call1 rfl rfl (fun w h => l5New_c w) rfl (fun u hu => ?_)))|(refine WL.dOp ?_;refine WL.lit (E := rowE) (ys := []) .nil rfl rfl rfl (fun u1 hu1 => ?_))|refine WL.nil ?_|(refine WC.d ?_;(first|refine WC.seq ?_|refine WC.region ?_|refine WC.condT rfl (by first|assumption|exact decide_eq_true (by omega)|exact notT (by omega)|exact boolT ‹_›) ?_|refine WC.ret ?_))|(refine WQ.d ?_;(first|refine WQ.then_normal ?_|refine WQ.then_ret ?_)))
    (refine WQ.retE rfl (by repeat (first | exact .nil | apply Rets.tmp rfl | apply Rets.cA rfl | apply Rets.c1 rfl rfl)) ?_; refine ⟨_, ?_, (by first | (dsimp only [retVal]; done) | (dsimp only [retVal]; exact rfl) | exact rfl), fun _ h => (by first | (dsimp only; exact h.sel (by repeat (first | exact Sel.nil | apply Sel.cons (by repeat (first | exact Del.here | apply Del.there))))) | exact h.sel (by repeat (first | exact Sel.nil | apply Sel.cons (by repeat (first | exact Del.here | apply Del.there)))))⟩; assumption)
  rw [ownFold, if_pos h4]
  repeat' (first|(refine WL.dMove ?_;refine WL.move rfl rfl ?_)|(refine WL.dAssign ?_;refine WL.assign rfl rfl ?_)|(refine WL.dBin ?_;refine WL.gtr rfl rfl rfl ?_)|(refine WL.dCall ?_;(first|refine WL.lenX rfl ‹_› rfl ?_|refine WL.call1 rfl rfl (fun w h => l5New_c w) rfl (fun u0 hu0 => ?_)))|refine WL.nil ?_|(refine WC.d ?_;(first|refine WC.seq ?_|refine WC.region ?_|refine WC.condF rfl (by first|assumption|exact decide_eq_false (by omega)|exact notF (by omega)|exact boolF ‹_›) ?_|refine WC.block ?_|refine WC.skip ?_))|(refine WQ.d ?_;refine WQ.then_normal ?_))
  refine WC.loopU (A := Nat × Value × List Row) [0] (fun a => a.1 ≤ xs.length ∧ a.2.1.oneCell' = true ∧ foldE rows0 xs = foldE a.2.2 (xs.drop a.1) ∧ a.2.2.length = 8) (fun a => [(4, a.2.1), (5, .int .i64 (a.1 : Int))]) (fun a => [own rowE 3 a.2.1 24 a.2.2]) (fun a => xs.length - a.1) (0, u0, rows0) ⟨Nat.zero_le _, by assumption, rfl, rfl⟩ (by repeat (first | exact .nil | apply Pick.cons rfl)) ⟨rfl, rfl, trivial⟩ (fun _ h => h) (fun a ha => ?_)
  obtain ⟨k, u, rs⟩ := a
  obtain ⟨hk, hu, he, h8⟩ := ha
  refine WC.frame (by first | dsimp only [List.cons_append, List.nil_append] | exact rfl) (by first | dsimp only | exact rfl) ?_
  dsimp only at hk hu he h8
  by_cases hlt : k < xs.length
  · obtain ⟨y, hy⟩ := getElem_ex hlt
    rw [foldE_drop hy] at he
    cases hp : (ownPut rs y).2
    · rw [hp, if_neg (by simp)] at he
      rw [he]
      repeat' (first|(refine WL.dMove ?_;refine WL.move rfl rfl ?_)|(refine WL.dAssign ?_;refine WL.assign rfl rfl ?_)|(refine WL.dLoad ?_;refine WL.ldEX rfl ‹_› ‹_› ‹_› rfl ?_)|(refine WL.dBin ?_;refine WL.lss rfl rfl rfl ?_)|(refine WL.dUn ?_;refine WL.not rfl rfl ?_)|(refine WL.dCall ?_;(first|refine WL.lenX rfl ‹_› rfl ?_|(refine WL.call1 rfl rfl (fun w h => sOwnPut_c u rs y w (Sl.o h) (by omega)) rfl (fun u2 hu2 => ?_);rw [hp])))|(refine WL.dIndex ?_;refine WL.ixNX rfl rfl ‹_› (by omega) rfl (fun _ _ => ?_))|(refine WL.dOp ?_;(first|refine WL.extract rfl rfl rfl ?_|refine WL.lit (E := rowE) (ys := []) .nil rfl rfl rfl (fun u1 hu1 => ?_)))|refine WL.nil ?_|(refine WC.d ?_;(first|refine WC.seq ?_|refine WC.region ?_|refine WC.cond_true rfl ?_|refine WC.condT rfl (by first|assumption|exact decide_eq_true (by omega)|exact notT (by omega)|exact boolT ‹_›) ?_|refine WC.block ?_|refine WC.skip ?_|refine WC.ret ?_))|(refine WQ.d ?_;(first|refine WQ.then_normal ?_|refine WQ.then_ret ?_|refine WQ.block_ret ?_)))
      (refine WQ.retE rfl (by repeat (first | exact .nil | apply Rets.tmp rfl | apply Rets.cA rfl | apply Rets.c1 rfl rfl)) ?_; refine ⟨_, ?_, (by first | (dsimp only [retVal]; done) | (dsimp only [retVal]; exact rfl) | exact rfl), fun _ h => (by first | (dsimp only; exact h.sel (by repeat (first | exact Sel.nil | apply Sel.cons (by repeat (first | exact Del.here | apply Del.there))))) | exact h.sel (by repeat (first | exact Sel.nil | apply Sel.cons (by repeat (first | exact Del.here | apply Del.there)))))⟩; assumption)
    · rw [hp, if_pos rfl] at he
      repeat' (first|(refine WL.dMove ?_;refine WL.move rfl rfl ?_)|(refine WL.dAssign ?_;refine WL.assign rfl rfl ?_)|(refine WL.dLoad ?_;refine WL.ldEX rfl ‹_› ‹_› ‹_› rfl ?_)|(refine WL.dBin ?_;(first|refine WL.lss rfl rfl rfl ?_|refine WL.add rfl rfl rfl (by omega) ?_))|(refine WL.dUn ?_;refine WL.not rfl rfl ?_)|(refine WL.dCall ?_;(first|refine WL.lenX rfl ‹_› rfl ?_|(refine WL.call1 rfl rfl (fun w h => sOwnPut_c u rs y w (Sl.o h) (by omega)) rfl (fun u2 hu2 => ?_);rw [hp])))|(refine WL.dIndex ?_;refine WL.ixNX rfl rfl ‹_› (by omega) rfl (fun _ _ => ?_))|(refine WL.dOp ?_;refine WL.extract rfl rfl rfl ?_)|refine WL.nil ?_|(refine WC.d ?_;(first|refine WC.seq ?_|refine WC.region ?_|refine WC.cond_false rfl ?_|refine WC.condT rfl (by first|assumption|exact decide_eq_true (by omega)|exact notT (by omega)|exact boolT ‹_›) ?_|refine WC.block ?_|refine WC.skip ?_))|(refine WQ.d ?_;(first|refine WQ.then_normal ?_|refine WQ.block_normal ?_)))
      (refine WQ.againU (k + 1, _, _) ?_ ?_ (by repeat (first | exact trivial | refine ⟨rfl, ?_⟩)) (by repeat (first | exact trivial | refine ⟨rfl, ?_⟩)) (fun _ h => h.sel (by repeat (first | exact Sel.nil | apply Sel.cons (by repeat (first | exact Del.here | apply Del.there))))); (focus (exact ⟨hlt, hu2, he, by rw [ownPut_length]; exact h8⟩)); (focus (dsimp only; omega)))
  · have hd : xs.drop k = [] := List.drop_eq_nil_of_le (by omega)
    rw [hd] at he
    rw [he]
    repeat' (first|(refine WL.dMove ?_;refine WL.move rfl rfl ?_)|(refine WL.dAssign ?_;refine WL.assign rfl rfl ?_)|(refine WL.dBin ?_;refine WL.lss rfl rfl rfl ?_)|(refine WL.dCall ?_;refine WL.lenX rfl ‹_› rfl ?_)|refine WL.nil ?_|(refine WC.d ?_;(first|refine WC.seq ?_|refine WC.region ?_|refine WC.condF rfl (by first|assumption|exact decide_eq_false (by omega)|exact notF (by omega)|exact boolF ‹_›) ?_|refine WC.ret ?_|refine WC.exit ?_))|(refine WQ.d ?_;(first|refine WQ.then_normal ?_|refine WQ.then_exit ?_|refine WQ.block_here ?_)))
    (refine WQ.retE rfl (by repeat (first | exact .nil | apply Rets.tmp rfl | apply Rets.cA rfl | apply Rets.c1 rfl rfl)) ?_; refine ⟨_, ?_, (by first | (dsimp only [retVal]; done) | (dsimp only [retVal]; exact rfl) | exact rfl), fun _ h => (by first | (dsimp only; exact h.sel (by repeat (first | exact Sel.nil | apply Sel.cons (by repeat (first | exact Del.here | apply Del.there))))) | exact h.sel (by repeat (first | exact Sel.nil | apply Sel.cons (by repeat (first | exact Del.here | apply Del.there)))))⟩; assumption)
end Go.Proofs.Ytcmmfamippdgbaa
