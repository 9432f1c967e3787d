/- Contracts: which deal is about a ticket; the law FnExactMktDealOf, walked: it returns true. -/
import Derived.Test.YtcmmfamippdgbaaH1
namespace Go.Proofs.Ytcmmfamippdgbaa
open Vc

section
variable {q : Bool} {P : Program} {w0 : World} {X : List Nat} {N : Nat} {ops : Array Oper} {Q : Exit → Act → World → Prop} {rest : List Oper} {fr : Fr} {L : List Res} {d ty : Nat} {ps : String} {af : Array Edge}
theorem Vc.WL.mkFunc {f : Nat} {x : Operand} {v : Value} (hx : ev fr x = some v) (hN : Nat.ble (d + 1) N = true) (k : WL q P w0 X N ops Q rest ((d, .func (.func f) #[] #[v]) :: fr) L) :
    WL q P w0 X N ops Q (⟨some d, .makeFunc (.func f) #[] #[x], ty, ps, af, none⟩ :: rest) fr L :=
  WL.value rfl rfl hN (fun a w ha _ => by simp [execOp, ha.ev hx, Instr.makeFunc]) k
end
/-- a captured number, read as a slice of one -/
def capV (b : Nat) : Value := .slice (some ⟨b, 0, none⟩) 1 1
theorem capV_ptr (b : Nat) : PtrOf (capV b) (0 * 1) ⟨b, 0, none⟩ := ⟨_, _, _, rfl, by rw [Nat.zero_mul, add_lit]⟩
theorem capV_sl {b t : Nat} {n : Int} {w : World} (h : (blk b t [.int .i64 n]).holds w) : Sl intE 1 (capV b) [n] w := by
  unfold Sl
  refine ⟨some ⟨b, 0, none⟩, 1, rfl, Nat.le_refl _, fun _ => ⟨_, rfl, fun j u hj => ?_⟩⟩
  rw [add_lit, cell_blk (blk_holds.1 h), Nat.zero_add]
  exact hj
def isAbout (t : Int) (d : Deal) : Bool := decide (d.ticket = t)
theorem deal1_c (d : Deal) (b : Nat) (t : Int) (w : World) (hs : Sl intE 1 (capV b) [t] w) : FnP Try.prog 150 [.agg (dealE d).toArray, .pointer (some ⟨b, 0, none⟩)] w (.bool (isAbout t d)) := by
  have hp := capV_ptr b
  have hy : ([t] : List Int)[0]? = some t := rfl
  refine FnP.enter Try.func150 rfl Try.ntmps150 rfl rfl ?_
  repeat' (first|(refine WL.dMove ?_;refine WL.move rfl rfl ?_)|(refine WL.dAssign ?_;refine WL.assign rfl rfl ?_)|(refine WL.dLoad ?_;(first|refine WL.ld1 rfl rfl rfl ?_|refine WL.ld0X rfl ‹_› ‹_› ‹_› rfl rfl ?_))|(refine WL.dField ?_;refine WL.fieldV rfl rfl ?_)|(refine WL.dBin ?_;refine WL.eql rfl rfl rfl ?_)|(refine WL.dOp ?_;refine WL.boxA rfl rfl (fun _ => ?_))|refine WL.nil ?_|(refine WC.d ?_;(first|refine WC.seq ?_|refine WC.region ?_|refine WC.ret ?_))|(refine WQ.d ?_;(first|refine WQ.then_normal ?_|refine WQ.retP rfl (by repeat (first|exact .nil|apply Rets.tmp rfl|apply Rets.cA rfl|apply Rets.c1 rfl rfl)) ?_)))
  rfl
def idxG {α : Type} (xs : List α) (p : α → Bool) : Int := match xs.findIdx? p with | some i => i | none => -1
theorem idxG_none {α : Type} {xs : List α} {p : α → Bool} (h : xs.any p = false) : idxG xs p = -1 := by
  have : xs.findIdx? p = none := by rw [List.findIdx?_eq_none_iff]; intro x hx; simpa using List.any_eq_false.1 h x hx
  simp [idxG, this]
theorem idxG_at {α : Type} {xs : List α} {p : α → Bool} {k : Nat} {y : α} (h : (xs.take k).any p = false) (hy : xs[k]? = some y) (hp : p y = true) : idxG xs p = k := by
  have hlt : k < xs.length := (List.getElem?_eq_some_iff.1 hy).1
  have : xs.findIdx? p = some k := by
    rw [List.findIdx?_eq_some_iff_getElem]
    refine ⟨hlt, by rw [(List.getElem?_eq_some_iff.1 hy).2]; exact hp, fun j hj => ?_⟩
    have := List.any_eq_false.1 h (xs[j]'(by omega)) (by rw [List.mem_take_iff_getElem]; exact ⟨j, by omega, rfl⟩)
    simpa using this
  simp [idxG, this]
theorem idxG_cases {α : Type} (xs : List α) (p : α → Bool) : (idxG xs p = -1 ∧ xs.any p = false) ∨ ∃ i y, idxG xs p = ((i : Nat) : Int) ∧ xs[i]? = some y ∧ p y = true := by
  unfold idxG
  cases h : xs.findIdx? p with
  | none => exact .inl ⟨rfl, by rw [List.any_eq_false]; intro x hx; simpa using List.findIdx?_eq_none_iff.1 h x hx⟩
  | some i =>
    obtain ⟨hlt, hp, _⟩ := List.findIdx?_eq_some_iff_getElem.1 h
    exact .inr ⟨i, xs[i], rfl, List.getElem?_eq_getElem hlt, hp⟩
theorem any_take_succG {α : Type} {xs : List α} {p : α → Bool} {k : Nat} {y : α} (h : (xs.take k).any p = false) (hy : xs[k]? = some y) (hp : p y = false) : (xs.take (k + 1)).any p = false := by
  rw [take_snoc_ hy, List.any_append, h]; simp [hp]
theorem indexDeal_c (g b : Nat) [TFunc Try.prog g] (p : Deal → Bool) (v : Value) (xs : List Deal) (w : World) (hg : ∀ d W, Keep [] w W → FnP Try.prog g [.agg (dealE d).toArray, .pointer (some ⟨b, 0, none⟩)] W (.bool (p d))) (hs : Sl dealE 5 v xs w) (hl : xs.length ≤ 1099511627776) :
    FnP Try.prog 149 [v, .func (.func g) #[] #[.pointer (some ⟨b, 0, none⟩)]] w (.int .i64 (idxG xs p)) := by
  refine FnP.enter Try.func149 rfl Try.ntmps149 rfl rfl ?_
  repeat' (first|(refine WL.dMove ?_;refine WL.move rfl rfl ?_)|(refine WL.dAssign ?_;refine WL.assign rfl rfl ?_)|(refine WL.dCall ?_;refine WL.lenX rfl ‹_› rfl ?_)|refine WL.nil ?_|(refine WC.d ?_;(first|refine WC.seq ?_|refine WC.region ?_|refine WC.block ?_))|(refine WQ.d ?_;refine WQ.then_normal ?_))
  refine WC.loopN [0, 1, 7] (xs.length) (fun k => (xs.take k).any p = false) (fun k => [(8, .int .i64 (k : Int))]) (fun k => []) (by repeat (first | exact .nil | apply Pick.cons rfl))  rfl ⟨rfl, trivial⟩ (fun _ h => h) (fun k hk hno => ?_)
  refine WC.frame (by first | dsimp only [List.cons_append, List.nil_append] | exact rfl) (by first | dsimp only | exact rfl) ?_
  by_cases hlt : k < xs.length
  · obtain ⟨y, hy⟩ := getElem_ex hlt
    cases hp : p y
    · repeat' (first|(refine WL.dMove ?_;refine WL.move rfl rfl ?_)|(refine WL.dAssign ?_;refine WL.assign rfl rfl ?_)|(refine WL.dLoad ?_;refine WL.ldEX rfl ‹_› ‹_› ‹_› rfl ?_)|(refine WL.dBin ?_;(first|refine WL.lss rfl rfl rfl ?_|refine WL.add rfl rfl rfl (by omega) ?_))|(refine WL.dCall ?_;(refine WL.callP (f := g) (cap := [.pointer (some ⟨b, 0, none⟩)]) rfl rfl (fun w h => hg y w h.keep) rfl ?_;rw [hp]))|(refine WL.dIndex ?_;refine WL.ixNX rfl rfl ‹_› (by omega) rfl (fun _ _ => ?_))|refine WL.nil ?_|(refine WC.d ?_;(first|refine WC.seq ?_|refine WC.region ?_|refine WC.cond_false rfl ?_|refine WC.condT rfl (by first|assumption|exact decide_eq_true (by omega)|exact notT (by omega)|exact boolT ‹_›) ?_|refine WC.block ?_|refine WC.skip ?_))|(refine WQ.d ?_;(first|refine WQ.then_normal ?_|refine WQ.block_normal ?_)))
      exact WQ.againN hlt (any_take_succG hno hy hp) (by repeat (first | exact trivial | refine ⟨rfl, ?_⟩)) (by repeat (first | exact trivial | refine ⟨rfl, ?_⟩)) (fun _ h => h)
    · repeat' (first|(refine WL.dMove ?_;refine WL.move rfl rfl ?_)|(refine WL.dAssign ?_;refine WL.assign rfl rfl ?_)|(refine WL.dLoad ?_;refine WL.ldEX rfl ‹_› ‹_› ‹_› rfl ?_)|(refine WL.dBin ?_;refine WL.lss rfl rfl rfl ?_)|(refine WL.dCall ?_;(refine WL.callP (f := g) (cap := [.pointer (some ⟨b, 0, none⟩)]) rfl rfl (fun w h => hg y w h.keep) rfl ?_;rw [hp]))|(refine WL.dIndex ?_;refine WL.ixNX rfl rfl ‹_› (by omega) rfl (fun _ _ => ?_))|refine WL.nil ?_|(refine WC.d ?_;(first|refine WC.seq ?_|refine WC.region ?_|refine WC.cond_true rfl ?_|refine WC.condT rfl (by first|assumption|exact decide_eq_true (by omega)|exact notT (by omega)|exact boolT ‹_›) ?_|refine WC.block ?_|refine WC.skip ?_|refine WC.ret ?_))|(refine WQ.d ?_;(first|refine WQ.then_normal ?_|refine WQ.then_ret ?_|refine WQ.block_ret ?_|refine WQ.retP rfl (by repeat (first|exact .nil|apply Rets.tmp rfl|apply Rets.cA rfl|apply Rets.c1 rfl rfl)) ?_)))
      rw [idxG_at hno hy hp]; rfl
  · repeat' (first|(refine WL.dMove ?_;refine WL.move rfl rfl ?_)|(refine WL.dAssign ?_;refine WL.assign rfl rfl ?_)|(refine WL.dBin ?_;refine WL.lss rfl rfl rfl ?_)|refine WL.nil ?_|(refine WC.d ?_;(first|refine WC.seq ?_|refine WC.region ?_|refine WC.condF rfl (by first|assumption|exact decide_eq_false (by omega)|exact notF (by omega)|exact boolF ‹_›) ?_|refine WC.ret ?_|refine WC.exit ?_))|(refine WQ.d ?_;(first|refine WQ.then_normal ?_|refine WQ.then_exit ?_|refine WQ.block_here ?_|refine WQ.retP rfl (by repeat (first|exact .nil|apply Rets.tmp rfl|apply Rets.cA rfl|apply Rets.c1 rfl rfl)) ?_)))
    rw [List.take_of_length_le (by omega)] at hno
    rw [idxG_none hno]; rfl
theorem dealIx_c (h : HouV) (m : Hou) (c t : Int) (w : World) (hs : Sl dealE 5 h.d m.deals w) (ho : HouOne h) (hl : m.deals.length ≤ 1099511627776) : FnP Try.prog 110 [.agg (houE h c).toArray, .int .i64 t] w (.int .i64 (idxG m.deals (isAbout t))) := by
  obtain ⟨o1, o2, o3, o4, o5⟩ := ho
  refine FnP.enter Try.func110 rfl Try.ntmps110 rfl rfl ?_
  repeat' (first|(refine WL.dMove ?_;refine WL.move rfl rfl ?_)|(refine WL.dAssign ?_;refine WL.assign rfl rfl ?_)|(refine WL.dLoad ?_;refine WL.ld1 rfl rfl rfl ?_)|(refine WL.dField ?_;refine WL.fieldV rfl rfl ?_)|(refine WL.dCall ?_;refine WL.callP rfl rfl (fun w h' => indexDeal_c 150 _ (isAbout t) h.d m.deals w (fun d W hk => deal1_c d _ t W ((capV_sl (St.blk h')).keep hk)) (hs.ext h') hl) rfl ?_)|(refine WL.dOp ?_;(first|refine WL.boxA rfl rfl (fun _ => ?_)|refine WL.box1 rfl (by first|rfl|assumption) rfl (fun _ => ?_)|refine WL.mkFunc rfl rfl ?_))|refine WL.nil ?_|(refine WC.d ?_;(first|refine WC.seq ?_|refine WC.region ?_|refine WC.ret ?_))|(refine WQ.d ?_;(first|refine WQ.then_normal ?_|refine WQ.retP rfl (by repeat (first|exact .nil|apply Rets.tmp rfl|apply Rets.cA rfl|apply Rets.c1 rfl rfl)) ?_)))
  rfl
theorem l7Find_c (v : Value) (xs : List Deal) (t : Int) (w : World) (hs : Sl dealE 5 v xs w) (hl : xs.length ≤ 1099511627776) : FnP Try.prog 111 [v, .int .i64 t] w (.int .i64 (idxG xs (isAbout t))) := by
  refine FnP.enter Try.func111 rfl Try.ntmps111 rfl rfl ?_
  repeat' (first|(refine WL.dMove ?_;refine WL.move rfl rfl ?_)|(refine WL.dAssign ?_;refine WL.assign rfl rfl ?_)|refine WL.nil ?_|(refine WC.d ?_;(first|refine WC.seq ?_|refine WC.region ?_|refine WC.block ?_))|(refine WQ.d ?_;refine WQ.then_normal ?_))
  refine WC.loopN [0, 1] (xs.length) (fun k => (xs.take k).any (isAbout t) = false) (fun k => [(5, .int .i64 (k : Int))]) (fun k => []) (by repeat (first | exact .nil | apply Pick.cons rfl))  rfl ⟨rfl, trivial⟩ (fun _ h => h) (fun k hk hno => ?_)
  refine WC.frame (by first | dsimp only [List.cons_append, List.nil_append] | exact rfl) (by first | dsimp only | exact rfl) ?_
  by_cases hlt : k < xs.length
  · obtain ⟨y, hy⟩ := getElem_ex hlt
    by_cases hp : y.ticket = t
    · repeat' (first|(refine WL.dMove ?_;refine WL.move rfl rfl ?_)|(refine WL.dAssign ?_;refine WL.assign rfl rfl ?_)|(refine WL.dLoad ?_;refine WL.ld0X rfl ‹_› ‹_› ‹_› rfl rfl ?_)|(refine WL.dField ?_;refine WL.fieldP rfl rfl ?_)|(refine WL.dBin ?_;(first|refine WL.lss rfl rfl rfl ?_|refine WL.eql rfl rfl rfl ?_))|(refine WL.dCall ?_;refine WL.lenX rfl ‹_› rfl ?_)|(refine WL.dIndex ?_;refine WL.ixNX rfl rfl ‹_› (by omega) rfl (fun _ _ => ?_))|refine WL.nil ?_|(refine WC.d ?_;(first|refine WC.seq ?_|refine WC.region ?_|refine WC.condT rfl (by first|assumption|exact decide_eq_true (by omega)|exact notT (by omega)|exact boolT ‹_›) ?_|refine WC.block ?_|refine WC.skip ?_|refine WC.ret ?_))|(refine WQ.d ?_;(first|refine WQ.then_normal ?_|refine WQ.then_ret ?_|refine WQ.block_ret ?_|refine WQ.retP rfl (by repeat (first|exact .nil|apply Rets.tmp rfl|apply Rets.cA rfl|apply Rets.c1 rfl rfl)) ?_)))
      rw [idxG_at hno hy (decide_eq_true hp)]; rfl
    · repeat' (first|(refine WL.dMove ?_;refine WL.move rfl rfl ?_)|(refine WL.dAssign ?_;refine WL.assign rfl rfl ?_)|(refine WL.dLoad ?_;refine WL.ld0X rfl ‹_› ‹_› ‹_› rfl rfl ?_)|(refine WL.dField ?_;refine WL.fieldP rfl rfl ?_)|(refine WL.dBin ?_;(first|refine WL.lss rfl rfl rfl ?_|refine WL.eql rfl rfl rfl ?_|refine WL.add rfl rfl rfl (by omega) ?_))|(refine WL.dCall ?_;refine WL.lenX rfl ‹_› rfl ?_)|(refine WL.dIndex ?_;refine WL.ixNX rfl rfl ‹_› (by omega) rfl (fun _ _ => ?_))|refine WL.nil ?_|(refine WC.d ?_;(first|refine WC.seq ?_|refine WC.region ?_|refine WC.condT rfl (by first|assumption|exact decide_eq_true (by omega)|exact notT (by omega)|exact boolT ‹_›) ?_|refine WC.condF rfl (by first|assumption|exact decide_eq_false (by omega)|exact notF (by omega)|exact boolF ‹_›) ?_|refine WC.block ?_|refine WC.skip ?_))|(refine WQ.d ?_;(first|refine WQ.then_normal ?_|refine WQ.block_normal ?_)))
      exact WQ.againN hlt (any_take_succG hno hy (decide_eq_false hp)) (by repeat (first | exact trivial | refine ⟨rfl, ?_⟩)) (by repeat (first | exact trivial | refine ⟨rfl, ?_⟩)) (fun _ h => h)
  · repeat' (first|(refine WL.dMove ?_;refine WL.move rfl rfl ?_)|(refine WL.dAssign ?_;refine WL.assign rfl rfl ?_)|(refine WL.dBin ?_;refine WL.lss rfl rfl rfl ?_)|(refine WL.dCall ?_;refine WL.lenX rfl ‹_› rfl ?_)|refine WL.nil ?_|(refine WC.d ?_;(first|refine WC.seq ?_|refine WC.region ?_|refine WC.condF rfl (by first|assumption|exact decide_eq_false (by omega)|exact notF (by omega)|exact boolF ‹_›) ?_|refine WC.ret ?_|refine WC.exit ?_))|(refine WQ.d ?_;(first|refine WQ.then_normal ?_|refine WQ.then_exit ?_|refine WQ.block_here ?_|refine WQ.retP rfl (by repeat (first|exact .nil|apply Rets.tmp rfl|apply Rets.cA rfl|apply Rets.c1 rfl rfl)) ?_)))
    rw [List.take_of_length_le (by omega)] at hno
    rw [idxG_none hno]; rfl
def dealOf (ds : List Deal) (t : Int) : Deal × Bool := if idxG ds (isAbout t) < 0 then (deal0, false) else (ds.getD (idxG ds (isAbout t)).toNat deal0, true)
@[reducible] def dealRV (r : Deal × Bool) : Value := .tuple #[.agg (dealE r.1).toArray, .bool r.2]
theorem dealOf_no {ds : List Deal} {t : Int} (h : idxG ds (isAbout t) = -1) : dealOf ds t = (deal0, false) := by rw [dealOf, h]; rfl
theorem dealOf_at {ds : List Deal} {t : Int} {i : Nat} {y : Deal} (h : idxG ds (isAbout t) = (i : Int)) (hy : ds[i]? = some y) : dealOf ds t = (y, true) := by
  rw [dealOf, h, if_neg (by omega), Int.toNat_natCast, List.getD_eq_getElem?_getD, hy]; rfl
theorem iMktDealOf_c (h : HouV) (m : Hou) (c t : Int) (w : World) (hs : Sl dealE 5 h.d m.deals w) (ho : HouOne h) (hl : m.deals.length ≤ 1099511627776) : FnP Try.prog 48 [.agg (houE h c).toArray, .int .i64 t] w (dealRV (dealOf m.deals t)) := by
  refine FnP.enter Try.func48 rfl Try.ntmps48 rfl rfl ?_
  rcases idxG_cases m.deals (isAbout t) with ⟨hi, _⟩ | ⟨i, y, hi, hy, _⟩
  · rw [dealOf_no hi]
    repeat' (first|(refine WL.dMove ?_;refine WL.move rfl rfl ?_)|(refine WL.dAssign ?_;refine WL.assign rfl rfl ?_)|(refine WL.dLoad ?_;refine WL.ldW rfl rfl rfl ?_)|(refine WL.dBin ?_;refine WL.lss rfl rfl rfl ?_)|(refine WL.dStore ?_;refine WL.stA rfl rfl rfl rfl ?_)|(refine WL.dCall ?_;(refine WL.callP rfl rfl (fun w h' => dealIx_c h m c t w (hs.ext h') ho hl) rfl ?_;rw [hi]))|(refine WL.dOp ?_;(first|refine WL.alloc rfl (fun _ => ?_)|refine WL.boxA rfl rfl (fun _ => ?_)|refine WL.build (by repeat (first|exact .nil|apply Bld.one' rfl rfl (by first|rfl|assumption)|apply Bld.agg' rfl rfl rfl)) rfl ?_))|refine WL.nil ?_|(refine WC.d ?_;(first|refine WC.seq ?_|refine WC.region ?_|refine WC.cond_true rfl ?_|refine WC.ret ?_))|(refine WQ.d ?_;(first|refine WQ.then_normal ?_|refine WQ.then_ret ?_|refine WQ.retP rfl (by repeat (first|exact .nil|apply Rets.tmp rfl|apply Rets.cA rfl|apply Rets.c1 rfl rfl)) ?_)))
    rfl
  · rw [dealOf_at hi hy]
    have hlt := (List.getElem?_eq_some_iff.1 hy).1
    repeat' (first|(refine WL.dMove ?_;refine WL.move rfl rfl ?_)|(refine WL.dAssign ?_;refine WL.assign rfl rfl ?_)|(refine WL.dLoad ?_;(first|refine WL.ld1 rfl rfl rfl ?_|refine WL.ldW rfl rfl rfl ?_|refine WL.ldEX rfl ‹_› ‹_› ‹_› rfl ?_))|(refine WL.dField ?_;refine WL.fieldV rfl rfl ?_)|(refine WL.dBin ?_;refine WL.lss rfl rfl rfl ?_)|(refine WL.dStore ?_;refine WL.stA rfl rfl rfl rfl ?_)|(refine WL.dCall ?_;(refine WL.callP rfl rfl (fun w h' => dealIx_c h m c t w (hs.ext h') ho hl) rfl ?_;rw [hi]))|(refine WL.dIndex ?_;refine WL.ixNX rfl rfl ‹_› (by omega) rfl (fun _ _ => ?_))|(refine WL.dOp ?_;(first|refine WL.alloc rfl (fun _ => ?_)|refine WL.boxA rfl rfl (fun _ => ?_)))|refine WL.nil ?_|(refine WC.d ?_;(first|refine WC.seq ?_|refine WC.region ?_|refine WC.cond_false rfl ?_|refine WC.skip ?_|refine WC.ret ?_))|(refine WQ.d ?_;(first|refine WQ.then_normal ?_|refine WQ.retP rfl (by repeat (first|exact .nil|apply Rets.tmp rfl|apply Rets.cA rfl|apply Rets.c1 rfl rfl)) ?_)))
    rfl
theorem sMktDealOf_c (h : HouV) (m : Hou) (c t : Int) (w : World) (hs : Sl dealE 5 h.d m.deals w) (_ho : HouOne h) (hl : m.deals.length ≤ 1099511627776) : FnP Try.prog 49 [.agg (houE h c).toArray, .int .i64 t] w (dealRV (dealOf m.deals t)) := by
  refine FnP.enter Try.func49 rfl Try.ntmps49 rfl rfl ?_
  rcases idxG_cases m.deals (isAbout t) with ⟨hi, _⟩ | ⟨i, y, hi, hy, _⟩
  · rw [dealOf_no hi]
    repeat' (first|(refine WL.dMove ?_;refine WL.move rfl rfl ?_)|(refine WL.dAssign ?_;refine WL.assign rfl rfl ?_)|(refine WL.dLoad ?_;refine WL.ld1 rfl rfl rfl ?_)|(refine WL.dField ?_;refine WL.fieldV rfl rfl ?_)|(refine WL.dBin ?_;refine WL.lss rfl rfl rfl ?_)|(refine WL.dStore ?_;refine WL.stA rfl rfl rfl rfl ?_)|(refine WL.dCall ?_;(refine WL.callP rfl rfl (fun w h' => l7Find_c h.d m.deals t w (hs.ext h') hl) rfl ?_;rw [hi]))|(refine WL.dOp ?_;(first|refine WL.alloc rfl (fun _ => ?_)|refine WL.boxA rfl rfl (fun _ => ?_)|refine WL.build (by repeat (first|exact .nil|apply Bld.one' rfl rfl (by first|rfl|assumption)|apply Bld.agg' rfl rfl rfl)) rfl ?_))|refine WL.nil ?_|(refine WC.d ?_;(first|refine WC.seq ?_|refine WC.region ?_|refine WC.cond_true rfl ?_|refine WC.ret ?_))|(refine WQ.d ?_;(first|refine WQ.then_normal ?_|refine WQ.then_ret ?_|refine WQ.retP rfl (by repeat (first|exact .nil|apply Rets.tmp rfl|apply Rets.cA rfl|apply Rets.c1 rfl rfl)) ?_)))
    rfl
  · rw [dealOf_at hi hy]
    have hlt := (List.getElem?_eq_some_iff.1 hy).1
    repeat' (first|(refine WL.dMove ?_;refine WL.move rfl rfl ?_)|(refine WL.dAssign ?_;refine WL.assign rfl rfl ?_)|(refine WL.dLoad ?_;(first|refine WL.ld1 rfl rfl rfl ?_|refine WL.ldEX rfl ‹_› ‹_› ‹_› rfl ?_))|(refine WL.dField ?_;refine WL.fieldV rfl rfl ?_)|(refine WL.dBin ?_;refine WL.lss rfl rfl rfl ?_)|(refine WL.dStore ?_;refine WL.stA rfl rfl rfl rfl ?_)|(refine WL.dCall ?_;(refine WL.callP rfl rfl (fun w h' => l7Find_c h.d m.deals t w (hs.ext h') hl) rfl ?_;rw [hi]))|(refine WL.dIndex ?_;refine WL.ixNX rfl rfl ‹_› (by omega) rfl (fun _ _ => ?_))|(refine WL.dOp ?_;(first|refine WL.alloc rfl (fun _ => ?_)|refine WL.boxA rfl rfl (fun _ => ?_)))|refine WL.nil ?_|(refine WC.d ?_;(first|refine WC.seq ?_|refine WC.region ?_|refine WC.cond_false rfl ?_|refine WC.skip ?_|refine WC.ret ?_))|(refine WQ.d ?_;(first|refine WQ.then_normal ?_|refine WQ.retP rfl (by repeat (first|exact .nil|apply Rets.tmp rfl|apply Rets.cA rfl|apply Rets.c1 rfl rfl)) ?_)))
    rfl
end Go.Proofs.Ytcmmfamippdgbaa
