/- More rules of the calculus: loops by the slots that they keep and turn; ends of rounds. -/
import Derived.Test.YtcmmfamippdgbaaTypes
namespace Go.Proofs.Ytcmmfamippdgbaa.Vc
open Go.RowKit

/-- the slots ks of a frame -/
inductive Pick (fr : Fr) : List Nat → Fr → Prop
  | nil : Pick fr [] []
  | cons {k : Nat} {v : Value} {ks : List Nat} {r : Fr} : fr.get k = some v → Pick fr ks r → Pick fr (k :: ks) ((k, v) :: r)
theorem Pick.le {fr : Fr} {ks : List Nat} {r : Fr} (h : Pick fr ks r) : Fr.le r fr := by
  induction h with
  | nil => trivial
  | cons h _ ih => exact ⟨h, ih⟩
theorem Fr.le_append {a b fr : Fr} (ha : Fr.le a fr) (hb : Fr.le b fr) : Fr.le (a ++ b) fr := by
  induction a with
  | nil => exact hb
  | cons x r ih => exact ⟨ha.1, ih ha.2⟩
section
variable {q : Bool} {P : Program} {w0 : World} {X : List Nat} {N : Nat} {ops : Array Oper} {Q : Exit → Act → World → Prop} {rest : List Oper} {fr : Fr} {L : List Res}
/-- A loop: ks are the slots that stay, 'up' tells those that turn. -/
theorem WC.loopU {A : Type} (ks : List Nat) (G : A → Prop) (up : A → Fr) (LI : A → List Res) (μ : A → Nat) {c : Code} {fr0 : Fr} (x0 : A) (h0 : G x0) (hk : Pick fr ks fr0) (hup : Fr.le (up x0) fr) (hL : ∀ w, St w0 X w L → St w0 X w (LI x0))
    (round : ∀ x, G x → WC P w0 X N (Exit.then (Inv G (fun x => up x ++ fr0) LI w0 X N (fun y => μ y < μ x)) Q) c (up x ++ fr0) (LI x)) : WC P w0 X N Q (Code.loop c) fr L :=
  WC.loop' G (fun x => up x ++ fr0) LI μ x0 h0 (Fr.le_append hup hk.le) hL round
theorem WQ.againU {A : Type} {G : A → Prop} {up : A → Fr} {fr0 : Fr} {LI : A → List Res} {ok : A → Prop} (y : A) (hG : G y) (hok : ok y)
    (hup : Fr.le (up y) fr) (h0 : Fr.le fr0 fr) (hL : ∀ w, St w0 X w L → St w0 X w (LI y)) : WQ w0 X N (Exit.then (Inv G (fun x => up x ++ fr0) LI w0 X N ok) Q) .normal fr L :=
  WQ.again' y hG hok (Fr.le_append hup h0) hL
/-- the loop counts to n -/
theorem WC.loopN (ks : List Nat) (n : Nat) (G : Nat → Prop) (up : Nat → Fr) (LI : Nat → List Res) {c : Code} {fr0 : Fr} (hk : Pick fr ks fr0) (h0 : G 0) (hup : Fr.le (up 0) fr) (hL : ∀ w, St w0 X w L → St w0 X w (LI 0))
    (round : ∀ k, k ≤ n → G k → WC P w0 X N (Exit.then (Inv (fun k => k ≤ n ∧ G k) (fun x => up x ++ fr0) LI w0 X N (fun y => n - y < n - k)) Q) c (up k ++ fr0) (LI k)) : WC P w0 X N Q (Code.loop c) fr L :=
  WC.loopU ks (fun k => k ≤ n ∧ G k) up LI (fun k => n - k) 0 ⟨Nat.zero_le _, h0⟩ hk hup hL (fun k hk => round k hk.1 hk.2)
theorem WQ.againN {n k : Nat} {G : Nat → Prop} {up : Nat → Fr} {fr0 : Fr} {LI : Nat → List Res} (hk : k < n) (hG : G (k + 1))
    (hup : Fr.le (up (k + 1)) fr) (h0 : Fr.le fr0 fr) (hL : ∀ w, St w0 X w L → St w0 X w (LI (k + 1))) : WQ w0 X N (Exit.then (Inv (fun k => k ≤ n ∧ G k) (fun x => up x ++ fr0) LI w0 X N (fun y => n - y < n - k)) Q) .normal fr L :=
  WQ.againU (k + 1) ⟨hk, hG⟩ (by omega) hup h0 hL
end

/-! ## what is only read, while some blocks turn -/
def Reads {α : Type} (E : α → List Value) (sz : Nat) (v : Value) (ys : List α) (w : World) (X : List Nat) : Prop := ∀ W, Keep X w W → Sl E sz v ys W
section
variable {α : Type} {E : α → List Value} {sz : Nat} {v : Value} {ys : List α} {w0 w : World} {X : List Nat} {L : List Res}
theorem Reads.at (h : Reads E sz v ys w0 X) (hs : St w0 X w L) : Sl E sz v ys w := h w hs.keep
theorem Reads.sl (h : Reads E sz v ys w0 X) : Sl E sz v ys w0 := h w0 (Keep.refl _ _)
theorem Reads.sub (h : Reads E sz v ys w0 X) (hs : St w0 X w L) : Reads E sz v ys w X := fun W hk => h W (hs.keep.trans hk)
theorem Reads.nil (h : Reads E sz v ys w0 X) (hs : St w0 X w L) : Reads E sz v ys w [] := fun W hk => h W (hs.keep.trans (hk.mono (by simp)))
theorem Reads.ext [hE : Enc E sz] (h : Sl E sz v ys w0) (hs : St w0 [] w L) {r t : Nat} {cs : List Value} (hm : blk r t cs ∈ L) : Reads E sz v ys w [r] := by
  intro W hk
  refine h.mono (fun ad n c _ hlt => ?_) hE
  have hr : w0.heap.size ≤ r := by
    rcases hs.new _ hm r (by rw [blk_foot]; simp) with h1 | h1
    · exact h1
    · cases h1
  rw [hk.block _ (Nat.lt_of_lt_of_le hlt hs.keep.size) (by simp; omega), hs.keep.block _ hlt (by simp)]
theorem Reads.own {L' : List Res} (hs : St w0 X w L) {r t t' : Nat} {cs : List Value} (hm : Del L (blk r t cs) L') (ho : own E sz v t' ys ∈ L') : Reads E sz v ys w [r] := by
  intro W hk
  have hs' := hs.perm hm.perm
  have hap := (List.pairwise_cons.1 hs'.apart).1 _ ho
  have hh := hs'.res _ (ms ho)
  exact Sl.of_own (Res.loc _ w W (fun b hb => hk.block b (Res.here _ w hh b hb) (by
    simp only [List.mem_singleton]
    rintro rfl
    exact hap b (by rw [blk_foot]; simp) hb)) hh)
end
class CDelB (L : List Res) (b : Nat) (t : outParam Nat) (cs : outParam (List Value)) (L' : outParam (List Res)) : Prop where h : Del L (blk b t cs) L'
instance (priority := 2000) {L : List Res} {b t : Nat} {cs : List Value} : CDelB (blk b t cs :: L) b t cs L := ⟨.here⟩
instance {L L' : List Res} {r : Res} {b t : Nat} {cs : List Value} [h : CDelB L b t cs L'] : CDelB (r :: L) b t cs (r :: L') := ⟨.there h.h⟩
section
variable {α : Type} {E : α → List Value} {sz : Nat} {v : Value} {ys : List α} {w0 w : World} {X : List Nat} {L L' : List Res}
theorem Reads.o {r t t' : Nat} {cs : List Value} [hD : CDelB L r t cs L'] [hO : HasOwn L' v α E sz t' ys] (hs : St w0 X w L) : Reads E sz v ys w [r] := Reads.own hs hD.h hO.h
theorem Reads.x [Enc E sz] {r t : Nat} {cs : List Value} [hB : HasBlk L r t cs] (h : Sl E sz v ys w0) (hs : St w0 [] w L) : Reads E sz v ys w [r] := Reads.ext h hs hB.h
theorem St.blk {r t : Nat} {cs : List Value} [hB : HasBlk L r t cs] (hs : St w0 X w L) : (Vc.blk r t cs).holds w := hs.res _ hB.h
theorem St.startB {r t : Nat} {cs : List Value} (h : (Vc.blk r t cs).holds w) : St w [r] w [Vc.blk r t cs] :=
  ⟨Keep.refl _ _, by simpa using h, List.pairwise_singleton _ _, fun s hs b hb => by simp only [List.mem_singleton] at hs; subst hs; rw [blk_foot] at hb; exact .inr hb⟩
end
section
variable {q : Bool} {P : Program} {w0 : World} {X : List Nat} {N : Nat} {ops : Array Oper} {Q : Exit → Act → World → Prop} {rest : List Oper} {fr : Fr} {L L' : List Res} {d ty : Nat} {ps : String} {af : Array Edge}
/-- A call that is handed one block and may write it. -/
theorem WL.callR {f : Nat} {x : Operand} {ars : List Operand} {ats : Array Nat} {vs cap : List Value} {B : Type} {G : B → Prop} {v : B → Value} {Rs : B → List Res} {r t : Nat} {cs : List Value} [TFunc P f] [hD : CDelB L r t cs L']
    (hf : ev fr x = some (.func (.func f) #[] cap.toArray)) (hv : evs fr ars = some vs)
    (hc : ∀ w, St w0 X w L → CallsTo P f (vs ++ cap) w [r] G v Rs) (hN : Nat.ble (d + 1) N = true)
    (k : ∀ x, G x → WL false P w0 X N ops Q rest ((d, v x) :: fr) (Rs x ++ L')) :
    WL false P w0 X N ops Q (⟨some d, .call { callee := .value x, args := ars.toArray, argTypes := ats }, ty, ps, af, none⟩ :: rest) fr L :=
  WL.callM (Lc := [blk r t cs]) (Lr := L') (dst := some d) hf hv hD.h.perm (fun b hb => ⟨_, List.mem_singleton.2 rfl, by rw [blk_foot]; exact hb⟩) hc hN k
theorem WL.callR1 {f : Nat} {x : Operand} {ars : List Operand} {ats : Array Nat} {vs cap : List Value} {B : Type} {G : B → Prop} {v : B → Value} {R0 : B → Res} {r t : Nat} {cs : List Value} [TFunc P f] [CDelB L r t cs L']
    (hf : ev fr x = some (.func (.func f) #[] cap.toArray)) (hv : evs fr ars = some vs) (hc : ∀ w, St w0 X w L → CallsTo P f (vs ++ cap) w [r] G v (fun x => [R0 x])) (hN : Nat.ble (d + 1) N = true)
    (k : ∀ x, G x → WL false P w0 X N ops Q rest ((d, v x) :: fr) (R0 x :: L')) :
    WL false P w0 X N ops Q (⟨some d, .call { callee := .value x, args := ars.toArray, argTypes := ats }, ty, ps, af, none⟩ :: rest) fr L := WL.callR hf hv hc hN k
theorem WL.callR2 {f : Nat} {x : Operand} {ars : List Operand} {ats : Array Nat} {vs cap : List Value} {B : Type} {G : B → Prop} {v : B → Value} {R0 R1 : B → Res} {r t : Nat} {cs : List Value} [TFunc P f] [CDelB L r t cs L']
    (hf : ev fr x = some (.func (.func f) #[] cap.toArray)) (hv : evs fr ars = some vs) (hc : ∀ w, St w0 X w L → CallsTo P f (vs ++ cap) w [r] G v (fun x => [R0 x, R1 x])) (hN : Nat.ble (d + 1) N = true)
    (k : ∀ x, G x → WL false P w0 X N ops Q rest ((d, v x) :: fr) (R0 x :: R1 x :: L')) :
    WL false P w0 X N ops Q (⟨some d, .call { callee := .value x, args := ars.toArray, argTypes := ats }, ty, ps, af, none⟩ :: rest) fr L := WL.callR hf hv hc hN k
variable {α : Type} {E : α → List Value} {sz : Nat} {v u : Value} {ys : List α} {T e bw : Nat} {zs : List Value} {x i : Operand} {p : Addr} {k f : Nat} {ee : α}
theorem WL.lenR {sz' : Nat} [TSlice P T e sz' bw zs] (hx : ev fr x = some v) (hs : Reads E sz v ys w0 X) (hN : Nat.ble (d + 1) N = true) (k : WL q P w0 X N ops Q rest ((d, .int .i64 (ys.length : Int)) :: fr) L) :
    WL q P w0 X N ops Q (⟨some d, .call { callee := .builtin .len, args := #[x], argTypes := #[T] }, ty, ps, af, none⟩ :: rest) fr L := WL.len hx (fun _ h => hs.at h) hN k
theorem WL.ixNR {n : Nat} [TSlice P T e sz bw zs] (hx : ev fr x = some v) (hi : ev fr i = some (.int .i64 (n : Int))) (hs : Reads E sz v ys w0 X) (hb : n < ys.length) (hN : Nat.ble (d + 1) N = true)
    (k : ∀ p : Addr, PtrOf v (n * sz) p → WL q P w0 X N ops Q rest ((d, .pointer (some p)) :: fr) L) : WL q P w0 X N ops Q (⟨some d, .indexAddr T x i, ty, ps, af, none⟩ :: rest) fr L := WL.indexN hx hi (fun _ h => hs.at h) hb hN k
theorem WL.ixR {n : Int} [TSlice P T e sz bw zs] (hx : ev fr x = some v) (hi : ev fr i = some (.int .i64 n)) (hs : Reads E sz v ys w0 X) (hb : 0 ≤ n ∧ n < ys.length) (hN : Nat.ble (d + 1) N = true)
    (k : ∀ p : Addr, PtrOf v (n.toNat * sz) p → WL q P w0 X N ops Q rest ((d, .pointer (some p)) :: fr) L) : WL q P w0 X N ops Q (⟨some d, .indexAddr T x i, ty, ps, af, none⟩ :: rest) fr L := WL.index hx hi (fun _ h => hs.at h) hb hN k
theorem WL.ld0R [Enc E sz] [TCell P T false 1] (hx : ev fr x = some (.pointer (some p))) (hp : PtrOf v (k * sz) p) (hs : Reads E sz v ys w0 X) (hy : ys[k]? = some ee) (hu : (E ee)[0]? = some u) (hN : Nat.ble (d + 1) N = true) (kk : WL q P w0 X N ops Q rest ((d, u) :: fr) L) :
    WL q P w0 X N ops Q (⟨some d, .load T x, ty, ps, af, none⟩ :: rest) fr L := WL.load0 hx hp (fun _ h => hs.at h) hy hu hN kk
theorem WL.ldFR [Enc E sz] [TCell P T false 1] (hx : ev fr x = some (.pointer (some (p.add f)))) (hp : PtrOf v (k * sz) p) (hs : Reads E sz v ys w0 X) (hy : ys[k]? = some ee) (hu : (E ee)[f]? = some u) (hN : Nat.ble (d + 1) N = true) (kk : WL q P w0 X N ops Q rest ((d, u) :: fr) L) :
    WL q P w0 X N ops Q (⟨some d, .load T x, ty, ps, af, none⟩ :: rest) fr L := WL.loadF hx hp (fun _ h => hs.at h) hy hu hN kk
theorem WL.ldER [Enc E sz] [TCell P T true sz] (hx : ev fr x = some (.pointer (some p))) (hp : PtrOf v (k * sz) p) (hs : Reads E sz v ys w0 X) (hy : ys[k]? = some ee) (hN : Nat.ble (d + 1) N = true) (kk : WL q P w0 X N ops Q rest ((d, .agg (E ee).toArray) :: fr) L) :
    WL q P w0 X N ops Q (⟨some d, .load T x, ty, ps, af, none⟩ :: rest) fr L := WL.loadE hx hp (fun _ h => hs.at h) hy hN kk

/-! ## numbers -/
def tconv (P : Program) (a b : Nat) : Bool := match P.underlying a, P.underlying b with | some (.int _), some (.int .i64) => true | _, _ => false
class TConv (P : Program) (a b : Nat) : Prop where h : tconv P a b = true
theorem WL.conv {x : Operand} {a b : Nat} {kd : IntKind} {n : Int} [hT : TConv P a b] (hx : ev fr x = some (.int kd n)) (hN : Nat.ble (d + 1) N = true) (hb : -9223372036854775808 ≤ n ∧ n ≤ 9223372036854775807)
    (k : WL q P w0 X N ops Q rest ((d, .int .i64 n) :: fr) L) : WL q P w0 X N ops Q (⟨some d, .convert a b x, ty, ps, af, none⟩ :: rest) fr L :=
  WL.value rfl rfl hN (fun ac w ha _ => by
    have h := hT.h
    unfold tconv at h
    split at h
    · rename_i k1 h1 h2
      have e : IntKind.i64.wrap n = n := IntWalk.i64_in _ hb
      simp [execOp, ha.ev hx, convert, run_underlying h1, run_underlying h2, Conv.intToInt, e]
    · cases h) k
theorem xor_nonneg {a b : Int} (ha : 0 ≤ a ∧ a ≤ 9223372036854775807) (hb : 0 ≤ b ∧ b ≤ 9223372036854775807) : ∃ r : Int, (0 ≤ r ∧ r ≤ 9223372036854775807) ∧ IntKind.i64.wrap ((BitVec.ofInt 64 a ^^^ BitVec.ofInt 64 b).toNat : Int) = r := by
  obtain ⟨m, rfl⟩ : ∃ m : Nat, a = m := ⟨a.toNat, by omega⟩
  obtain ⟨n, rfl⟩ : ∃ n : Nat, b = n := ⟨b.toNat, by omega⟩
  have hm : m < 2 ^ 63 := by omega
  have hn : n < 2 ^ 63 := by omega
  have e : (BitVec.ofInt 64 (m : Int) ^^^ BitVec.ofInt 64 (n : Int)).toNat = m ^^^ n := by
    rw [BitVec.toNat_xor, BitVec.ofInt_natCast, BitVec.ofInt_natCast, BitVec.toNat_ofNat, BitVec.toNat_ofNat, Nat.mod_eq_of_lt (by omega), Nat.mod_eq_of_lt (by omega)]
  have hx : m ^^^ n < 2 ^ 63 := Nat.xor_lt_two_pow hm hn
  refine ⟨((m ^^^ n : Nat) : Int), by omega, ?_⟩
  rw [e]
  exact IntWalk.i64_in _ (by omega)
theorem WL.xor {x y : Operand} {n m : Int} {t t' : Nat} (hx : ev fr x = some (.int .i64 n)) (hy : ev fr y = some (.int .i64 m)) (hN : Nat.ble (d + 1) N = true)
    (hb : (0 ≤ n ∧ n ≤ 9223372036854775807) ∧ (0 ≤ m ∧ m ≤ 9223372036854775807)) (k : ∀ r : Int, 0 ≤ r ∧ r ≤ 9223372036854775807 → WL q P w0 X N ops Q rest ((d, .int .i64 r) :: fr) L) :
    WL q P w0 X N ops Q (⟨some d, .binOp .xor t x y t', ty, ps, af, none⟩ :: rest) fr L := by
  obtain ⟨r, hr, e⟩ := xor_nonneg hb.1 hb.2
  refine WL.value rfl rfl hN (fun a w ha _ => ?_) (k r hr)
  have e' : IntKind.i64.wrap ((BitVec.ofInt IntKind.i64.bits n ^^^ BitVec.ofInt IntKind.i64.bits m).toNat : Int) = r := e
  simp [execOp, ha.ev hx, ha.ev hy, binOp, Op.intBits, run_guard_int, e', -BitVec.toNat_xor, -BitVec.toNat_ofInt]
end

section
variable {q : Bool} {P : Program} {w0 : World} {X : List Nat} {N : Nat} {ops : Array Oper} {Q : Exit → Act → World → Prop} {rest : List Oper} {fr : Fr} {L L' : List Res} {d ty : Nat} {ps : String} {af : Array Edge}
theorem WL.remV {x y : Operand} {n m : Int} {t t' : Nat} (hx : ev fr x = some (.int .i64 n)) (hy : ev fr y = some (.int .i64 m)) (hN : Nat.ble (d + 1) N = true)
    (hb : 0 ≤ n ∧ 0 < m) (k : ∀ r : Int, 0 ≤ r ∧ r < m → WL q P w0 X N ops Q rest ((d, .int .i64 r) :: fr) L) : WL q P w0 X N ops Q (⟨some d, .binOp .rem t x y t', ty, ps, af, none⟩ :: rest) fr L :=
  WL.remp hx hy hN ⟨hb.1, by omega⟩ (k _ ⟨Int.emod_nonneg _ (by omega), Int.emod_lt_of_pos _ hb.2⟩)
theorem WL.quoV {x y : Operand} {n m : Int} {t t' : Nat} (hx : ev fr x = some (.int .i64 n)) (hy : ev fr y = some (.int .i64 m)) (hN : Nat.ble (d + 1) N = true)
    (hb : 0 ≤ n ∧ n ≤ 9223372036854775807 ∧ 0 < m) (k : ∀ r : Int, 0 ≤ r ∧ r ≤ n → WL q P w0 X N ops Q rest ((d, .int .i64 r) :: fr) L) : WL q P w0 X N ops Q (⟨some d, .binOp .quo t x y t', ty, ps, af, none⟩ :: rest) fr L :=
  WL.quo hx hy hN hb (k _ ⟨Int.ediv_nonneg hb.1 (by omega), Int.ediv_le_self _ hb.1⟩)
theorem WL.res (hL : ∀ w, St w0 X w L → St w0 X w L') (h : WL false P w0 X N ops Q rest fr L') : WL false P w0 X N ops Q rest fr L := by
  unfold WL at *; exact fun a w ha hs => h a w ha (hL w hs)
theorem WC.frame {c : Code} {fr' : Fr} (e : fr = fr') (e' : L = L') (h : WC P w0 X N Q c fr' L') : WC P w0 X N Q c fr L := by rw [e, e']; exact h
theorem WC.res {c : Code} (hL : ∀ w, St w0 X w L → St w0 X w L') (h : WC P w0 X N Q c fr L') : WC P w0 X N Q c fr L := by
  unfold WC at *; exact fun a w ha hs => h a w ha (hL w hs)
end

/-! ## views: slices that are read only -/
def blocksOf : Value → List Nat
  | .slice (some ad) _ _ => [ad.block]
  | _ => []
section
variable {α : Type} {E : α → List Value} {sz : Nat}
@[irreducible] def vw (E : α → List Value) (sz : Nat) [hE : Enc E sz] (v : Value) (ys : List α) : Res where
  foot := blocksOf v
  holds w := Sl E sz v ys w ∧ ∀ b ∈ blocksOf v, b < w.heap.size
  here w h := h.2
  loc w w' hb h := ⟨h.1.mono (fun ad n c hv _ => hb ad.block (by rw [hv]; simp [blocksOf])) hE, fun b hm => by
    have := h.2 b hm
    have e := hb b hm
    rw [Array.getElem?_eq_getElem this] at e
    exact (Array.getElem?_eq_some_iff.1 e).1⟩
variable [hE : Enc E sz]
theorem vw_foot (v : Value) (ys : List α) : (vw E sz v ys).foot = blocksOf v := by unfold vw; rfl
theorem vw_holds {v : Value} {ys : List α} {w : World} : (vw E sz v ys).holds w ↔ Sl E sz v ys w ∧ ∀ b ∈ blocksOf v, b < w.heap.size := by unfold vw; rfl
theorem ownBlock_eq {w : World} {base size n : Nat} {t : TypeId} {v : Value} {xs : List Value} (h : w.ownsRow base t size v n xs) : v.ownBlock.toList = blocksOf v := by
  rcases h.2 with ⟨rfl, _⟩ | ⟨g, cap, cur, rfl, _⟩ <;> rfl
theorem St.view {w0 w : World} {X : List Nat} {L : List Res} {t : Nat} {v v' : Value} {ys ys' : List α} (h : St w0 X w (own E sz v t ys :: L)) (hs : ∀ w, Sl E sz v ys w → Sl E sz v' ys' w) (hb : ∀ b ∈ blocksOf v', b ∈ blocksOf v) : St w0 X w (vw E sz v' ys' :: L) := by
  have ho := h.res _ (List.mem_cons_self ..)
  have hf : (own E sz v t ys).foot = blocksOf v := by rw [own_foot]; exact ownBlock_eq (own_holds.1 ho)
  have hap := List.pairwise_cons.1 h.apart
  refine ⟨h.keep, fun r hr => ?_, List.pairwise_cons.2 ⟨fun s hm b hbm hbs => ?_, hap.2⟩, fun r hr b hbr => ?_⟩
  · rcases List.mem_cons.1 hr with rfl | hr
    · exact vw_holds.2 ⟨hs _ (Sl.of_own ho), fun b hm => Res.here _ w ho b (by rw [hf]; exact hb b hm)⟩
    · exact h.res r (ms hr)
  · rw [vw_foot] at hbm
    exact hap.1 s hm b (by rw [hf]; exact hb b hbm) hbs
  · rcases List.mem_cons.1 hr with rfl | hr
    · rw [vw_foot] at hbr
      exact h.new _ (List.mem_cons_self ..) b (by rw [hf]; exact hb b hbr)
    · exact h.new r (ms hr) b hbr
theorem St.vw {w0 w : World} {X : List Nat} {L : List Res} {t : Nat} {v : Value} {ys : List α} (h : St w0 X w (own E sz v t ys :: L)) : St w0 X w (Vc.vw E sz v ys :: L) := h.view (fun _ h => h) (fun _ h => h)
end
class HasVw (L : List Res) (v : Value) {α : Type} (E : outParam (α → List Value)) (sz : outParam Nat) (ys : outParam (List α)) : Prop where h : ∃ i : Enc E sz, @vw α E sz i v ys ∈ L
instance (priority := 2000) {L : List Res} {v : Value} {α : Type} {E : α → List Value} {sz : Nat} {ys : List α} [i : Enc E sz] : HasVw (vw E sz v ys :: L) v E sz ys := ⟨i, m0⟩
instance {L : List Res} {r : Res} {v : Value} {α : Type} {E : α → List Value} {sz : Nat} {ys : List α} [h : HasVw L v E sz ys] : HasVw (r :: L) v E sz ys := ⟨h.h.elim fun i h => ⟨i, ms h⟩⟩
theorem Sl.v {w0 w : World} {X : List Nat} {L : List Res} {v : Value} {α : Type} {E : α → List Value} {sz : Nat} {ys : List α} [hO : HasVw L v E sz ys] (h : St w0 X w L) : Sl E sz v ys w := by
  obtain ⟨i, hm⟩ := hO.h
  exact (vw_holds.1 (h.res _ hm)).1

section
variable {q : Bool} {P : Program} {w0 : World} {X : List Nat} {N : Nat} {ops : Array Oper} {Q : Exit → Act → World → Prop} {rest : List Oper} {fr : Fr} {L L' : List Res} {d ty : Nat} {ps : String} {af : Array Edge}
variable {α : Type} {E : α → List Value} {sz : Nat}
/-- s[lo:], and where it lies -/
theorem WL.slice_loB {x y : Operand} {T e bw : Nat} {zs : List Value} {v : Value} {ys : List α} {n : Int} [hE : Enc E sz] [hT : TSlice P T e sz bw zs] (hx : ev fr x = some v) (hy : ev fr y = some (.int .i64 n))
    (hs : ∀ w, St w0 X w L → Sl E sz v ys w) (hb : 0 ≤ n ∧ n ≤ ys.length) (hN : Nat.ble (d + 1) N = true)
    (k : ∀ v' : Value, v'.oneCell' = true → (∀ w, Sl E sz v ys w → Sl E sz v' (ys.drop n.toNat) w) → (∀ b ∈ blocksOf v', b ∈ blocksOf v) → WL q P w0 X N ops Q rest ((d, v') :: fr) L) :
    WL q P w0 X N ops Q (⟨some d, .slice T x (some y) none none, ty, ps, af, none⟩ :: rest) fr L :=
  WL.picks (B := Value) (G := fun v' => v'.oneCell' = true ∧ (∀ w, Sl E sz v ys w → Sl E sz v' (ys.drop n.toNat) w) ∧ (∀ b ∈ blocksOf v', b ∈ blocksOf v)) (v := fun v => v) rfl rfl hN (fun a w ha hst => by
    obtain ⟨i, z, hu, hi', hz, hsz, _⟩ := tslice_parts hT.h
    obtain ⟨A, c, hv, hc⟩ := (hs w hst).form
    subst hv
    refine ⟨.slice (if c = n.toNat then A else A.map (·.add (n.toNat * sz))) (ys.length - n.toNat) (c - n.toNat), ⟨rfl, fun w hw => ?_, fun b hm => ?_⟩, fun w' _ => ?_⟩
    · have := hw.cut_ (l := n.toNat) (h := ys.length) (by omega) (Nat.le_refl _)
      rwa [List.take_length] at this
    · split at hm
      · cases A with
        | none => exact hm
        | some ad => exact hm
      · cases A with
        | none => exact hm
        | some ad =>
          have hbk : (ad.add (n.toNat * sz)).block = ad.block := by unfold Addr.add; split <;> rfl
          simpa [blocksOf, hbk] using hm
    · have hsb : (Instr.sliceBounds true ys.length c (some (a.eval y)) none none).run P w' = .ok (n.toNat, ys.length, c) w' := by
        simp [Instr.sliceBounds, ha.ev hy, run_bound (P := P) (y := ys.length) rfl hb]
      have hsz' : (sizeOf e).run P w' = .ok sz w' := by simp [sizeOf, typeInfo, hi', hsz]
      simp only [execOp, ha.ev hx, Option.map_none, Option.map_some, Instr.sliceAt, Instr.slice, Sem.run_bind, run_underlying hu, Result.andThen_ok, hsb, hsz']
      rfl) (fun v' h' => k v' h'.1 h'.2.1 h'.2.2)
end

/-! ## the reader of a code -/
@[reducible] def byteE (n : Int) : List Value := [.int .u8 n]
instance : Enc byteE 1 := ⟨fun _ => rfl, fun _ => rfl, by omega⟩
structure CodeS (v : Value) (bs : List Int) (w : World) : Prop where
  sl : Sl byteE 1 v bs w
  bytes : ∀ y ∈ bs, 0 ≤ y ∧ y ≤ 255
  len : bs.length ≤ 2000
structure Rdr (v : Value) (bs : List Int) (w : World) (X : List Nat) : Prop where
  sl : Reads byteE 1 v bs w X
  bytes : ∀ y ∈ bs, 0 ≤ y ∧ y ≤ 255
  len : bs.length ≤ 2000
theorem Rdr.sub {v : Value} {bs : List Int} {w0 w : World} {X : List Nat} {L : List Res} (h : Rdr v bs w0 X) (hs : St w0 X w L) : Rdr v bs w X := ⟨h.sl.sub hs, h.bytes, h.len⟩
theorem Rdr.x {v : Value} {bs : List Int} {w0 w : World} {L : List Res} {r t : Nat} {cs : List Value} [HasBlk L r t cs] (h : CodeS v bs w0) (hs : St w0 [] w L) : Rdr v bs w [r] := ⟨Reads.x h.sl hs, h.bytes, h.len⟩
def PtrB (v : Value) (bs : List Int) (p : Addr) : Prop := ∃ k y, PtrOf v (k * 1) p ∧ bs[k]? = some y
section
variable {q : Bool} {P : Program} {w0 : World} {X : List Nat} {N : Nat} {ops : Array Oper} {Q : Exit → Act → World → Prop} {rest : List Oper} {fr : Fr} {L L' : List Res} {d ty : Nat} {ps : String} {af : Array Edge}
variable {v : Value} {bs : List Int} {x i : Operand} {T e bw : Nat} {zs : List Value} {n : Int} {p : Addr}
theorem WL.lenB [TSlice P T e 1 bw zs] (hs : Rdr v bs w0 X) (hx : ev fr x = some v) (hN : Nat.ble (d + 1) N = true) (k : WL q P w0 X N ops Q rest ((d, .int .i64 (bs.length : Int)) :: fr) L) :
    WL q P w0 X N ops Q (⟨some d, .call { callee := .builtin .len, args := #[x], argTypes := #[T] }, ty, ps, af, none⟩ :: rest) fr L := WL.len hx (fun _ h => hs.sl.at h) hN k
theorem WL.ixB [TSlice P T e 1 bw zs] (hs : Rdr v bs w0 X) (hx : ev fr x = some v) (hi : ev fr i = some (.int .i64 n)) (hb : 0 ≤ n ∧ n < bs.length) (hN : Nat.ble (d + 1) N = true)
    (k : ∀ p : Addr, PtrB v bs p → WL q P w0 X N ops Q rest ((d, .pointer (some p)) :: fr) L) : WL q P w0 X N ops Q (⟨some d, .indexAddr T x i, ty, ps, af, none⟩ :: rest) fr L :=
  WL.index hx hi (fun _ h => hs.sl.at h) hb hN (fun p hp => k p ⟨_, _, hp, List.getElem?_eq_getElem (by omega)⟩)
theorem WL.ldB [TCell P T false 1] (hs : Rdr v bs w0 X) (hx : ev fr x = some (.pointer (some p))) (hp : PtrB v bs p) (hN : Nat.ble (d + 1) N = true) (kk : ∀ y : Int, 0 ≤ y ∧ y ≤ 255 → WL q P w0 X N ops Q rest ((d, .int .u8 y) :: fr) L) :
    WL q P w0 X N ops Q (⟨some d, .load T x, ty, ps, af, none⟩ :: rest) fr L := by
  obtain ⟨k, y, hp, hy⟩ := hp
  exact WL.load0 hx hp (fun _ h => hs.sl.at h) hy rfl hN (kk y (hs.bytes y (List.mem_of_getElem? hy)))
end

/-! ## resources chosen -/
inductive Sel : List Res → List Res → Prop
  | nil {L : List Res} : Sel L []
  | cons {L L1 R : List Res} {r : Res} : Del L r L1 → Sel L1 R → Sel L (r :: R)
theorem Sel.perm {L R : List Res} (h : Sel L R) : ∃ S, L.Perm (R ++ S) := by
  induction h with
  | nil => exact ⟨_, .refl _⟩
  | cons hd _ ih =>
    obtain ⟨S, hS⟩ := ih
    exact ⟨S, hd.perm.trans (hS.cons _)⟩
theorem St.sel {w0 w : World} {X : List Nat} {L R : List Res} (h : St w0 X w L) (hs : Sel L R) : St w0 X w R := by
  obtain ⟨S, hS⟩ := hs.perm
  exact (h.perm hS).sub (List.sublist_append_left _ _)

/-! ## elements of which only this is known, that they are some -/
def PtrL {α : Type} (sz : Nat) (v : Value) (ys : List α) (p : Addr) : Prop := ∃ k y, PtrOf v (k * sz) p ∧ ys[k]? = some y
class CDelO {α : Type} (L : List Res) (E : α → List Value) (sz : Nat) (v : Value) (t : outParam Nat) (ys : outParam (List α)) (L' : outParam (List Res)) : Prop where h : Del L (own E sz v t ys) L'
instance (priority := 2000) {α : Type} {L : List Res} {E : α → List Value} {sz t : Nat} {v : Value} {ys : List α} : CDelO (own E sz v t ys :: L) E sz v t ys L := ⟨.here⟩
instance {α : Type} {L L' : List Res} {r : Res} {E : α → List Value} {sz t : Nat} {v : Value} {ys : List α} [h : CDelO L E sz v t ys L'] : CDelO (r :: L) E sz v t ys (r :: L') := ⟨.there h.h⟩
section
variable {q : Bool} {P : Program} {w0 : World} {X : List Nat} {N : Nat} {ops : Array Oper} {Q : Exit → Act → World → Prop} {rest : List Oper} {fr : Fr} {L L' : List Res} {d ty : Nat} {ps : String} {af : Array Edge}
variable {α : Type} {E : α → List Value} {sz : Nat} {v : Value} {ys : List α} {x y i : Operand} {T e bw t : Nat} {zs : List Value} {n : Int} {p : Addr}
theorem WL.ixL [TSlice P T e sz bw zs] [hO : HasOwn L v α E sz t ys] (hx : ev fr x = some v) (hi : ev fr i = some (.int .i64 n)) (hb : 0 ≤ n ∧ n < ys.length) (hN : Nat.ble (d + 1) N = true)
    (k : ∀ p : Addr, PtrL sz v ys p → WL q P w0 X N ops Q rest ((d, .pointer (some p)) :: fr) L) : WL q P w0 X N ops Q (⟨some d, .indexAddr T x i, ty, ps, af, none⟩ :: rest) fr L :=
  WL.index hx hi (fun _ h => Sl.own hO.h h) hb hN (fun p hp => k p ⟨_, _, hp, List.getElem?_eq_getElem (by omega)⟩)
theorem WL.ldL {ys : List Int} [TCell P T false 1] [hO : HasOwn L v Int intE 1 t ys] (hx : ev fr x = some (.pointer (some p))) (hp : PtrL 1 v ys p) (hN : Nat.ble (d + 1) N = true) (kk : ∀ y : Int, y ∈ ys → WL q P w0 X N ops Q rest ((d, .int .i64 y) :: fr) L) :
    WL q P w0 X N ops Q (⟨some d, .load T x, ty, ps, af, none⟩ :: rest) fr L := by
  obtain ⟨k, y, hp, hy⟩ := hp
  exact WL.load0 hx hp (fun _ h => Sl.own hO.h h) hy rfl hN (kk y (List.mem_of_getElem? hy))
theorem Del.repl {L L' : List Res} {r : Res} (h : Del L r L') (r' : Res) : ∃ L2, Repl L r r' L2 ∧ L2.Perm (r' :: L') := by
  induction h with
  | here => exact ⟨_, .here, .refl _⟩
  | there _ ih =>
    obtain ⟨L2, h1, h2⟩ := ih
    exact ⟨_, .there h1, (h2.cons _).trans (.swap _ _ _)⟩
theorem WL.stL {ys : List Int} {m : Int} [TCell P T false 1] [hD : CDelO L intE 1 v t ys L'] (hx : ev fr x = some (.pointer (some p))) (hy : ev fr y = some (.int .i64 m)) (hp : PtrL 1 v ys p)
    (kk : ∀ ys' : List Int, ys'.length = ys.length → WL false P w0 X N ops Q rest fr (own intE 1 v t ys' :: L')) :
    WL false P w0 X N ops Q (⟨none, .store T x y, ty, ps, af, none⟩ :: rest) fr L := by
  obtain ⟨k, y0, hp, hk⟩ := hp
  obtain ⟨L2, h1, h2⟩ := hD.h.repl (own intE 1 v t (ys.set k m))
  exact WL.store0 (E := intE) (sz := 1) (e' := m) hx hy hp h1 hk .zero rfl (WL.res (fun w h => h.perm h2) (kk _ (by simp)))
end
end Go.Proofs.Ytcmmfamippdgbaa.Vc
