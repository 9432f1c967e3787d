/- A small calculus for walks: frames as lists of slots, memory as a list of resources that lie apart; contracts of calls. Over the guide's Calls, Code.wp, wpList, Below, ownsRow. -/
import Derived.WalkKit
import Derived.ProofKit
import Derived.Deep.QuietTactic
import Derived.OrdersHeld
import Derived.Great.BuildSlice
import Derived.Maps.AppendAt

namespace Go.Proofs.Ytcmmfamippdgbaa.Vc
open Go.RowKit

/-! ## frames -/
abbrev Fr := List (Nat × Value)

def Fr.get : Fr → Nat → Option Value
  | [], _ => none
  | (j, v) :: r, i => match Nat.beq j i with
    | true => some v
    | false => Fr.get r i

def ev (fr : Fr) : Operand → Option Value
  | .tmp t => fr.get t
  | .const v => some v
  | .global g => some (.pointer (some ⟨g, 0, none⟩))
  | .func f => some (.func (.func f) #[] #[])

def evs (fr : Fr) : List Operand → Option (List Value)
  | [] => some []
  | x :: r => match ev fr x with
    | some v => match evs fr r with
      | some vs => some (v :: vs)
      | none => none
    | none => none

structure As (N : Nat) (fr : Fr) (a : Act) : Prop where
  defers : a.defers = []
  size : a.tmps.size = N
  get : ∀ i v, fr.get i = some v → a.tmps.getD i undef = v

theorem As.ev {N : Nat} {fr : Fr} {a : Act} (h : As N fr a) {x : Operand} {v : Value} (hx : ev fr x = some v) : a.eval x = v := by
  cases x with
  | tmp t => exact h.get t v hx
  | const u => simpa [Vc.ev, Act.eval] using hx
  | global g => simpa [Vc.ev, Act.eval] using hx
  | func f => simpa [Vc.ev, Act.eval] using hx

theorem As.evs {N : Nat} {fr : Fr} {a : Act} (h : As N fr a) : ∀ {xs : List Operand} {vs : List Value}, evs fr xs = some vs → xs.map a.eval = vs
  | [], vs, hx => by simpa [Vc.evs] using hx
  | x :: r, vs, hx => by
    simp only [Vc.evs] at hx
    split at hx
    · rename_i v hv
      split at hx
      · rename_i us hus
        have := As.evs h hus
        simp only [Option.some.injEq] at hx
        subst hx
        simp [h.ev hv, this]
      · cases hx
    · cases hx

theorem As.put {N : Nat} {fr : Fr} {a : Act} (h : As N fr a) {d : Nat} (hd : d < N) (v : Value) : As N ((d, v) :: fr) (a.put (some d) v) := by
  refine ⟨h.defers, by simpa [Act.put] using h.size, ?_⟩
  intro i u hi
  simp only [Fr.get] at hi
  simp only [Act.put]
  split at hi
  · rename_i hb
    have : d = i := Nat.eq_of_beq_eq_true hb
    subst this
    have : d < a.tmps.size := by rw [h.size]; exact hd
    simp only [Option.some.injEq] at hi
    subst hi
    simp [Array.getD, this]
  · rename_i hb
    have hne : d ≠ i := by
      rintro rfl
      have := Nat.beq_refl d
      rw [this] at hb; cases hb
    have := h.get i u hi
    rw [← this]
    simp [Array.getD_eq_getD_getElem?, Array.getElem?_setIfInBounds_ne hne]

theorem As.sub {N : Nat} {fr fr' : Fr} {a : Act} (h : As N fr a) (hs : ∀ i v, fr'.get i = some v → fr.get i = some v) : As N fr' a :=
  ⟨h.defers, h.size, fun i v hv => h.get i v (hs i v hv)⟩

/-! ## memory -/
/-- w' is w with new blocks, and other contents in the blocks of X alone. -/
structure Keep (X : List Nat) (w w' : World) : Prop where
  os : w'.os = w.os
  tape : w'.tape = w.tape
  output : w'.output = w.output
  size : w.heap.size ≤ w'.heap.size
  block : ∀ k, k < w.heap.size → k ∉ X → w'.heap[k]? = w.heap[k]?

theorem Keep.refl (X : List Nat) (w : World) : Keep X w w := ⟨rfl, rfl, rfl, Nat.le_refl _, fun _ _ _ => rfl⟩
theorem Keep.trans {X : List Nat} {a b c : World} (h : Keep X a b) (k : Keep X b c) : Keep X a c :=
  ⟨k.os.trans h.os, k.tape.trans h.tape, k.output.trans h.output, Nat.le_trans h.size k.size,
    fun i hi hx => (k.block i (Nat.lt_of_lt_of_le hi h.size) hx).trans (h.block i hi hx)⟩
theorem Keep.drew (X : List Nat) (w : World) : Keep X w w.drew := ⟨rfl, rfl, rfl, Nat.le_refl _, fun _ _ _ => rfl⟩
theorem Keep.alloc (X : List Nat) (w : World) (o : Obj) : Keep X w (w.alloc o) :=
  ⟨rfl, rfl, rfl, by simp, fun k hk _ => Below.heap_alloc w o k hk⟩
theorem Keep.mono {X Y : List Nat} {w w' : World} (h : Keep X w w') (hs : ∀ b ∈ X, b < w.heap.size → b ∈ Y) : Keep Y w w' :=
  ⟨h.os, h.tape, h.output, h.size, fun k hk hn => h.block k hk (fun hx => hn (hs k hx hk))⟩
theorem Keep.below {w w' : World} (h : Keep [] w w') : Below w.heap.size w w' :=
  ⟨h.os, h.tape, h.output, h.size, fun k hk => h.block k hk (by simp)⟩
theorem Keep.of_below {w w' : World} (h : Below w.heap.size w w') (X : List Nat) : Keep X w w' :=
  ⟨h.os, h.tape, h.output, h.size, fun k hk _ => h.block k hk⟩
theorem Keep.of_grown {w w' : World} {row : Option Nat} (h : w.grownBy w' row) : Keep row.toList w w' :=
  ⟨h.os, h.tape, h.output, h.size, fun k hk hn => h.block k hk (by rintro e; exact hn (by rw [← e]; simp))⟩

/-- A resource: what some blocks hold. -/
structure Res where
  foot : List Nat
  holds : World → Prop
  here : ∀ w, holds w → ∀ b ∈ foot, b < w.heap.size
  loc : ∀ w w', (∀ b ∈ foot, w'.heap[b]? = w.heap[b]?) → holds w → holds w'

theorem lt_of_some {w : World} {b : Nat} {o : Obj} (h : w.heap[b]? = some o) : b < w.heap.size := (Array.getElem?_eq_some_iff.1 h).1

/-- Block b is known whole. -/
@[irreducible] def blk (b : Nat) (t : TypeId) (cs : List Value) : Res where
  foot := [b]
  holds w := w.heap[b]? = some (.cells cs.toArray t (0, 0))
  here w h := by intro c hc; simp at hc; subst hc; exact lt_of_some h
  loc w w' h hw := by rw [h b (by simp)]; exact hw

theorem blk_foot (b : Nat) (t : TypeId) (cs : List Value) : (blk b t cs).foot = [b] := by unfold blk; rfl
theorem blk_holds {b : Nat} {t : TypeId} {cs : List Value} {w : World} : (blk b t cs).holds w ↔ w.heap[b]? = some (.cells cs.toArray t (0, 0)) := by unfold blk; rfl

/-- The slice value v (nil, or at the head of a row of its own) holds the elements ys, each as the cells E y. -/
@[irreducible] def own {α : Type} (E : α → List Value) (sz : Nat) (v : Value) (t : TypeId) (ys : List α) : Res where
  foot := v.ownBlock.toList
  holds w := w.ownsRow 0 t sz v ys.length (ys.flatMap E)
  here w h := by
    intro b hb
    simp at hb
    exact (h.lt b hb).2
  loc w w' h hw := by
    refine ⟨hw.1, ?_⟩
    rcases hw.2 with h2 | ⟨g, cap, cur, hv, hg, hh, r⟩
    · exact .inl h2
    · refine .inr ⟨g, cap, cur, hv, hg, ?_, r⟩
      rw [h g (by rw [hv]; simp [Value.ownBlock])]; exact hh

theorem own_foot {α : Type} (E : α → List Value) (sz : Nat) (v : Value) (t : TypeId) (ys : List α) : (own E sz v t ys).foot = v.ownBlock.toList := by unfold own; rfl
theorem own_holds {α : Type} {E : α → List Value} {sz : Nat} {v : Value} {t : TypeId} {ys : List α} {w : World} :
    (own E sz v t ys).holds w ↔ w.ownsRow 0 t sz v ys.length (ys.flatMap E) := by unfold own; rfl

def Res.apart (r s : Res) : Prop := ∀ b ∈ r.foot, b ∉ s.foot

/-- What the call that began in w0 has made: the blocks of w0 are as they were, but for X; the resources of L hold, lie apart, and are new or in X. -/
structure St (w0 : World) (X : List Nat) (w : World) (L : List Res) : Prop where
  keep : Keep X w0 w
  res : ∀ r ∈ L, r.holds w
  apart : L.Pairwise Res.apart
  new : ∀ r ∈ L, ∀ b ∈ r.foot, w0.heap.size ≤ b ∨ b ∈ X

theorem Res.apart.symm {r s : Res} (h : r.apart s) : s.apart r := fun b hb hr => h b hr hb

theorem St.start (w : World) (X : List Nat) : St w X w [] := ⟨Keep.refl _ _, by simp, .nil, by simp⟩
theorem St.sub {w0 w : World} {X : List Nat} {L L' : List Res} (h : St w0 X w L) (hs : L'.Sublist L) : St w0 X w L' :=
  ⟨h.keep, fun r hr => h.res r (hs.subset hr), h.apart.sublist hs, fun r hr => h.new r (hs.subset hr)⟩
theorem St.perm {w0 w : World} {X : List Nat} {L L' : List Res} (h : St w0 X w L) (hs : L.Perm L') : St w0 X w L' :=
  ⟨h.keep, fun r hr => h.res r (hs.mem_iff.2 hr), (hs.pairwise_iff (fun h => Res.apart.symm h)).1 h.apart, fun r hr => h.new r (hs.mem_iff.2 hr)⟩

/-- Behind a call that was handed the resources Lc (it may write their blocks M), and gives Rs. -/
theorem St.call {w0 w w' : World} {X M : List Nat} {Lc L Rs : List Res} (h : St w0 X w (Lc ++ L)) (hM : ∀ b ∈ M, b < w.heap.size → ∃ r ∈ Lc, b ∈ r.foot) (hM' : ∀ b ∈ M, b < w.heap.size) (hc : St w M w' Rs) : St w0 X w' (Rs ++ L) := by
  have hap := List.pairwise_append.1 h.apart
  have hL : ∀ r ∈ L, ∀ b ∈ r.foot, b ∉ M ∧ b < w.heap.size := by
    intro r hr b hb
    have hlt := r.here w (h.res r (by simp [hr])) b hb
    refine ⟨fun hm => ?_, hlt⟩
    obtain ⟨s, hs, hbs⟩ := hM b hm hlt
    exact hap.2.2 s hs r hr b hbs hb
  refine ⟨⟨hc.keep.os.trans h.keep.os, hc.keep.tape.trans h.keep.tape, hc.keep.output.trans h.keep.output, Nat.le_trans h.keep.size hc.keep.size, ?_⟩, ?_, ?_, ?_⟩
  · intro k hk hx
    rw [hc.keep.block k (Nat.lt_of_lt_of_le hk h.keep.size) ?_, h.keep.block k hk hx]
    intro hm
    obtain ⟨s, hs, hbs⟩ := hM k hm (Nat.lt_of_lt_of_le hk h.keep.size)
    rcases h.new s (by simp [hs]) k hbs with h1 | h1
    · omega
    · exact hx h1
  · intro r hr
    rcases List.mem_append.1 hr with hr | hr
    · exact hc.res r hr
    · refine r.loc w w' (fun b hb => ?_) (h.res r (by simp [hr]))
      exact hc.keep.block b (hL r hr b hb).2 (hL r hr b hb).1
  · refine List.pairwise_append.2 ⟨hc.apart, hap.2.1, ?_⟩
    intro r hr s hs b hb hbs
    rcases hc.new r hr b hb with h1 | h1
    · exact absurd (hL s hs b hbs).2 (by omega)
    · exact (hL s hs b hbs).1 h1
  · intro r hr b hb
    rcases List.mem_append.1 hr with hr | hr
    · rcases hc.new r hr b hb with h1 | h1
      · exact .inl (Nat.le_trans h.keep.size h1)
      · obtain ⟨s, hs, hbs⟩ := hM b h1 (hM' b h1)
        exact h.new s (by simp [hs]) b hbs
    · exact h.new r (by simp [hr]) b hb

theorem St.call0 {w0 w w' : World} {X : List Nat} {L Rs : List Res} (h : St w0 X w L) (hc : St w [] w' Rs) : St w0 X w' (Rs ++ L) :=
  St.call (Lc := []) (M := []) (by simpa using h) (by simp) (by simp) hc

theorem St.of_keep {w0 w w' : World} {X : List Nat} {L : List Res} (h : St w0 X w L) (hk : Keep [] w w') : St w0 X w' L := by
  have := St.call0 (Rs := []) h ⟨hk, by simp, .nil, by simp⟩
  simpa using this

theorem St.alloc {w0 w : World} {X : List Nat} {L : List Res} (h : St w0 X w L) (t : TypeId) (cs : List Value) :
    St w0 X (w.alloc (.cells cs.toArray t)) (blk w.heap.size t cs :: L) := by
  refine St.call0 (Rs := [blk w.heap.size t cs]) h ⟨Keep.alloc _ _ _, ?_, List.pairwise_singleton _ _, ?_⟩
  · intro r hr; simp at hr; subst hr; rw [blk_holds]; exact heap_alloc_new w _
  · intro r hr; simp at hr; subst hr; rw [blk_foot]; intro b hb; simp at hb; left; omega

end Go.Proofs.Ytcmmfamippdgbaa.Vc

namespace Go.Proofs.Ytcmmfamippdgbaa.Vc
open Go.RowKit

/-! ## quiet operations: one value in every world of the class, and whatever was there stays -/
def quietIn (P : Program) (o : Oper) (a : Act) (C : World → Prop) (v : Value) : Prop := ∀ w, C w → o.quietAt P a (fun w' => C w' ∧ Keep [] w w') w v
def wpQ (P : Program) (ops : Array Oper) (C : World → Prop) (Q : Act → Prop) : List Oper → Act → Prop
  | [], a => Q a
  | o :: rest, a => if Region.wanted o (yielded ops a.tmps) then ∃ v, quietIn P o a C v ∧ wpQ P ops C Q rest (a.put o.dst v) else wpQ P ops C Q rest (a.put o.dst undef)
theorem quietAt_mono {P : Program} {o : Oper} {a : Act} {C C' : World → Prop} {w : World} {v : Value} (h : ∀ w, C w → C' w) (hq : o.quietAt P a C w v) : o.quietAt P a C' w v := by
  unfold Oper.quietAt at *
  generalize (execOp a.eval o).run P w = r at *
  cases r with
  | ok n w' => cases n <;> simp only [Oper.quietUpon] at hq ⊢ <;> first | exact hq | exact ⟨hq.1, hq.2.mono fun e w'' ⟨he, hw⟩ => ⟨he, h _ hw⟩⟩
  | halt x w' => simp only [Oper.quietUpon] at hq
theorem wpQuiet_of {P : Program} {ops : Array Oper} {C : World → Prop} {Q : Act → Prop} : ∀ (l : List Oper) (a : Act), wpQ P ops C Q l a → wpQuiet P ops C Q l a
  | [], _, h => h
  | o :: rest, a, h => by
    unfold wpQ at h
    unfold wpQuiet
    split
    · rename_i hw
      rw [if_pos hw] at h
      obtain ⟨v, hv, h⟩ := h
      exact ⟨v, fun w hC => quietAt_mono (fun _ hx => hx.1) (hv w hC), wpQuiet_of rest _ h⟩
    · rename_i hw
      rw [if_neg hw] at h
      exact wpQuiet_of rest _ h

/-! ## judgements -/
/-- Operations. q: the region draws its order, and all its operations are quiet (one walk of the text's order serves every order). -/
def WL (q : Bool) (P : Program) (w0 : World) (X : List Nat) (N : Nat) (ops : Array Oper) (Q : Exit → Act → World → Prop) (rest : List Oper) (fr : Fr) (L : List Res) : Prop :=
  ∀ a w, As N fr a → St w0 X w L → match q with
    | false => wpList P ops Q rest a w
    | true => wpQ P ops (fun w' => St w0 X w' L) (fun a' => ∀ w', St w0 X w' L → Q .normal a' w') rest a
def WC (P : Program) (w0 : World) (X : List Nat) (N : Nat) (Q : Exit → Act → World → Prop) (c : Code) (fr : Fr) (L : List Res) : Prop :=
  ∀ a w, As N fr a → St w0 X w L → c.wp P Q a w
def WQ (w0 : World) (X : List Nat) (N : Nat) (Q : Exit → Act → World → Prop) (e : Exit) (fr : Fr) (L : List Res) : Prop :=
  ∀ a w, As N fr a → St w0 X w L → Q e a w

section
variable {q : Bool} {P : Program} {w0 : World} {X : List Nat} {N : Nat} {ops : Array Oper} {Q : Exit → Act → World → Prop} {rest : List Oper} {fr : Fr} {L : List Res}

/-! ### code -/
theorem WC.seq {x y : Code} (h : WC P w0 X N (Exit.then (y.wp P Q) Q) x fr L) : WC P w0 X N Q (Code.seq x y) fr L :=
  fun a w ha hs => wp_seq (h a w ha hs)
theorem WC.region {id : Nat} {l : List Oper} (h : WL false P w0 X N l.toArray Q l fr L) : WC P w0 X N Q (Code.region id l.toArray false) fr L :=
  fun a w ha hs => wp_region_lit (h a w ha hs)
theorem WC.draws {id : Nat} {l : List Oper} (hm : P.follows .mixedOrders = true) (hB : Region.lexB .any l.toArray = true) (h : WL true P w0 X N l.toArray Q l fr L) : WC P w0 X N Q (Code.region id l.toArray true) fr L :=
  fun a w ha hs => wp_region_quiet (C := fun w' => St w0 X w' L) hm hB (hs.of_keep (Keep.drew _ _)) (by simpa using wpQuiet_of _ _ (h a w ha hs))
theorem WL.nil (h : WQ w0 X N Q .normal fr L) : WL q P w0 X N ops Q [] fr L := fun a w ha hs => match q with
  | false => h a w ha hs
  | true => fun w' hs' => h a w' ha hs'
/-! ### regions that draw their order, with operations that turn the world -/
/-- What is left of a region, in any order; whatever keeps all may come between; behind each operation the class C holds. -/
def sAny (C : World → Prop) (P : Program) (ops : Array Oper) (Q : Exit → Act → World → Prop) : Nat → Array Bool → Act → World → Prop
  | 0, l, a, w => C w ∧ Region.ready .any ops l = [] ∧ ∀ w', Keep [] w w' → Q .normal a w'
  | f + 1, l, a, w => C w ∧ ∀ w', Keep [] w w' → (Region.ready .any ops l = [] → Q .normal a w') ∧ ∀ i ∈ Region.ready .any ops l, wpOp P ops Q i (sAny C P ops Q f (l.setIfInBounds i true)) a w'
variable {C : World → Prop}
theorem sAny.c {f : Nat} {l : Array Bool} {a : Act} {w : World} (h : sAny C P ops Q f l a w) : C w := by cases f <;> exact h.1
theorem sAny.keep (hC : ∀ w w', C w → Keep [] w w' → C w') {f : Nat} {l : Array Bool} {a : Act} {w w' : World} (h : sAny C P ops Q f l a w) (hk : Keep [] w w') : sAny C P ops Q f l a w' := by
  cases f with
  | zero => exact ⟨hC _ _ h.1 hk, h.2.1, fun w'' hk' => h.2.2 w'' (hk.trans hk')⟩
  | succ f => exact ⟨hC _ _ h.1 hk, fun w'' hk' => h.2 w'' (hk.trans hk')⟩
theorem sAny.wp : ∀ {f : Nat} {l : Array Bool} {a : Act} {w : World}, sAny C P ops Q f l a w → wpAny P .any ops Q f l a w
  | 0, _, _, w, h => ⟨h.2.1, h.2.2 w (Keep.refl _ _)⟩
  | _ + 1, _, _, w, h => ⟨(h.2 w (Keep.refl _ _)).1, fun i hi => wpOp_mono (fun _ _ h' => sAny.wp h') ((h.2 w (Keep.refl _ _)).2 i hi)⟩
/-- In state a operation o leaves v, in every world of C. -/
def Yl (C : World → Prop) (P : Program) (ops : Array Oper) (o : Oper) (v : Value) (a : Act) : Prop :=
  (Region.wanted o (yielded ops a.tmps) = true ∧ quietIn P o a C v) ∨ (Region.wanted o (yielded ops a.tmps) = false ∧ v = undef)
theorem Yl.of_same {o : Oper} {v : Value} {a a' : Act} (hy : Yl C P ops o v a) (he : execOp a'.eval o = execOp a.eval o)
    (hw : Region.wanted o (yielded ops a'.tmps) = Region.wanted o (yielded ops a.tmps)) : Yl C P ops o v a' := by
  unfold Yl quietIn Oper.quietAt at *
  rw [he, hw]
  exact hy
theorem Yl.op (hC : ∀ w w', C w → Keep [] w w' → C w') {i : Nat} {o : Oper} {v : Value} {a : Act} (hi : ops[i]? = some o) (hy : Yl C P ops o v a) {K : Act → World → Prop} {w : World} (hw : C w) (h : ∀ w', Keep [] w w' → K (a.put o.dst v) w') : wpOp P ops Q i K a w := by
  unfold wpOp
  simp only [hi]
  rcases hy with ⟨hwt, hv⟩ | ⟨hwt, rfl⟩
  · rw [if_pos hwt]
    refine .inl (Oper.wp_of_quiet (C := fun w' => Keep [] w w') (K := fun a' => a' = a.put o.dst v) (Keep.refl _ _) (fun a' w' hk he => by rw [he]; exact h w' hk) ⟨v, fun w' hk => ?_, rfl⟩)
    exact quietAt_mono (fun w'' hx => hk.trans hx.2) (hv w' (hC _ _ hw hk))
  · simp only [hwt, Bool.false_eq_true, if_false]; exact h w (Keep.refl _ _)
/-- What an operation leaves: its frame, with a value in its slot (or one call more put off). -/
theorem wp_moves {o : Oper} {a : Act} {w : World} {K : Act → World → Prop} (h : o.wp P a w K Q) : o.wp P a w (fun a' w' => K a' w' ∧ ∃ u ds, a' = ({ a with defers := ds } : Act).put o.dst u) Q := by
  unfold Oper.wp at *
  generalize (execOp a.eval o).run P w = r at *
  match r, h with
  | .ok (.value u) _, h => exact ⟨h, u, a.defers, rfl⟩
  | .ok .skip _, h => exact ⟨h, undef, a.defers, rfl⟩
  | .ok (.defer d) _, h => exact ⟨h, undef, d :: a.defers, rfl⟩
  | .ok (.enter f args) _, h => exact Calls.mono h fun e _ he => match e, he with
    | .returned u, he => ⟨he, u, a.defers, rfl⟩
    | .panicked _, he => he
    | .outgrown, he => he
  | .ok (.row _ _) _, h => exact Rows.mono h fun u _ he => ⟨he, u, a.defers, rfl⟩
  | .halt x _, h => cases x <;> exact h
theorem wpOp_moves {j : Nat} {oj : Oper} {a : Act} {w : World} {K : Act → World → Prop} (hj : ops[j]? = some oj) (h : wpOp P ops Q j K a w) : wpOp P ops Q j (fun a' w' => K a' w' ∧ ∃ u ds, a' = ({ a with defers := ds } : Act).put oj.dst u) a w := by
  unfold wpOp at *
  simp only [hj] at *
  by_cases hw : Region.wanted oj (yielded ops a.tmps) = true
  · rw [if_pos hw] at *; exact h.imp wp_moves id
  · rw [if_neg hw] at *; exact ⟨h, undef, a.defers, rfl⟩
theorem wpOp_putY {j : Nat} {oi oj : Oper} {v : Value} (hj : ops[j]? = some oj) (hap : oi.apart ops oj = true)
    (hsi : ∀ cs b, oi.op ≠ .select cs b) (hsj : ∀ cs b, oj.op ≠ .select cs b)
    (hQ : ∀ c a w, Q (.panic c) (a.put oi.dst v) w → Q (.panic c) a w) {K : Act → World → Prop} {a : Act} {w : World}
    (hy : Yl C P ops oi v a) (h : wpOp P ops Q j K (a.put oi.dst v) w) : wpOp P ops Q j (fun a' w' => Yl C P ops oi v a' ∧ K (a'.put oi.dst v) w') a w := by
  have hy0 : YieldsIf P ops (fun _ => False) oi v a := hy.imp (fun h => ⟨h.1, fun _ hf => hf.elim⟩) id
  refine wpOp_mono ?_ (wpOp_moves hj (wpOp_putIf hj hap hsi hsj hQ hy0 h))
  rintro a' w' ⟨⟨_, hK⟩, u, ds, rfl⟩
  have h3 := (Oper.apart_spec hap).2.2
  exact ⟨Yl.of_same hy ((execOp_put oi hsi _ oj.dst u h3).trans rfl) ((wanted_put oi _ oj.dst u h3).trans rfl), hK⟩
/-- Of what is not done yet, all but what waits for operation i is apart from it. -/
def Alone (ops : Array Oper) (i : Nat) (oi : Oper) (l : Array Bool) : Prop :=
  ∀ j oj, ops[j]? = some oj → j ≠ i → l.getD j true = false → (∀ e ∈ oj.after, Region.binds .any e = true → e.on ≠ i) → oi.apart ops oj = true
theorem Alone.next {i j : Nat} {oi : Oper} {l : Array Bool} (h : Alone ops i oi l) (hj : l.getD j true = false) : Alone ops i oi (l.setIfInBounds j true) := by
  intro k ok hk hki hun
  by_cases hjk : j = k
  · exact h k ok hk hki (hjk ▸ hj)
  · exact h k ok hk hki (by rwa [getD_set_ne true hjk] at hun)
theorem undone {l : Array Bool} {i : Nat} (h : l.getD i true = false) : ¬ l.getD i false = true := by
  simp only [Array.getD_eq_getD_getElem?] at *
  cases hl : l[i]? <;> simp_all
/-- A quiet operation that may come up may be taken first. -/
theorem sAny_first (hC : ∀ w w', C w → Keep [] w w' → C w') {i : Nat} {oi : Oper} {v : Value} (hi : ops[i]? = some oi) (hsel : ∀ (j : Nat) (o : Oper) cs b, ops[j]? = some o → o.op ≠ .select cs b)
    (hQ : ∀ c a w, Q (.panic c) (a.put oi.dst v) w → Q (.panic c) a w) : ∀ (f : Nat) (l : Array Bool) (a : Act) (w : World), Alone ops i oi l → i ∈ Region.ready .any ops l → Yl C P ops oi v a → C w →
      sAny C P ops Q f (l.setIfInBounds i true) (a.put oi.dst v) w → sAny C P ops Q (f + 1) l a w
  | f, l, a, w, hal, hr, hy, hw, H => by
    refine ⟨hw, fun w1 hk => ⟨fun h0 => (by rw [h0] at hr; cases hr), fun j hj => ?_⟩⟩
    have H1 := sAny.keep hC H hk
    by_cases hji : j = i
    · rw [hji]; exact hy.op hC hi (hC _ _ hw hk) fun _ hk' => sAny.keep hC H1 hk'
    have hj' := ready_mono hj hji
    match f, H1 with
    | 0, H1 => rw [H1.2.1] at hj'; cases hj'
    | f + 1, H1 =>
      obtain ⟨hjn, oj, hoj, hall⟩ := mem_ready.1 hj
      have hap := hal j oj hoj hji hjn fun e he hb heq => undone (mem_ready.1 hr).1 (heq ▸ hall e he hb)
      refine wpOp_mono (fun a2 w2 h => ?_) (wpOp_putY hoj hap (fun cs b => hsel i oi cs b hi) (fun cs b => hsel j oj cs b hoj) hQ hy ((H1.2 w1 (Keep.refl _ _)).2 j hj'))
      exact sAny_first hC hi hsel hQ f (l.setIfInBounds j true) a2 w2 (hal.next hjn) (ready_mono hr (Ne.symm hji)) h.1 h.2.c (by rw [Array.setIfInBounds_comm _ _ hji]; exact h.2)

/-- Midway in a region that draws its order: the operations of l are done; Ls stays to the end. -/
def WH (P : Program) (w0 : World) (X : List Nat) (N : Nat) (ops : Array Oper) (Q : Exit → Act → World → Prop) (Ls : List Res) (f : Nat) (l : Array Bool) (fr : Fr) (L : List Res) : Prop :=
  ∀ a w, As N fr a → St w0 X w L → sAny (fun w => St w0 X w Ls) P ops Q f l a w
def AnyQ (C : World → Prop) (P : Program) (ops : Array Oper) (Q : Exit → Act → World → Prop) (f : Nat) (l : Array Bool) : Exit → Act → World → Prop
  | .normal, a, w => sAny C P ops Q f l a w
  | .exit i, a, w => Q (.exit i) a w
  | .goto i, a, w => Q (.goto i) a w
  | .ret, a, w => Q .ret a w
  | .panic c, a, w => Q (.panic c) a w
  | .outgrown, a, w => Q .outgrown a w
variable {Ls : List Res} {f : Nat} {l : Array Bool}
theorem WC.drawsX {id : Nat} {l : List Oper} (Ls : List Res) (hm : P.follows .mixedOrders = true) (h : WH P w0 X N l.toArray Q Ls l.length (Array.replicate l.length false) fr L) : WC P w0 X N Q (Code.region id l.toArray true) fr L :=
  fun a w ha hs => wp_region_any hm (by simpa using sAny.wp (h a _ ha (hs.of_keep (Keep.drew _ _))))
theorem WH.quiet (i : Nat) {o : Oper} (hL : Ls.Sublist L) (hf : (Region.noSelect ops && Region.free .any ops l i && (Region.ready .any ops l).contains i) = true) (hi : ops[i]? = some o)
    (hQ : ∀ c a d v w, Q (.panic c) (a.put d v) w → Q (.panic c) a w)
    (h : WL true P w0 X N ops (fun _ a' _ => ∃ fr', As N fr' a' ∧ WH P w0 X N ops Q Ls f (l.setIfInBounds i true) fr' L) [o] fr Ls) : WH P w0 X N ops Q Ls (f + 1) l fr L := by
  intro a w ha hs
  simp only [Bool.and_eq_true] at hf
  obtain ⟨⟨hsel, hf⟩, hr⟩ := hf
  have hC : ∀ w w', St w0 X w Ls → Keep [] w w' → St w0 X w' Ls := fun _ _ h hk => h.of_keep hk
  have h1 : wpQ P ops _ _ [o] a := h a w ha (hs.sub hL)
  unfold wpQ at h1
  have h2 : ∃ v, Yl (fun w => St w0 X w Ls) P ops o v a ∧ ∃ fr', As N fr' (a.put o.dst v) ∧ WH P w0 X N ops Q Ls f (l.setIfInBounds i true) fr' L := by
    split at h1
    · rename_i hw
      obtain ⟨v, hv, h1⟩ := h1
      exact ⟨v, .inl ⟨hw, hv⟩, h1 w (hs.sub hL)⟩
    · rename_i hw
      exact ⟨undef, .inr ⟨by simpa using hw, rfl⟩, h1 w (hs.sub hL)⟩
  obtain ⟨v, hy, fr', ha', h3⟩ := h2
  exact sAny_first hC hi (Region.noSelect_spec hsel) (fun c a w => hQ c a o.dst v w) f l a w (Region.free_spec hi hf) (by simpa using hr) hy (hs.sub hL) (h3 _ _ ha' hs)
theorem WQ.held {L' : List Res} {e : Exit} {K : Fr → Prop} (h : K fr) : WQ w0 X N (fun _ a' _ => ∃ fr', As N fr' a' ∧ K fr') e fr L' := fun _ _ ha _ => ⟨fr, ha, h⟩
theorem WH.done (hL : Ls.Sublist L) (hr : Region.ready .any ops l = []) (h : WQ w0 X N Q .normal fr L) : WH P w0 X N ops Q Ls f l fr L := by
  intro a w ha hs
  cases f with
  | zero => exact ⟨hs.sub hL, hr, fun w' hk => h a w' ha (hs.of_keep hk)⟩
  | succ f => exact ⟨hs.sub hL, fun w' hk => ⟨fun _ => h a w' ha (hs.of_keep hk), by rw [hr]; simp⟩⟩
theorem wpOp_of_list {i : Nat} {o : Oper} {a : Act} {w : World} (hi : ops[i]? = some o) (h : wpList P ops (AnyQ C P ops Q f l) [o] a w) : wpOp P ops Q i (sAny C P ops Q f l) a w := by
  unfold wpOp
  simp only [hi]
  unfold wpList at h
  split
  · rename_i hw
    rw [if_pos hw] at h
    refine h.imp (fun h => ?_) (fun h => ⟨h.1, h.2⟩)
    unfold Oper.wp at *
    generalize (execOp a.eval o).run P w = r at *
    cases r with
    | ok n w' =>
      cases n <;> simp only [Oper.upon] at h ⊢ <;> first | exact h | exact Calls.mono h fun e w'' he => by cases e <;> exact he
    | halt x w' => cases x <;> simp only [Oper.upon] at h ⊢ <;> exact h
  · rename_i hw
    rw [if_neg hw] at h
    exact h
theorem WH.run (i : Nat) {o : Oper} (hL : Ls.Sublist L) (hr : Region.ready .any ops l = [i]) (hi : ops[i]? = some o)
    (h : WL false P w0 X N ops (AnyQ (fun w => St w0 X w Ls) P ops Q f (l.setIfInBounds i true)) [o] fr L) : WH P w0 X N ops Q Ls (f + 1) l fr L := by
  intro a w ha hs
  refine ⟨hs.sub hL, fun w' hk => ⟨fun h0 => (by rw [hr] at h0; cases h0), fun j hj => ?_⟩⟩
  rw [hr] at hj
  simp only [List.mem_singleton] at hj
  subst hj
  exact wpOp_of_list hi (h a w' ha (hs.of_keep hk))
theorem WH.run2 (i j : Nat) {o o' : Oper} (hL : Ls.Sublist L) (hr : Region.ready .any ops l = [i, j]) (hi : ops[i]? = some o) (hj : ops[j]? = some o')
    (h : WL false P w0 X N ops (AnyQ (fun w => St w0 X w Ls) P ops Q f (l.setIfInBounds i true)) [o] fr L)
    (h' : WL false P w0 X N ops (AnyQ (fun w => St w0 X w Ls) P ops Q f (l.setIfInBounds j true)) [o'] fr L) : WH P w0 X N ops Q Ls (f + 1) l fr L := by
  intro a w ha hs
  refine ⟨hs.sub hL, fun w' hk => ⟨fun h0 => (by rw [hr] at h0; cases h0), fun k hk' => ?_⟩⟩
  rw [hr] at hk'
  simp only [List.mem_cons, List.not_mem_nil, or_false] at hk'
  rcases hk' with rfl | rfl
  · exact wpOp_of_list hi (h a w' ha (hs.of_keep hk))
  · exact wpOp_of_list hj (h' a w' ha (hs.of_keep hk))
theorem WQ.any (h : WH P w0 X N ops Q Ls f l fr L) : WQ w0 X N (AnyQ (fun w => St w0 X w Ls) P ops Q f l) .normal fr L := h
end
section
variable {q : Bool} {P : Program} {w0 : World} {X : List Nat} {N : Nat} {ops : Array Oper} {Q : Exit → Act → World → Prop} {rest : List Oper} {fr : Fr} {L : List Res}
theorem WC.skip (h : WQ w0 X N Q .normal fr L) : WC P w0 X N Q Code.skip fr L := fun a w ha hs => wp_skip (h a w ha hs)
theorem WC.ret (h : WQ w0 X N Q .ret fr L) : WC P w0 X N Q Code.ret fr L := fun a w ha hs => wp_ret (h a w ha hs)
theorem WC.exit {id : Nat} (h : WQ w0 X N Q (.exit id) fr L) : WC P w0 X N Q (Code.exit id) fr L := fun a w ha hs => wp_exit (h a w ha hs)
theorem WC.block {id : Nat} {c : Code} (h : WC P w0 X N (Exit.inBlock id Q) c fr L) : WC P w0 X N Q (Code.block id c) fr L :=
  fun a w ha hs => wp_block (h a w ha hs)
theorem WC.cond {c : Operand} {x y : Code} {b : Bool} (hc : ev fr c = some (.bool b)) (ht : b = true → WC P w0 X N Q x fr L) (hf : b = false → WC P w0 X N Q y fr L) :
    WC P w0 X N Q (Code.cond c x y) fr L :=
  fun a w ha hs => wp_cond_split (ha.ev hc) (fun h => ht h a w ha hs) (fun h => hf h a w ha hs)
theorem WC.cond_true {c : Operand} {x y : Code} (hc : ev fr c = some (.bool true)) (h : WC P w0 X N Q x fr L) : WC P w0 X N Q (Code.cond c x y) fr L :=
  fun a w ha hs => wp_cond_true (ha.ev hc) (h a w ha hs)
theorem WC.cond_false {c : Operand} {x y : Code} (hc : ev fr c = some (.bool false)) (h : WC P w0 X N Q y fr L) : WC P w0 X N Q (Code.cond c x y) fr L :=
  fun a w ha hs => wp_cond_false (ha.ev hc) (h a w ha hs)

/-- What holds at the head of a loop, at x. -/
structure Inv {A : Type} (G : A → Prop) (frI : A → Fr) (LI : A → List Res) (w0 : World) (X : List Nat) (N : Nat) (ok : A → Prop) (a : Act) (w : World) : Prop where
  ex : ∃ y, G y ∧ ok y ∧ As N (frI y) a ∧ St w0 X w (LI y)

theorem WC.loop {A : Type} (G : A → Prop) (frI : A → Fr) (LI : A → List Res) (μ : A → Nat) {c : Code}
    (h0 : ∀ a w, As N fr a → St w0 X w L → ∃ y, G y ∧ As N (frI y) a ∧ St w0 X w (LI y))
    (round : ∀ x, G x → WC P w0 X N (Exit.then (Inv G frI LI w0 X N (fun y => μ y < μ x)) Q) c (frI x) (LI x)) : WC P w0 X N Q (Code.loop c) fr L := by
  intro a w ha hs b k cs
  have key : ∀ n x a w, μ x = n → G x → As N (frI x) a → St w0 X w (LI x) →
      ∃ e a' w', Q e a' w' ∧ Arrives P (lone (b.at a (.code c :: .inLoop c :: k)) cs w) b k cs e a' w' := by
    intro n
    induction n using Nat.strongRecOn with
    | _ n ih =>
      intro x a w hn hG hA hS
      obtain ⟨e, a₁, w₁, hq, harr⟩ := round x hG a w hA hS b (.inLoop c :: k) cs
      cases e with
      | normal =>
        obtain ⟨⟨y, hy, hlt, hA', hS'⟩⟩ := hq
        obtain ⟨e₂, a₂, w₂, hq₂, harr₂⟩ := ih (μ y) (hn ▸ hlt) y a₁ w₁ rfl hy hA' hS'
        exact ⟨e₂, a₂, w₂, hq₂, .of_steps (Steps.trans harr (.one step_inLoop)) harr₂⟩
      | exit id => exact ⟨_, a₁, w₁, hq, .pass (x := .inLoop c) rfl (fun _ _ => .inl (by simp)) harr⟩
      | goto l => exact ⟨_, a₁, w₁, hq, .pass (x := .inLoop c) rfl (fun _ _ => .inl (by simp)) harr⟩
      | ret => exact ⟨_, a₁, w₁, hq, .pass (x := .inLoop c) rfl (fun _ _ => .inl (by simp)) harr⟩
      | panic ch => exact ⟨_, a₁, w₁, hq, .pass (x := .inLoop c) rfl (fun _ _ => .inl (by simp)) harr⟩
      | outgrown => exact ⟨_, a₁, w₁, hq, .pass (x := .inLoop c) rfl (fun _ _ => .inl (by simp)) harr⟩
  obtain ⟨y, hG, hA, hS⟩ := h0 a w ha hs
  obtain ⟨e, a', w', hq, harr⟩ := key _ y a w rfl hG hA hS
  exact ⟨e, a', w', hq, .of_steps (.one step_loop) harr⟩

/-! ### exits -/
theorem WQ.then_normal {y : Code} {Q' : Exit → Act → World → Prop} (h : WC P w0 X N Q' y fr L) : WQ w0 X N (Exit.then (y.wp P Q') Q) .normal fr L := fun a w ha hs => h a w ha hs
theorem WQ.then_ret {K : Act → World → Prop} (h : WQ w0 X N Q .ret fr L) : WQ w0 X N (Exit.then K Q) .ret fr L := fun a w ha hs => h a w ha hs
theorem WQ.then_exit {K : Act → World → Prop} {id : Nat} (h : WQ w0 X N Q (.exit id) fr L) : WQ w0 X N (Exit.then K Q) (.exit id) fr L := fun a w ha hs => h a w ha hs
theorem WQ.block_normal {id : Nat} (h : WQ w0 X N Q .normal fr L) : WQ w0 X N (Exit.inBlock id Q) .normal fr L := fun a w ha hs => h a w ha hs
theorem WQ.block_ret {id : Nat} (h : WQ w0 X N Q .ret fr L) : WQ w0 X N (Exit.inBlock id Q) .ret fr L := fun a w ha hs => h a w ha hs
theorem WQ.block_here {id : Nat} (h : WQ w0 X N Q .normal fr L) : WQ w0 X N (Exit.inBlock id Q) (.exit id) fr L := fun a w ha hs => by
  show if id = id then _ else _
  rw [if_pos rfl]; exact h a w ha hs
theorem WQ.block_far {id id' : Nat} (hne : Nat.beq id' id = false) (h : WQ w0 X N Q (.exit id') fr L) : WQ w0 X N (Exit.inBlock id Q) (.exit id') fr L := fun a w ha hs => by
  show if id' = id then _ else _
  rw [if_neg (by rintro rfl; simp at hne)]; exact h a w ha hs
/-- The end of a round: the relation of the loop at y. -/
theorem WQ.again {A : Type} {G : A → Prop} {frI : A → Fr} {LI : A → List Res} {ok : A → Prop} (y : A) (hG : G y) (hok : ok y)
    (hfr : ∀ i v, (frI y).get i = some v → fr.get i = some v) (hL : ∀ w, St w0 X w L → St w0 X w (LI y)) :
    WQ w0 X N (Exit.then (Inv G frI LI w0 X N ok) Q) .normal fr L := fun _ w ha hs => ⟨⟨y, hG, hok, ha.sub hfr, hL w hs⟩⟩

/-- The frame fr holds all that fr' says. -/
def Fr.le : Fr → Fr → Prop
  | [], _ => True
  | (i, v) :: r, fr => fr.get i = some v ∧ Fr.le r fr
theorem Fr.le.get {fr : Fr} : ∀ {fr' : Fr}, Fr.le fr' fr → ∀ i v, fr'.get i = some v → fr.get i = some v
  | [], _, i, v, hi => by simp [Fr.get] at hi
  | (j, u) :: r, h, i, v, hi => by
    simp only [Fr.get] at hi
    split at hi
    · rename_i hb
      have : j = i := Nat.eq_of_beq_eq_true hb
      subst this
      simp only [Option.some.injEq] at hi
      subst hi
      exact h.1
    · exact Fr.le.get h.2 i v hi

theorem WC.sub {c : Code} {fr' : Fr} {L' : List Res} (hfr : Fr.le fr' fr) (hL : ∀ w, St w0 X w L → St w0 X w L') (h : WC P w0 X N Q c fr' L') : WC P w0 X N Q c fr L :=
  fun a w ha hs => h a w (ha.sub hfr.get) (hL w hs)
theorem WL.sub {fr' : Fr} {L' : List Res} (hfr : Fr.le fr' fr) (hL : ∀ w, St w0 X w L → St w0 X w L') (h : WL false P w0 X N ops Q rest fr' L') : WL false P w0 X N ops Q rest fr L :=
  fun a w ha hs => h a w (ha.sub hfr.get) (hL w hs)
theorem WL.weak {fr' : Fr} (hfr : Fr.le fr' fr) (h : WL q P w0 X N ops Q rest fr' L) : WL q P w0 X N ops Q rest fr L :=
  fun a w ha hs => h a w (ha.sub hfr.get) hs

/-! ### operations: the frame of each -/
theorem WL.step {o : Oper} (hg : o.guard = none) (h : ∀ a w, As N fr a → St w0 X w L → o.wp P a w (wpList P ops Q rest) Q) : WL false P w0 X N ops Q (o :: rest) fr L := by
  intro a w ha hs
  unfold wpList
  rw [if_pos (by simp [Region.wanted, hg])]
  exact .inl (h a w ha hs)

/-- An operation that yields a value, one in all worlds, and leaves the world alone. -/
theorem WL.picks {o : Oper} {d : Nat} {B : Type} {G : B → Prop} {v : B → Value} (hg : o.guard = none) (hd : o.dst = some d) (hN : Nat.ble (d + 1) N = true)
    (hr : ∀ a w, As N fr a → St w0 X w L → ∃ x, G x ∧ ∀ w', St w0 X w' L → (execOp a.eval o).run P w' = .ok (.value (v x)) w') (k : ∀ x, G x → WL q P w0 X N ops Q rest ((d, v x) :: fr) L) : WL q P w0 X N ops Q (o :: rest) fr L := by
  intro a w ha hs
  obtain ⟨x, hG, h⟩ := hr a w ha hs
  have hk := k x hG _ w (ha.put (Nat.le_of_ble_eq_true hN) (v x)) hs
  cases q with
  | false =>
    show wpList P ops Q (o :: rest) a w
    unfold wpList
    rw [if_pos (by simp [Region.wanted, hg])]
    refine .inl ?_
    unfold Oper.wp
    rw [h w hs, Oper.upon_value, hd]
    exact hk
  | true =>
    show wpQ P ops _ _ (o :: rest) a
    unfold wpQ
    rw [if_pos (by simp [Region.wanted, hg])]
    refine ⟨v x, fun w' hw' => ?_, by rw [hd]; exact hk⟩
    unfold Oper.quietAt
    rw [h w' hw']
    exact ⟨rfl, rfl⟩
theorem WL.value {o : Oper} {d : Nat} {v : Value} (hg : o.guard = none) (hd : o.dst = some d) (hN : Nat.ble (d + 1) N = true)
    (hr : ∀ a w, As N fr a → St w0 X w L → (execOp a.eval o).run P w = .ok (.value v) w) (k : WL q P w0 X N ops Q rest ((d, v) :: fr) L) : WL q P w0 X N ops Q (o :: rest) fr L :=
  WL.picks (B := Unit) (G := fun _ => True) (v := fun _ => v) hg hd hN (fun a _ ha _ => ⟨(), trivial, fun w' hw' => hr a w' ha hw'⟩) (fun _ _ => k)

/-- An operation that yields some value and turns the world. -/
theorem WL.makes {o : Oper} {d : Nat} {B : Type} {G : B → Prop} {v : B → Value} {L' : B → List Res} (hg : o.guard = none) (hd : o.dst = some d) (hN : Nat.ble (d + 1) N = true)
    (hr : ∀ a w, As N fr a → St w0 X w L → ∃ x w', (execOp a.eval o).run P w = .ok (.value (v x)) w' ∧ G x ∧ St w0 X w' (L' x)) (k : ∀ x, G x → WL false P w0 X N ops Q rest ((d, v x) :: fr) (L' x)) :
    WL false P w0 X N ops Q (o :: rest) fr L := by
  refine WL.step hg fun a w ha hs => ?_
  unfold Oper.wp
  obtain ⟨x, w', h1, hG, h2⟩ := hr a w ha hs
  rw [h1, Oper.upon_value, hd]
  exact k x hG _ _ (ha.put (Nat.le_of_ble_eq_true hN) (v x)) h2

theorem WL.writes {o : Oper} {L' : List Res} (hg : o.guard = none) (hd : o.dst = none)
    (hr : ∀ a w, As N fr a → St w0 X w L → ∃ w', (execOp a.eval o).run P w = .ok .skip w' ∧ St w0 X w' L') (k : WL false P w0 X N ops Q rest fr L') :
    WL false P w0 X N ops Q (o :: rest) fr L := by
  refine WL.step hg fun a w ha hs => ?_
  unfold Oper.wp
  obtain ⟨w', h1, h2⟩ := hr a w ha hs
  rw [h1, Oper.upon_skip, hd]
  exact k _ _ ha h2

variable {d ty : Nat} {ps : String} {af : Array Edge}

/-! ### guards -/
theorem As.yields {a : Act} {j dj : Nat} {oj : Oper} {b : Bool} (ha : As N fr a) (hj : ops[j]? = some oj) (hdj : oj.dst = some dj) (hN : Nat.ble (dj + 1) N = true) (hb : fr.get dj = some (.bool b)) :
    yielded ops a.tmps j = some b := by
  have hlt : dj < a.tmps.size := by rw [ha.size]; exact Nat.le_of_ble_eq_true hN
  have := ha.get dj _ hb
  simp [Array.getD_eq_getD_getElem?, hlt] at this
  simp [yielded, hj, hdj, hlt, this]

theorem WL.take {dst : Option Nat} {op : Op} {j dj : Nat} {want : Bool} {oj : Oper} (hj : ops[j]? = some oj) (hdj : oj.dst = some dj) (hN : Nat.ble (dj + 1) N = true) (hb : fr.get dj = some (.bool want))
    (k : WL q P w0 X N ops Q (⟨dst, op, ty, ps, af, none⟩ :: rest) fr L) : WL q P w0 X N ops Q (⟨dst, op, ty, ps, af, some (j, want)⟩ :: rest) fr L := by
  intro a w ha hs
  have := k a w ha hs
  cases q with
  | false =>
    show wpList P ops Q (_ :: rest) a w
    have this : wpList P ops Q (_ :: rest) a w := this
    unfold wpList at this ⊢
    rw [if_pos (by simp [Region.wanted])] at this
    rw [if_pos (by simp [Region.wanted, ha.yields hj hdj hN hb])]
    exact this
  | true =>
    show wpQ P ops _ _ (_ :: rest) a
    have this : wpQ P ops _ _ (_ :: rest) a := this
    unfold wpQ at this ⊢
    rw [if_pos (by simp [Region.wanted])] at this
    rw [if_pos (by simp [Region.wanted, ha.yields hj hdj hN hb])]
    exact this

theorem WL.pass {op : Op} {j dj : Nat} {want b : Bool} {oj : Oper} (hj : ops[j]? = some oj) (hdj : oj.dst = some dj) (hN : Nat.ble (dj + 1) N = true) (hb : fr.get dj = some (.bool b)) (hne : (b == want) = false)
    (hd : Nat.ble (d + 1) N = true) (k : WL q P w0 X N ops Q rest ((d, undef) :: fr) L) : WL q P w0 X N ops Q (⟨some d, op, ty, ps, af, some (j, want)⟩ :: rest) fr L := by
  intro a w ha hs
  have hk := k _ w (ha.put (Nat.le_of_ble_eq_true hd) undef) hs
  cases q with
  | false =>
    show wpList P ops Q (_ :: rest) a w
    unfold wpList
    rw [if_neg (by simp [Region.wanted, ha.yields hj hdj hN hb]; simpa using hne)]
    exact hk
  | true =>
    show wpQ P ops _ _ (_ :: rest) a
    unfold wpQ
    rw [if_neg (by simp [Region.wanted, ha.yields hj hdj hN hb]; simpa using hne)]
    exact hk

def notBool : Value → Bool
  | .bool _ => false
  | _ => true
/-- The guard's own operation was passed over. -/
theorem WL.passU {op : Op} {j dj : Nat} {want : Bool} {oj : Oper} {v : Value} (hj : ops[j]? = some oj) (hdj : oj.dst = some dj) (hN : Nat.ble (dj + 1) N = true) (hb : fr.get dj = some v) (hv : notBool v = true)
    (hd : Nat.ble (d + 1) N = true) (k : WL q P w0 X N ops Q rest ((d, undef) :: fr) L) : WL q P w0 X N ops Q (⟨some d, op, ty, ps, af, some (j, want)⟩ :: rest) fr L := by
  intro a w ha hs
  have hk := k _ w (ha.put (Nat.le_of_ble_eq_true hd) undef) hs
  have hy : yielded ops a.tmps j = none := by
    have hlt : dj < a.tmps.size := by rw [ha.size]; exact Nat.le_of_ble_eq_true hN
    have := ha.get dj _ hb
    simp [Array.getD_eq_getD_getElem?, hlt] at this
    simp only [yielded, hj, Option.bind_some, hdj, Array.getElem?_eq_getElem hlt, this]
    cases v <;> first | rfl | simp [notBool] at hv
  cases q with
  | false =>
    show wpList P ops Q (_ :: rest) a w
    unfold wpList
    rw [if_neg (by simp [Region.wanted, hy])]
    exact hk
  | true =>
    show wpQ P ops _ _ (_ :: rest) a
    unfold wpQ
    rw [if_neg (by simp [Region.wanted, hy])]
    exact hk

/-- Both ways of a bool in a slot. -/
theorem WL.split (i : Nat) {b : Bool} (hb : fr.get i = some (.bool b)) (ht : b = true → WL q P w0 X N ops Q rest ((i, .bool true) :: fr) L) (hf : b = false → WL q P w0 X N ops Q rest ((i, .bool false) :: fr) L) :
    WL q P w0 X N ops Q rest fr L := by
  intro a w ha hs
  have put : ∀ v, b = v → As N ((i, .bool v) :: fr) a := by
    rintro v rfl
    refine ha.sub fun k u hk => ?_
    simp only [Fr.get] at hk
    split at hk
    · rename_i hbq
      have := Nat.eq_of_beq_eq_true hbq
      subst this
      rw [← hk]; exact hb
    · exact hk
  cases b
  · exact hf rfl a w (put _ rfl) hs
  · exact ht rfl a w (put _ rfl) hs

/-! ### plain operations -/
theorem WL.move {x : Operand} {v : Value} (hx : ev fr x = some v) (hN : Nat.ble (d + 1) N = true) (k : WL q P w0 X N ops Q rest ((d, v) :: fr) L) :
    WL q P w0 X N ops Q (⟨some d, .move x, ty, ps, af, none⟩ :: rest) fr L :=
  WL.value rfl rfl hN (fun a w ha _ => by simp [execOp, ha.ev hx]) k
theorem WL.assign {x : Operand} {v : Value} (hx : ev fr x = some v) (hN : Nat.ble (d + 1) N = true) (k : WL q P w0 X N ops Q rest ((d, v) :: fr) L) :
    WL q P w0 X N ops Q (⟨some d, .assign x, ty, ps, af, none⟩ :: rest) fr L :=
  WL.value rfl rfl hN (fun a w ha _ => by simp [execOp, ha.ev hx]) k
theorem WL.pick_true {c x y : Operand} {v : Value} (hc : ev fr c = some (.bool true)) (hx : ev fr x = some v) (hN : Nat.ble (d + 1) N = true) (k : WL q P w0 X N ops Q rest ((d, v) :: fr) L) :
    WL q P w0 X N ops Q (⟨some d, .pick c x y, ty, ps, af, none⟩ :: rest) fr L :=
  WL.value rfl rfl hN (fun a w ha _ => by simp [execOp, ha.ev hx, ha.ev hc, asBool]) k
theorem WL.pick_false {c x y : Operand} {v : Value} (hc : ev fr c = some (.bool false)) (hy : ev fr y = some v) (hN : Nat.ble (d + 1) N = true) (k : WL q P w0 X N ops Q rest ((d, v) :: fr) L) :
    WL q P w0 X N ops Q (⟨some d, .pick c x y, ty, ps, af, none⟩ :: rest) fr L :=
  WL.value rfl rfl hN (fun a w ha _ => by simp [execOp, ha.ev hy, ha.ev hc, asBool]) k
theorem WL.not {x : Operand} {b : Bool} {t : Nat} (hx : ev fr x = some (.bool b)) (hN : Nat.ble (d + 1) N = true) (k : WL q P w0 X N ops Q rest ((d, .bool (!b)) :: fr) L) :
    WL q P w0 X N ops Q (⟨some d, .unOp .not t x, ty, ps, af, none⟩ :: rest) fr L :=
  WL.value rfl rfl hN (fun a w ha _ => by simp [execOp, ha.ev hx, Op.unary]) k
theorem WL.neg {x : Operand} {n : Int} {t : Nat} (hx : ev fr x = some (.int .i64 n)) (hN : Nat.ble (d + 1) N = true) (hb : -9223372036854775808 < n ∧ n ≤ 9223372036854775807)
    (k : WL q P w0 X N ops Q rest ((d, .int .i64 (-n)) :: fr) L) : WL q P w0 X N ops Q (⟨some d, .unOp .neg t x, ty, ps, af, none⟩ :: rest) fr L :=
  WL.value rfl rfl hN (fun a w ha _ => by
    have e : IntKind.i64.wrap (-n) = -n := IntWalk.i64_in _ (by omega)
    simp [execOp, ha.ev hx, Op.unary, Op.intArith, e]) k
def nthV : List Value → Nat → Option Value
  | [], _ => none
  | v :: _, 0 => some v
  | _ :: r, n + 1 => nthV r n
theorem nthV_eq : ∀ (l : List Value) (i : Nat), nthV l i = l[i]?
  | [], _ => rfl
  | _ :: _, 0 => rfl
  | _ :: r, n + 1 => by rw [List.getElem?_cons_succ]; exact nthV_eq r n
theorem WL.extract {x : Operand} {l : List Value} {i : Nat} {v : Value} (hx : ev fr x = some (.tuple l.toArray)) (hv : nthV l i = some v) (hN : Nat.ble (d + 1) N = true) (k : WL q P w0 X N ops Q rest ((d, v) :: fr) L) :
    WL q P w0 X N ops Q (⟨some d, .extract x i, ty, ps, af, none⟩ :: rest) fr L :=
  WL.value rfl rfl hN (fun a w ha _ => by
    have h : l.toArray[i]? = some v := by rw [List.getElem?_toArray, ← nthV_eq]; exact hv
    simp only [execOp, ha.ev hx, Instr.extract, h]
    rfl) k

theorem run_guard_int (op : BinOp) (t : TypeId) (x y : Operand) (k1 k2 : IntKind) (a b : Int) (w : World) : (eqGuard op t x y (.int k1 a) (.int k2 b)).run P w = .ok () w := by
  cases op <;> simp [eqGuard]
theorem run_guard_bool (op : BinOp) (t : TypeId) (x y : Operand) (a b : Bool) (w : World) : (eqGuard op t x y (.bool a) (.bool b)).run P w = .ok () w := by
  cases op <;> simp [eqGuard]

theorem WL.add {x y : Operand} {n m : Int} {t t' : Nat} (hx : ev fr x = some (.int .i64 n)) (hy : ev fr y = some (.int .i64 m)) (hN : Nat.ble (d + 1) N = true)
    (hb : -9223372036854775808 ≤ n + m ∧ n + m ≤ 9223372036854775807) (k : WL q P w0 X N ops Q rest ((d, .int .i64 (n + m)) :: fr) L) :
    WL q P w0 X N ops Q (⟨some d, .binOp .add t x y t', ty, ps, af, none⟩ :: rest) fr L :=
  WL.value rfl rfl hN (fun a w ha _ => by
    have e : IntKind.i64.wrap (n + m) = n + m := IntWalk.i64_in _ hb
    simp [execOp, ha.ev hx, ha.ev hy, binOp, Op.intArith, e, run_guard_int]) k
theorem WL.sub_ {x y : Operand} {n m : Int} {t t' : Nat} (hx : ev fr x = some (.int .i64 n)) (hy : ev fr y = some (.int .i64 m)) (hN : Nat.ble (d + 1) N = true)
    (hb : -9223372036854775808 ≤ n - m ∧ n - m ≤ 9223372036854775807) (k : WL q P w0 X N ops Q rest ((d, .int .i64 (n - m)) :: fr) L) :
    WL q P w0 X N ops Q (⟨some d, .binOp .sub t x y t', ty, ps, af, none⟩ :: rest) fr L :=
  WL.value rfl rfl hN (fun a w ha _ => by
    have e : IntKind.i64.wrap (n - m) = n - m := IntWalk.i64_in _ hb
    simp [execOp, ha.ev hx, ha.ev hy, binOp, Op.intArith, e, run_guard_int]) k
theorem WL.mul {x y : Operand} {n m : Int} {t t' : Nat} (hx : ev fr x = some (.int .i64 n)) (hy : ev fr y = some (.int .i64 m)) (hN : Nat.ble (d + 1) N = true)
    (hb : -9223372036854775808 ≤ n * m ∧ n * m ≤ 9223372036854775807) (k : WL q P w0 X N ops Q rest ((d, .int .i64 (n * m)) :: fr) L) :
    WL q P w0 X N ops Q (⟨some d, .binOp .mul t x y t', ty, ps, af, none⟩ :: rest) fr L :=
  WL.value rfl rfl hN (fun a w ha _ => by
    have e : IntKind.i64.wrap (n * m) = n * m := IntWalk.i64_in _ hb
    simp [execOp, ha.ev hx, ha.ev hy, binOp, Op.intArith, e, run_guard_int]) k
theorem WL.quo {x y : Operand} {n m : Int} {t t' : Nat} (hx : ev fr x = some (.int .i64 n)) (hy : ev fr y = some (.int .i64 m)) (hN : Nat.ble (d + 1) N = true)
    (hb : 0 ≤ n ∧ n ≤ 9223372036854775807 ∧ 0 < m) (k : WL q P w0 X N ops Q rest ((d, .int .i64 (n / m)) :: fr) L) :
    WL q P w0 X N ops Q (⟨some d, .binOp .quo t x y t', ty, ps, af, none⟩ :: rest) fr L :=
  WL.value rfl rfl hN (fun a w ha _ => by
    have hm : m ≠ 0 := by omega
    have e0 : n.tdiv m = n / m := Int.tdiv_eq_ediv_of_nonneg hb.1
    have h1 : 0 ≤ n / m := Int.ediv_nonneg hb.1 (by omega)
    have h2 : n / m ≤ n := Int.ediv_le_self _ hb.1
    have e : IntKind.i64.wrap (n / m) = n / m := IntWalk.i64_in _ (by omega)
    simp [execOp, ha.ev hx, ha.ev hy, binOp, Op.intDiv, hm, e0, e, run_guard_int]) k
theorem WL.rem {x y : Operand} {n m : Int} {t t' : Nat} (hx : ev fr x = some (.int .i64 n)) (hy : ev fr y = some (.int .i64 m)) (hN : Nat.ble (d + 1) N = true)
    (hb : m ≠ 0) (k : WL q P w0 X N ops Q rest ((d, .int .i64 (n.tmod m)) :: fr) L) :
    WL q P w0 X N ops Q (⟨some d, .binOp .rem t x y t', ty, ps, af, none⟩ :: rest) fr L :=
  WL.value rfl rfl hN (fun a w ha _ => by
    simp [execOp, ha.ev hx, ha.ev hy, binOp, Op.intDiv, hb, run_guard_int]) k
theorem WL.remp {x y : Operand} {n m : Int} {t t' : Nat} (hx : ev fr x = some (.int .i64 n)) (hy : ev fr y = some (.int .i64 m)) (hN : Nat.ble (d + 1) N = true)
    (hb : 0 ≤ n ∧ m ≠ 0) (k : WL q P w0 X N ops Q rest ((d, .int .i64 (n % m)) :: fr) L) :
    WL q P w0 X N ops Q (⟨some d, .binOp .rem t x y t', ty, ps, af, none⟩ :: rest) fr L :=
  WL.rem hx hy hN hb.2 (by rw [Int.tmod_eq_emod_of_nonneg hb.1]; exact k)
theorem WL.lss {x y : Operand} {n m : Int} {t t' : Nat} (hx : ev fr x = some (.int .i64 n)) (hy : ev fr y = some (.int .i64 m)) (hN : Nat.ble (d + 1) N = true)
    (k : WL q P w0 X N ops Q rest ((d, .bool (decide (n < m))) :: fr) L) : WL q P w0 X N ops Q (⟨some d, .binOp .lss t x y t', ty, ps, af, none⟩ :: rest) fr L :=
  WL.value rfl rfl hN (fun a w ha _ => by simp [execOp, ha.ev hx, ha.ev hy, binOp, Op.intCmp, run_guard_int]) k
theorem WL.leq {x y : Operand} {n m : Int} {t t' : Nat} (hx : ev fr x = some (.int .i64 n)) (hy : ev fr y = some (.int .i64 m)) (hN : Nat.ble (d + 1) N = true)
    (k : WL q P w0 X N ops Q rest ((d, .bool (decide (n ≤ m))) :: fr) L) : WL q P w0 X N ops Q (⟨some d, .binOp .leq t x y t', ty, ps, af, none⟩ :: rest) fr L :=
  WL.value rfl rfl hN (fun a w ha _ => by simp [execOp, ha.ev hx, ha.ev hy, binOp, Op.intCmp, run_guard_int]) k
theorem WL.gtr {x y : Operand} {n m : Int} {t t' : Nat} (hx : ev fr x = some (.int .i64 n)) (hy : ev fr y = some (.int .i64 m)) (hN : Nat.ble (d + 1) N = true)
    (k : WL q P w0 X N ops Q rest ((d, .bool (decide (m < n))) :: fr) L) : WL q P w0 X N ops Q (⟨some d, .binOp .gtr t x y t', ty, ps, af, none⟩ :: rest) fr L :=
  WL.value rfl rfl hN (fun a w ha _ => by simp [execOp, ha.ev hx, ha.ev hy, binOp, Op.intCmp, run_guard_int]) k
theorem WL.geq {x y : Operand} {n m : Int} {t t' : Nat} (hx : ev fr x = some (.int .i64 n)) (hy : ev fr y = some (.int .i64 m)) (hN : Nat.ble (d + 1) N = true)
    (k : WL q P w0 X N ops Q rest ((d, .bool (decide (m ≤ n))) :: fr) L) : WL q P w0 X N ops Q (⟨some d, .binOp .geq t x y t', ty, ps, af, none⟩ :: rest) fr L :=
  WL.value rfl rfl hN (fun a w ha _ => by simp [execOp, ha.ev hx, ha.ev hy, binOp, Op.intCmp, run_guard_int]) k
theorem WL.eql {x y : Operand} {n m : Int} {t t' : Nat} (hx : ev fr x = some (.int .i64 n)) (hy : ev fr y = some (.int .i64 m)) (hN : Nat.ble (d + 1) N = true)
    (k : WL q P w0 X N ops Q rest ((d, .bool (decide (n = m))) :: fr) L) : WL q P w0 X N ops Q (⟨some d, .binOp .eql t x y t', ty, ps, af, none⟩ :: rest) fr L :=
  WL.value rfl rfl hN (fun a w ha _ => by
    have e : (n == m) = decide (n = m) := by rw [Bool.eq_iff_iff]; simp
    simp [execOp, ha.ev hx, ha.ev hy, binOp, Op.intCmp, run_guard_int, e]) k
theorem WL.neq {x y : Operand} {n m : Int} {t t' : Nat} (hx : ev fr x = some (.int .i64 n)) (hy : ev fr y = some (.int .i64 m)) (hN : Nat.ble (d + 1) N = true)
    (k : WL q P w0 X N ops Q rest ((d, .bool (!decide (n = m))) :: fr) L) : WL q P w0 X N ops Q (⟨some d, .binOp .neq t x y t', ty, ps, af, none⟩ :: rest) fr L :=
  WL.value rfl rfl hN (fun a w ha _ => by
    have e : (n != m) = !decide (n = m) := by rw [Bool.eq_iff_iff]; simp
    simp [execOp, ha.ev hx, ha.ev hy, binOp, Op.intCmp, run_guard_int, e]) k
/-- A comparison whose run is known (bools, structs). -/
theorem WL.cmp {op : BinOp} {x y : Operand} {u v : Value} {t t' : Nat} {b : Value} (hx : ev fr x = some u) (hy : ev fr y = some v) (hN : Nat.ble (d + 1) N = true)
    (hr : ∀ w, (do eqGuard op t x y u v; binOp op t u v : Sem Value).run P w = .ok b w) (k : WL q P w0 X N ops Q rest ((d, b) :: fr) L) :
    WL q P w0 X N ops Q (⟨some d, .binOp op t x y t', ty, ps, af, none⟩ :: rest) fr L :=
  WL.value rfl rfl hN (fun a w ha _ => by
    have := hr w
    simp only [execOp, ha.ev hx, ha.ev hy]
    rw [Sem.run_bind, this]; rfl) k
end
end Go.Proofs.Ytcmmfamippdgbaa.Vc

namespace Go.Proofs.Ytcmmfamippdgbaa.Vc
open Go.RowKit

/-! ## closed facts on types -/
def tcell (P : Program) (t : Nat) : Option (Bool × Nat) :=
  match P.underlying t, P.info? t with
  | some d, some i => some ((match d with | .struct _ | .array _ _ => true | _ => false), i.size)
  | _, _ => none
class TCell (P : Program) (t : Nat) (agg : outParam Bool) (sz : outParam Nat) : Prop where h : tcell P t = some (agg, sz)
def tzero (P : Program) (t : Nat) : Option (List Value) := ((P.info? t).bind (·.zero)).map (·.cells.toList)
class TZero (P : Program) (t : Nat) (zs : outParam (List Value)) : Prop where h : tzero P t = some zs
def tfield (P : Program) (s f : Nat) : Option Nat :=
  match P.underlying s with
  | some (.struct fs) => match fs[f]? with
    | some x => match P.info? x.type with
      | some i => if i.size = 0 then none else some x.offset
      | none => none
    | none => none
  | _ => none
class TField (P : Program) (s f : Nat) (off : outParam Nat) : Prop where h : tfield P s f = some off
def tslice (P : Program) (t : Nat) : Option (Nat × Nat × Nat × List Value) :=
  match P.underlying t with
  | some (.slice e) => match P.info? e with
    | some i => match i.zero with
      | some z => if z.cells.size = i.size then some (e, i.size, i.bytes, z.cells.toList) else none
      | none => none
    | none => none
  | _ => none
class TSlice (P : Program) (t : Nat) (e sz bw : outParam Nat) (zs : outParam (List Value)) : Prop where h : tslice P t = some (e, sz, bw, zs)

theorem tcell_parts {P : Program} {t : Nat} {agg : Bool} {sz : Nat} (h : tcell P t = some (agg, sz)) :
    ∃ d i, P.underlying t = some d ∧ P.info? t = some i ∧ (match d with | .struct _ | .array _ _ => true | _ => false) = agg ∧ i.size = sz := by
  unfold tcell at h
  split at h
  · rename_i d i h1 h2
    simp only [Option.some.injEq, Prod.mk.injEq] at h
    exact ⟨d, i, h1, h2, h.1, h.2⟩
  · cases h
theorem tzero_parts {P : Program} {t : Nat} {zs : List Value} (h : tzero P t = some zs) : ∃ i z, P.info? t = some i ∧ i.zero = some z ∧ z.cells.toList = zs := by
  unfold tzero at h
  cases hi : P.info? t with
  | none => simp [hi] at h
  | some i =>
    cases hz : i.zero with
    | none => simp [hi, hz] at h
    | some z => simp [hi, hz] at h; exact ⟨i, z, rfl, hz, h⟩
theorem tslice_parts {P : Program} {t e sz bw : Nat} {zs : List Value} (h : tslice P t = some (e, sz, bw, zs)) :
    ∃ i z, P.underlying t = some (.slice e) ∧ P.info? e = some i ∧ i.zero = some z ∧ i.size = sz ∧ i.bytes = bw ∧ z.cells.toList = zs ∧ z.cells.size = sz := by
  unfold tslice at h
  split at h
  · rename_i e' hu
    split at h
    · rename_i i hi
      split at h
      · rename_i z hz
        split at h
        · rename_i hs
          simp only [Option.some.injEq, Prod.mk.injEq] at h
          obtain ⟨rfl, rfl, rfl, rfl⟩ := h
          exact ⟨i, z, hu, hi, hz, rfl, rfl, rfl, hs⟩
        · cases h
      · cases h
    · cases h
  · cases h

section
variable {q : Bool} {P : Program} {w0 : World} {X : List Nat} {N : Nat} {ops : Array Oper} {Q : Exit → Act → World → Prop} {rest : List Oper} {fr : Fr} {L : List Res}
variable {d ty : Nat} {ps : String} {af : Array Edge}

theorem run_isAgg_of {t : Nat} {agg : Bool} {sz : Nat} (h : tcell P t = some (agg, sz)) (w : World) : (isAgg t).run P w = .ok agg w := by
  obtain ⟨d, i, hu, hi, ha, hs⟩ := tcell_parts h
  simp only [isAgg, Sem.run_bind, run_underlying hu, Result.andThen_ok]
  cases d <;> simp at ha <;> subst ha <;> rfl
theorem run_sizeOf_of {t : Nat} {agg : Bool} {sz : Nat} (h : tcell P t = some (agg, sz)) (w : World) : (sizeOf t).run P w = .ok sz w := by
  obtain ⟨d, i, hu, hi, ha, hs⟩ := tcell_parts h
  simp [sizeOf, typeInfo, hi, hs]

/-- Lists written out: the n cells from o on. -/
inductive Take : List Value → Nat → List Value → Prop
  | zero {l : List Value} : Take l 0 []
  | succ {x : Value} {l r : List Value} {n : Nat} : Take l n r → Take (x :: l) (n + 1) (x :: r)
inductive Cut : List Value → Nat → Nat → List Value → Prop
  | here {l r : List Value} {n : Nat} : Take l n r → Cut l 0 n r
  | skip {x : Value} {l r : List Value} {o n : Nat} : Cut l o n r → Cut (x :: l) (o + 1) n r
inductive SetTo : List Value → Nat → Value → List Value → Prop
  | zero {x v : Value} {l : List Value} : SetTo (x :: l) 0 v (v :: l)
  | succ {x v : Value} {l r : List Value} {n : Nat} : SetTo l n v r → SetTo (x :: l) (n + 1) v (x :: r)
theorem Take.eq {l r : List Value} {n : Nat} (h : Take l n r) : l.take n = r ∧ n ≤ l.length := by
  induction h with
  | zero => simp
  | succ _ ih => simp [ih.1, ih.2]
theorem Cut.eq {l r : List Value} {o n : Nat} (h : Cut l o n r) : (l.drop o).take n = r ∧ o + n ≤ l.length := by
  induction h with
  | here h => simpa using h.eq
  | skip _ ih => simp only [List.drop_succ_cons, List.length_cons]; exact ⟨ih.1, by have := ih.2; omega⟩
theorem SetTo.eq {l r : List Value} {n : Nat} {v : Value} (h : SetTo l n v r) : l.set n v = r ∧ n < l.length := by
  induction h with
  | zero => simp
  | succ _ ih => simp [ih.1, ih.2]

/-! ### loads of a variable of the call's own -/
theorem cell_blk {w : World} {b o : Nat} {t : TypeId} {cs : List Value} (h : w.heap[b]? = some (.cells cs.toArray t (0, 0))) : w.cell? ⟨b, o, none⟩ = cs[o]? := by
  rw [cell_of_row w b o _ t (0, 0) h]; simp
theorem add_lit (b o k : Nat) : (⟨b, o, none⟩ : Addr).add k = ⟨b, o + k, none⟩ := by unfold Addr.add; split <;> simp_all

theorem WL.load1 {x : Operand} {T b o t : Nat} {cs : List Value} {v : Value} [hT : TCell P T false 1] (hx : ev fr x = some (.pointer (some ⟨b, o, none⟩))) (hL : blk b t cs ∈ L) (hv : cs[o]? = some v)
    (hN : Nat.ble (d + 1) N = true) (k : WL q P w0 X N ops Q rest ((d, v) :: fr) L) : WL q P w0 X N ops Q (⟨some d, .load T x, ty, ps, af, none⟩ :: rest) fr L :=
  WL.value rfl rfl hN (fun a w ha hs => by
    have hc := blk_holds.1 (hs.res _ hL)
    simp [execOp, ha.ev hx, Instr.loadAt, Instr.sureAddr, loadVar, run_isAgg_of hT.h, cell_blk hc, hv]) k

theorem WL.loadA {x : Operand} {T b o t sz : Nat} {cs vs : List Value} [hT : TCell P T true sz] (hx : ev fr x = some (.pointer (some ⟨b, o, none⟩))) (hL : blk b t cs ∈ L) (hc : Cut cs o sz vs)
    (hN : Nat.ble (d + 1) N = true) (k : WL q P w0 X N ops Q rest ((d, .agg vs.toArray) :: fr) L) : WL q P w0 X N ops Q (⟨some d, .load T x, ty, ps, af, none⟩ :: rest) fr L :=
  WL.value rfl rfl hN (fun a w ha hs => by
    have hb := blk_holds.1 (hs.res _ hL)
    obtain ⟨h1, h2⟩ := hc.eq
    have hl : vs.length = sz := by rw [← h1]; simp; omega
    have hr := run_loadCells_list (P := P) w ⟨b, o, none⟩ vs (fun j v hj => by
      rw [add_lit, cell_blk hb, ← hj, ← h1]
      have : j < sz := by rw [← hl]; exact (List.getElem?_eq_some_iff.1 hj).1
      rw [List.getElem?_take, if_pos this, List.getElem?_drop])
    rw [hl] at hr
    simp [execOp, ha.ev hx, Instr.loadAt, Instr.sureAddr, loadVar, run_isAgg_of hT.h, run_sizeOf_of hT.h, hr]) k

/-! ### the resources, one turned -/
inductive Repl : List Res → Res → Res → List Res → Prop
  | here {r r' : Res} {L : List Res} : Repl (r :: L) r r' (r' :: L)
  | there {r r' s : Res} {L L' : List Res} : Repl L r r' L' → Repl (s :: L) r r' (s :: L')
theorem Repl.perm {L L' : List Res} {r r' : Res} (h : Repl L r r' L') : ∃ R, L.Perm (r :: R) ∧ L'.Perm (r' :: R) := by
  induction h with
  | here => exact ⟨_, .refl _, .refl _⟩
  | there _ ih =>
    obtain ⟨R, h1, h2⟩ := ih
    exact ⟨_ :: R, (h1.cons _).trans (.swap _ _ _), (h2.cons _).trans (.swap _ _ _)⟩
inductive Del : List Res → Res → List Res → Prop
  | here {r : Res} {L : List Res} : Del (r :: L) r L
  | there {r s : Res} {L L' : List Res} : Del L r L' → Del (s :: L) r (s :: L')
theorem Del.perm {L L' : List Res} {r : Res} (h : Del L r L') : L.Perm (r :: L') := by
  induction h with
  | here => exact .refl _
  | there _ ih => exact (ih.cons _).trans (.swap _ _ _)

theorem St.repl {w w' : World} {L' : List Res} {r r' : Res} (h : St w0 X w L) (hR : Repl L r r' L') (hk : Keep r.foot w w') (hr : r'.holds w') (hf : ∀ b ∈ r'.foot, b ∈ r.foot ∨ w.heap.size ≤ b) : St w0 X w' L' := by
  obtain ⟨R, h1, h2⟩ := hR.perm
  refine St.perm ?_ h2.symm
  refine St.call (Lc := [r]) (Rs := [r']) (M := r.foot) (h.perm h1) (fun b hb _ => ⟨r, by simp, hb⟩) (fun b hb => r.here w (h.res r (h1.mem_iff.2 (by simp))) b hb) ⟨hk, ?_, List.pairwise_singleton _ _, ?_⟩
  · intro s hs; simp at hs; subst hs; exact hr
  · intro s hs b hb; simp at hs; subst hs; exact (hf b hb).symm

theorem St.mem_repl {w : World} {L' : List Res} {r r' : Res} (h : St w0 X w L) (hR : Repl L r r' L') : r.holds w := by
  obtain ⟨R, h1, _⟩ := hR.perm
  exact h.res r (h1.mem_iff.2 (by simp))

theorem keep_setRow (w : World) (g : Nat) (cs : Array Value) : Keep [g] w (w.setRow g cs) :=
  ⟨rfl, rfl, rfl, by simp [World.setRow], fun k _ hn => setRow_other w g k cs (by simpa using hn)⟩

theorem St.setRow {w : World} {L' : List Res} {b t : Nat} {cs cs' : List Value} (h : St w0 X w L) (hR : Repl L (blk b t cs) (blk b t cs') L') : St w0 X (w.setRow b cs'.toArray) L' := by
  have hb := blk_holds.1 (h.mem_repl hR)
  refine h.repl hR (by rw [blk_foot]; exact keep_setRow _ _ _) (blk_holds.2 (setRow_heap w b _ _ t _ hb)) (by rw [blk_foot, blk_foot]; intro c hc; exact .inl hc)

/-! ### stores into a variable of the call's own -/
theorem WL.store1 {x y : Operand} {T b o t : Nat} {cs cs' : List Value} {v : Value} {L' : List Res} [hT : TCell P T false 1] (hx : ev fr x = some (.pointer (some ⟨b, o, none⟩))) (hy : ev fr y = some v)
    (hL : Repl L (blk b t cs) (blk b t cs') L') (hc : SetTo cs o v cs') (h1 : v.oneCell' = true) (k : WL false P w0 X N ops Q rest fr L') : WL false P w0 X N ops Q (⟨none, .store T x y, ty, ps, af, none⟩ :: rest) fr L :=
  WL.writes rfl rfl (fun a w ha hs => by
    have hb := blk_holds.1 (hs.mem_repl hL)
    obtain ⟨e1, e2⟩ := hc.eq
    have hcells : v.cells = #[v] := by cases v <;> first | rfl | (simp [Value.oneCell'] at h1)
    have hst := run_storeCells_at P b o t [v] 0 cs.toArray w hb (by simp; omega) (by simp [h1])
    refine ⟨w.setRow b cs'.toArray, ?_, hs.setRow hL⟩
    have e3 : (cs.take (o + 0) ++ [v] ++ cs.drop (o + 0 + [v].length)) = cs' := by
      rw [← e1, List.set_eq_take_append_cons_drop, if_pos e2]; simp
    simp only [e3] at hst
    simp [execOp, ha.ev hx, ha.ev hy, Instr.storeAt, Instr.sureAddr, storeVar, hcells, run_sizeOf_of hT.h, hst]) k

/-- n cells put from o on -/
inductive Over : List Value → List Value → List Value → Prop
  | nil {l : List Value} : Over l [] l
  | cons {x v : Value} {l vs r : List Value} : Over l vs r → Over (x :: l) (v :: vs) (v :: r)
inductive Put : List Value → Nat → List Value → List Value → Prop
  | here {l vs r : List Value} : Over l vs r → Put l 0 vs r
  | skip {x : Value} {l vs r : List Value} {o : Nat} : Put l o vs r → Put (x :: l) (o + 1) vs (x :: r)
theorem Over.eq {l vs r : List Value} (h : Over l vs r) : r = vs ++ l.drop vs.length ∧ vs.length ≤ l.length := by
  induction h with
  | nil => simp
  | cons _ ih => simp [ih.1, ih.2]
theorem Put.eq {l vs r : List Value} {o : Nat} (h : Put l o vs r) : r = l.take o ++ vs ++ l.drop (o + vs.length) ∧ o + vs.length ≤ l.length := by
  induction h with
  | here h => simpa using h.eq
  | skip _ ih =>
    refine ⟨?_, by have := ih.2; simp; omega⟩
    simp only [List.take_succ_cons, List.cons_append]
    rw [ih.1]
    have : ∀ (o n : Nat), o + 1 + n = (o + n) + 1 := by omega
    rw [this, List.drop_succ_cons]

theorem WL.storeA {x y : Operand} {T b o t sz : Nat} {cs cs' vs : List Value} {L' : List Res} [hT : TCell P T true sz] (hx : ev fr x = some (.pointer (some ⟨b, o, none⟩))) (hy : ev fr y = some (.agg vs.toArray))
    (hL : Repl L (blk b t cs) (blk b t cs') L') (hc : Put cs o vs cs') (hsz : vs.length = sz) (h1 : vs.all Value.oneCell' = true) (k : WL false P w0 X N ops Q rest fr L') : WL false P w0 X N ops Q (⟨none, .store T x y, ty, ps, af, none⟩ :: rest) fr L :=
  WL.writes rfl rfl (fun a w ha hs => by
    have hb := blk_holds.1 (hs.mem_repl hL)
    obtain ⟨e1, e2⟩ := hc.eq
    have hst := run_storeCells_at P b o t vs 0 cs.toArray w hb (by simpa using e2) (by simpa using h1)
    refine ⟨w.setRow b cs'.toArray, ?_, hs.setRow hL⟩
    have e3 : (cs.take (o + 0) ++ vs ++ cs.drop (o + 0 + vs.length)) = cs' := by rw [e1]; simp
    simp only [e3] at hst
    simp [execOp, ha.ev hx, ha.ev hy, Instr.storeAt, Instr.sureAddr, storeVar, Value.cells, hsz, run_sizeOf_of hT.h, hst]) k

/-! ### new variables -/
theorem WL.alloc {T : Nat} {zs : List Value} [hT : TZero P T zs] (hN : Nat.ble (d + 1) N = true)
    (k : ∀ b : Nat, WL false P w0 X N ops Q rest ((d, .pointer (some ⟨b, 0, none⟩)) :: fr) (blk b T zs :: L)) : WL false P w0 X N ops Q (⟨some d, .alloc T, ty, ps, af, none⟩ :: rest) fr L :=
  WL.makes (B := Nat) (G := fun _ => True) (v := fun b => .pointer (some ⟨b, 0, none⟩)) (L' := fun b => blk b T zs :: L) rfl rfl hN (fun a w ha hs => by
    obtain ⟨i, z, hi, hz, e⟩ := tzero_parts hT.h
    subst e
    refine ⟨w.heap.size, w.alloc (.cells z.cells.toList.toArray T), ?_, trivial, hs.alloc T _⟩
    simp [execOp, Instr.alloc, zeroValue, typeInfo, hi, hz, newVar, newRow]) (fun b _ => k b)
theorem WL.boxA {T : Nat} {x : Operand} {vs : List Value} (hx : ev fr x = some (.agg vs.toArray)) (hN : Nat.ble (d + 1) N = true)
    (k : ∀ b : Nat, WL false P w0 X N ops Q rest ((d, .pointer (some ⟨b, 0, none⟩)) :: fr) (blk b T vs :: L)) : WL false P w0 X N ops Q (⟨some d, .box T x, ty, ps, af, none⟩ :: rest) fr L :=
  WL.makes (B := Nat) (G := fun _ => True) (v := fun b => .pointer (some ⟨b, 0, none⟩)) (L' := fun b => blk b T vs :: L) rfl rfl hN (fun a w ha hs => by
    refine ⟨w.heap.size, w.alloc (.cells vs.toArray T), ?_, trivial, hs.alloc T _⟩
    simp [execOp, ha.ev hx, Instr.box, newVar, newRow, Value.cells]) (fun b _ => k b)
theorem WL.box1 {T : Nat} {x : Operand} {v : Value} (hx : ev fr x = some v) (h1 : v.oneCell' = true) (hN : Nat.ble (d + 1) N = true)
    (k : ∀ b : Nat, WL false P w0 X N ops Q rest ((d, .pointer (some ⟨b, 0, none⟩)) :: fr) (blk b T [v] :: L)) : WL false P w0 X N ops Q (⟨some d, .box T x, ty, ps, af, none⟩ :: rest) fr L :=
  WL.makes (B := Nat) (G := fun _ => True) (v := fun b => .pointer (some ⟨b, 0, none⟩)) (L' := fun b => blk b T [v] :: L) rfl rfl hN (fun a w ha hs => by
    have hcells : v.cells = #[v] := by cases v <;> first | rfl | (simp [Value.oneCell'] at h1)
    refine ⟨w.heap.size, w.alloc (.cells [v].toArray T), ?_, trivial, hs.alloc T _⟩
    simp [execOp, ha.ev hx, Instr.box, newVar, newRow, hcells]) (fun b _ => k b)

/-! ### fields, addresses -/
theorem run_fieldAt {s f off : Nat} (h : tfield P s f = some off) (a : Addr) (w : World) : (Instr.fieldAt s (.pointer (some a)) f).run P w = .ok (.pointer (some (a.add off))) w := by
  unfold tfield at h
  split at h
  · rename_i fs hu
    split at h
    · rename_i x hx
      split at h
      · rename_i i hi
        split at h
        · cases h
        · rename_i hs
          simp only [Option.some.injEq] at h
          subst h
          simp [Instr.fieldAt, run_underlying hu, hx, Instr.sureAddr, fieldPlace, sizeOf, typeInfo, hi, hs]
      · cases h
    · cases h
  · cases h
theorem WL.fieldV {x : Operand} {s f b off : Nat} [hT : TField P s f off] (hx : ev fr x = some (.pointer (some ⟨b, 0, none⟩))) (hN : Nat.ble (d + 1) N = true)
    (k : WL q P w0 X N ops Q rest ((d, .pointer (some ⟨b, off, none⟩)) :: fr) L) : WL q P w0 X N ops Q (⟨some d, .fieldAddr s x f, ty, ps, af, none⟩ :: rest) fr L :=
  WL.value rfl rfl hN (fun a w ha _ => by simp [execOp, ha.ev hx, run_fieldAt hT.h, add_lit]) k
theorem WL.fieldW {x : Operand} {s f b o off : Nat} [hT : TField P s f off] (hx : ev fr x = some (.pointer (some ⟨b, o, none⟩))) (hN : Nat.ble (d + 1) N = true)
    (k : WL q P w0 X N ops Q rest ((d, .pointer (some ⟨b, o + off, none⟩)) :: fr) L) : WL q P w0 X N ops Q (⟨some d, .fieldAddr s x f, ty, ps, af, none⟩ :: rest) fr L :=
  WL.value rfl rfl hN (fun a w ha _ => by simp [execOp, ha.ev hx, run_fieldAt hT.h, add_lit]) k
theorem WL.fieldP {x : Operand} {s f off : Nat} {p : Addr} [hT : TField P s f off] (hx : ev fr x = some (.pointer (some p))) (hN : Nat.ble (d + 1) N = true)
    (k : WL q P w0 X N ops Q rest ((d, .pointer (some (p.add off))) :: fr) L) : WL q P w0 X N ops Q (⟨some d, .fieldAddr s x f, ty, ps, af, none⟩ :: rest) fr L :=
  WL.value rfl rfl hN (fun a w ha _ => by simp [execOp, ha.ev hx, run_fieldAt hT.h]) k
theorem WL.nilCheck {x : Operand} {p : Addr} (hx : ev fr x = some (.pointer (some p))) (hN : Nat.ble (d + 1) N = true)
    (k : WL q P w0 X N ops Q rest ((d, .pointer (some p)) :: fr) L) : WL q P w0 X N ops Q (⟨some d, .nilCheck x, ty, ps, af, none⟩ :: rest) fr L :=
  WL.value rfl rfl hN (fun a w ha _ => by simp [execOp, ha.ev hx]) k
end
end Go.Proofs.Ytcmmfamippdgbaa.Vc

namespace Go.Proofs.Ytcmmfamippdgbaa.Vc
open Go.RowKit

/-! ## slices -/
class Enc {α : Type} (E : α → List Value) (sz : outParam Nat) : Prop where
  len : ∀ y, (E y).length = sz
  one : ∀ y, (E y).all Value.oneCell' = true
  pos : 0 < sz

@[reducible] def intE (n : Int) : List Value := [.int .i64 n]
instance : Enc intE 1 := ⟨fun _ => rfl, fun _ => rfl, by omega⟩

section
variable {α : Type} {E : α → List Value} {sz : Nat}

theorem Enc.flat_len (hE : Enc E sz) (ys : List α) : (ys.flatMap E).length = ys.length * sz := by
  induction ys with
  | nil => simp
  | cons y r ih => simp [List.flatMap_cons, ih, hE.len, Nat.add_mul, Nat.add_comm]
theorem Enc.flat_at (hE : Enc E sz) : ∀ {ys : List α} {k : Nat} {y : α} (_ : ys[k]? = some y) {f : Nat} (_ : f < sz), (ys.flatMap E)[k * sz + f]? = (E y)[f]?
  | [], _, _, h, _, _ => by simp at h
  | x :: r, 0, y, h, f, hf => by
    simp at h; subst h
    simp only [List.flatMap_cons, Nat.zero_mul, Nat.zero_add]
    rw [List.getElem?_append_left (by rw [hE.len]; exact hf)]
  | x :: r, k + 1, y, h, f, hf => by
    simp at h
    have ih := Enc.flat_at hE h hf
    simp only [List.flatMap_cons]
    rw [List.getElem?_append_right (by rw [hE.len, Nat.add_mul]; omega), hE.len]
    rw [← ih]; congr 1; rw [Nat.add_mul]; omega
theorem Enc.flat_one (hE : Enc E sz) (ys : List α) : ∀ u ∈ ys.flatMap E, u.oneCell' = true := by
  intro u hu
  obtain ⟨y, _, hy⟩ := List.mem_flatMap.1 hu
  exact List.all_eq_true.1 (hE.one y) u hy

/-- The slice value v reads as ys in w. -/
@[irreducible] def Sl (E : α → List Value) (_sz : Nat) (v : Value) (ys : List α) (w : World) : Prop :=
  ∃ A c, v = .slice A ys.length c ∧ ys.length ≤ c ∧ (0 < ys.length → ∃ ad, A = some ad ∧ ∀ j u, (ys.flatMap E)[j]? = some u → w.cell? (ad.add j) = some u)

theorem Sl.form {v : Value} {ys : List α} {w : World} (h : Sl E sz v ys w) : ∃ A c, v = .slice A ys.length c ∧ ys.length ≤ c := by
  unfold Sl at h; obtain ⟨A, c, h1, h2, _⟩ := h; exact ⟨A, c, h1, h2⟩
theorem Sl.one {v : Value} {ys : List α} {w : World} (h : Sl E sz v ys w) : v.oneCell' = true := by
  obtain ⟨A, c, rfl, _⟩ := h.form; rfl
theorem Sl.nil (w : World) (c : Nat) (A : Option Addr) : Sl E sz (.slice A 0 c) ([] : List α) w := by
  unfold Sl; exact ⟨A, c, rfl, Nat.zero_le _, fun h => absurd h (by simp)⟩
theorem Sl.mono {v : Value} {ys : List α} {w w' : World} (h : Sl E sz v ys w) (hk : ∀ (ad : Addr) n c, v = .slice (some ad) n c → ad.block < w.heap.size → w'.heap[ad.block]? = w.heap[ad.block]?) (hE : Enc E sz) : Sl E sz v ys w' := by
  unfold Sl at h ⊢
  obtain ⟨A, c, h1, h2, h3⟩ := h
  refine ⟨A, c, h1, h2, fun hp => ?_⟩
  obtain ⟨ad, rfl, hc⟩ := h3 hp
  have hcb : ∀ j, (ad.add j).block = ad.block := fun j => by unfold Addr.add; split <;> rfl
  have hlt : ad.block < w.heap.size := by
    have hpos := hE.pos
    have hl : 0 < (ys.flatMap E).length := by rw [hE.flat_len]; exact Nat.mul_pos hp hpos
    have := World.block_lt_of_cell? _ _ (hc 0 _ (List.getElem?_eq_getElem hl))
    rwa [hcb] at this
  refine ⟨ad, rfl, fun j u hj => ?_⟩
  rw [World.cell?_of_block (w := w) (by rw [hcb]; exact hk ad _ _ h1 hlt)]
  exact hc j u hj
theorem Sl.keep {v : Value} {ys : List α} {w w' : World} [hE : Enc E sz] (h : Sl E sz v ys w) (hk : Keep [] w w') : Sl E sz v ys w' :=
  h.mono (fun _ _ _ _ hlt => hk.block _ hlt (by simp)) hE
theorem Sl.ext {v : Value} {ys : List α} {w0 w : World} {L : List Res} [hE : Enc E sz] (h : Sl E sz v ys w0) (hs : St w0 [] w L) : Sl E sz v ys w := h.keep hs.keep
/-- out of a row of the call's own -/
theorem Sl.of_own {v : Value} {t : TypeId} {ys : List α} {w : World} (h : (own E sz v t ys).holds w) : Sl E sz v ys w := by
  rw [own_holds] at h
  unfold Sl
  rcases h.2 with ⟨rfl, h0⟩ | ⟨g, cap, cur, rfl, hg, hh, hn, hm, r⟩
  · exact ⟨none, 0, by rw [h0], by omega, fun hp => by omega⟩
  · exact ⟨_, cap, rfl, hn, fun _ => ⟨_, rfl, h.cells rfl⟩⟩
theorem Sl.own {v : Value} {t : TypeId} {ys : List α} {w0 w : World} {X : List Nat} {L : List Res} (hm : own E sz v t ys ∈ L) (hs : St w0 X w L) : Sl E sz v ys w := Sl.of_own (hs.res _ hm)

/-- p is the address of cell o of the slice v. -/
def PtrOf (v : Value) (o : Nat) (p : Addr) : Prop := ∃ ad n c, v = .slice (some ad) n c ∧ p = ad.add o

theorem add_add_ (a : Addr) (i j : Nat) : (a.add i).add j = a.add (i + j) := by
  unfold Addr.add
  by_cases hi : i = 0 <;> by_cases hj : j = 0 <;> simp [hi, hj, Nat.add_assoc]

theorem Sl.cell {v : Value} {ys : List α} {w : World} (hE : Enc E sz) (h : Sl E sz v ys w) {k : Nat} {y : α} (hk : ys[k]? = some y) {p : Addr} (hp : PtrOf v (k * sz) p) {f : Nat} {u : Value} (hu : (E y)[f]? = some u) :
    w.cell? (p.add f) = some u := by
  unfold Sl at h
  obtain ⟨A, c, h1, h2, h3⟩ := h
  obtain ⟨ad, n, c', hv, rfl⟩ := hp
  have hlt : k < ys.length := (List.getElem?_eq_some_iff.1 hk).1
  obtain ⟨ad', hA, hc⟩ := h3 (by omega)
  rw [h1] at hv
  simp only [Value.slice.injEq] at hv
  obtain ⟨e1, _, _⟩ := hv
  rw [hA] at e1
  simp only [Option.some.injEq] at e1
  subst e1
  rw [add_add_]
  refine hc _ _ ?_
  have hf : f < sz := by rw [← hE.len y]; exact (List.getElem?_eq_some_iff.1 hu).1
  rw [hE.flat_at hk hf]; exact hu
end

section
variable {q : Bool} {P : Program} {w0 : World} {X : List Nat} {N : Nat} {ops : Array Oper} {Q : Exit → Act → World → Prop} {rest : List Oper} {fr : Fr} {L : List Res}
variable {d ty : Nat} {ps : String} {af : Array Edge}
variable {α : Type} {E : α → List Value} {sz : Nat}

theorem WL.len {x : Operand} {T e bw sz' : Nat} {zs : List Value} {v : Value} {ys : List α} [hT : TSlice P T e sz' bw zs] (hx : ev fr x = some v) (hs : ∀ w, St w0 X w L → Sl E sz v ys w) (hN : Nat.ble (d + 1) N = true)
    (k : WL q P w0 X N ops Q rest ((d, .int .i64 (ys.length : Int)) :: fr) L) : WL q P w0 X N ops Q (⟨some d, .call { callee := .builtin .len, args := #[x], argTypes := #[T] }, ty, ps, af, none⟩ :: rest) fr L :=
  WL.value rfl rfl hN (fun a w ha h => by
    obtain ⟨i, z, hu, _⟩ := tslice_parts hT.h
    obtain ⟨A, c, rfl, _⟩ := (hs w h).form
    simp [execOp, resolve, invoke, builtin, ha.ev hx, Builtin.len_, run_underlying hu, goInt]) k

theorem WL.index {x i : Operand} {T e bw : Nat} {zs : List Value} {v : Value} {ys : List α} {n : Int} [hT : TSlice P T e sz bw zs] (hx : ev fr x = some v) (hi : ev fr i = some (.int .i64 n))
    (hs : ∀ w, St w0 X w L → Sl E sz v ys w) (hb : 0 ≤ n ∧ n < ys.length) (hN : Nat.ble (d + 1) N = true)
    (k : ∀ p : Addr, PtrOf v (n.toNat * sz) p → WL q P w0 X N ops Q rest ((d, .pointer (some p)) :: fr) L) : WL q P w0 X N ops Q (⟨some d, .indexAddr T x i, ty, ps, af, none⟩ :: rest) fr L :=
  WL.picks (B := Addr) (G := fun p => PtrOf v (n.toNat * sz) p) (v := fun p => .pointer (some p)) rfl rfl hN (fun a w ha h => by
    obtain ⟨ie, z, hu, hie, hz, hsz, _⟩ := tslice_parts hT.h
    have hsl := hs w h
    unfold Sl at hsl
    obtain ⟨A, c, rfl, _, h3⟩ := hsl
    obtain ⟨ad, rfl, _⟩ := h3 (by omega)
    refine ⟨ad.add (n.toNat * sz), ⟨ad, _, c, rfl, rfl⟩, fun w' _ => ?_⟩
    simp [execOp, ha.ev hx, ha.ev hi, Instr.indexAt, asIntOf, run_underlying hu, hb.1, hb.2, sizeOf, typeInfo, hie, hsz]) k

/-- a whole element -/
theorem WL.loadE {x : Operand} {T k : Nat} {v : Value} {p : Addr} {ys : List α} {y : α} [hE : Enc E sz] [hT : TCell P T true sz] (hx : ev fr x = some (.pointer (some p))) (hp : PtrOf v (k * sz) p)
    (hs : ∀ w, St w0 X w L → Sl E sz v ys w) (hy : ys[k]? = some y) (hN : Nat.ble (d + 1) N = true) (kk : WL q P w0 X N ops Q rest ((d, .agg (E y).toArray) :: fr) L) :
    WL q P w0 X N ops Q (⟨some d, .load T x, ty, ps, af, none⟩ :: rest) fr L :=
  WL.value rfl rfl hN (fun a w ha h => by
    have hr := run_loadCells_list (P := P) w p (E y) (fun j u hj => (hs w h).cell hE hy hp hj)
    rw [hE.len] at hr
    simp [execOp, ha.ev hx, Instr.loadAt, Instr.sureAddr, loadVar, run_isAgg_of hT.h, run_sizeOf_of hT.h, hr]) kk
/-- an element of one cell, or a field of an element -/
theorem WL.loadF {x : Operand} {T k f : Nat} {v u : Value} {p : Addr} {ys : List α} {y : α} [hE : Enc E sz] [hT : TCell P T false 1] (hx : ev fr x = some (.pointer (some (p.add f)))) (hp : PtrOf v (k * sz) p)
    (hs : ∀ w, St w0 X w L → Sl E sz v ys w) (hy : ys[k]? = some y) (hu : (E y)[f]? = some u) (hN : Nat.ble (d + 1) N = true) (kk : WL q P w0 X N ops Q rest ((d, u) :: fr) L) :
    WL q P w0 X N ops Q (⟨some d, .load T x, ty, ps, af, none⟩ :: rest) fr L :=
  WL.value rfl rfl hN (fun a w ha h => by
    have hr := (hs w h).cell hE hy hp hu
    simp [execOp, ha.ev hx, Instr.loadAt, Instr.sureAddr, loadVar, run_isAgg_of hT.h, hr]) kk
theorem WL.load0 {x : Operand} {T k : Nat} {v u : Value} {p : Addr} {ys : List α} {y : α} [hE : Enc E sz] [hT : TCell P T false 1] (hx : ev fr x = some (.pointer (some p))) (hp : PtrOf v (k * sz) p)
    (hs : ∀ w, St w0 X w L → Sl E sz v ys w) (hy : ys[k]? = some y) (hu : (E y)[0]? = some u) (hN : Nat.ble (d + 1) N = true) (kk : WL q P w0 X N ops Q rest ((d, u) :: fr) L) :
    WL q P w0 X N ops Q (⟨some d, .load T x, ty, ps, af, none⟩ :: rest) fr L :=
  WL.loadF (f := 0) hx hp hs hy hu hN kk

/-! ### stores into a row of the call's own -/
theorem splice_at (l vs : List Value) (o j : Nat) (h : o + vs.length ≤ l.length) :
    (l.take o ++ vs ++ l.drop (o + vs.length))[j]? = if j < o then l[j]? else if j < o + vs.length then vs[j - o]? else l[j]? := by
  have ho : (l.take o).length = o := by simp; omega
  by_cases h1 : j < o
  · rw [if_pos h1, List.append_assoc, List.getElem?_append_left (by omega), List.getElem?_take, if_pos h1]
  · rw [if_neg h1]
    by_cases h2 : j < o + vs.length
    · rw [if_pos h2, List.append_assoc, List.getElem?_append_right (by omega), List.getElem?_append_left (by omega), ho]
    · rw [if_neg h2, List.getElem?_append_right (by rw [List.length_append]; omega), List.getElem?_drop, List.length_append, ho]
      congr 1; omega

theorem own_setRow [hE : Enc E sz] {w : World} {v : Value} {t k f : Nat} {p : Addr} {ys : List α} {y y' : α} {vs : List Value} (h : (own E sz v t ys).holds w) (hy : ys[k]? = some y) (hp : PtrOf v (k * sz) p)
    (hf : f + vs.length ≤ sz) (hv : E y' = (E y).take f ++ vs ++ (E y).drop (f + vs.length)) (h1 : vs.all Value.oneCell' = true) (P : Program) :
    ∃ w', (storeCells (p.add f) vs).run P w = .ok () w' ∧ (own E sz v t (ys.set k y')).holds w' ∧ Keep v.ownBlock.toList w w' := by
  rw [own_holds] at h
  have hlt : k < ys.length := (List.getElem?_eq_some_iff.1 hy).1
  obtain ⟨hl, h2⟩ := h
  rcases h2 with ⟨rfl, h0⟩ | ⟨g, cap, cur, rfl, hg, hh, hn, hm, hcs, htake⟩
  · omega
  · obtain ⟨ad, n, c, hv', rfl⟩ := hp
    simp only [Value.slice.injEq, Option.some.injEq] at hv'
    obtain ⟨rfl, _, _⟩ := hv'
    rw [add_lit, add_lit, Nat.zero_add]
    have hkk : k * sz + sz ≤ ys.length * sz := by rw [← Nat.succ_mul]; exact Nat.mul_le_mul_right _ hlt
    have hcap : ys.length * sz ≤ cur.size := by rw [hcs]; exact Nat.mul_le_mul_right _ hn
    have hst := run_storeCells_at P g (k * sz + f) t vs 0 cur w hh (by omega) (by simpa using h1)
    rw [Nat.add_zero] at hst
    refine ⟨_, hst, ?_, by simpa [Value.ownBlock] using keep_setRow _ _ _⟩
    have hsize : cur.toList.length = cur.size := Array.length_toList
    have hfit : k * sz + f + vs.length ≤ cur.toList.length := by omega
    rw [own_holds]
    refine ⟨by rw [hE.flat_len], .inr ⟨g, cap, _, by simp, hg, setRow_heap w g cur _ t _ hh, by simpa using hn, hm, ?_, ?_⟩⟩
    · show (List.toArray _).size = _
      rw [List.size_toArray, List.length_append, List.length_append, List.length_take, List.length_drop, ← hcs]
      omega
    · apply List.ext_getElem?
      intro j
      rw [List.getElem?_take, List.length_set]
      have hflat : ∀ i, i < ys.length * sz → cur.toList[i]? = (ys.flatMap E)[i]? := by
        intro i hi
        rw [← htake, List.getElem?_take, if_pos hi]
      by_cases hj : j < ys.length * sz
      · rw [if_pos hj, splice_at _ _ _ _ hfit]
        obtain ⟨q, r, hr, rfl⟩ : ∃ q r, r < sz ∧ j = q * sz + r := ⟨j / sz, j % sz, Nat.mod_lt _ hE.pos, by rw [Nat.mul_comm]; exact (Nat.div_add_mod _ _).symm⟩
        have hq : q < ys.length := by
          rcases Nat.lt_or_ge q ys.length with hq | hq
          · exact hq
          · have := Nat.mul_le_mul_right sz hq; omega
        have hq' : (ys.set k y')[q]? = some ((ys.set k y')[q]'(by simpa using hq)) := List.getElem?_eq_getElem _
        rw [hE.flat_at hq' hr]
        by_cases hqk : q = k
        · subst hqk
          simp only [List.getElem_set_self]
          rw [hv, splice_at _ _ _ _ (by rw [hE.len]; exact hf)]
          have e1 : cur.toList[q * sz + r]? = (E y)[r]? := by rw [hflat _ hj, hE.flat_at hy hr]
          rw [e1]
          by_cases h1 : r < f
          · rw [if_pos (by omega), if_pos h1]
          · rw [if_neg (by omega), if_neg h1]
            by_cases h2 : r < f + vs.length
            · rw [if_pos (by omega), if_pos h2]; congr 1; omega
            · rw [if_neg (by omega), if_neg h2]
        · have e3 : (ys.set k y')[q]'(by simpa using hq) = ys[q] := by simp [Ne.symm hqk]
          rw [e3, ← hE.flat_at (List.getElem?_eq_getElem hq) hr, ← hflat _ hj]
          rcases Nat.lt_or_gt_of_ne hqk with h | h
          · have := Nat.mul_le_mul_right sz h; rw [Nat.succ_mul] at this
            rw [if_pos (by omega)]
          · have := Nat.mul_le_mul_right sz h; rw [Nat.succ_mul] at this
            rw [if_neg (by omega), if_neg (by omega)]
      · rw [if_neg hj, List.getElem?_eq_none (by rw [hE.flat_len]; simp; omega)]

theorem St.own_set [hE : Enc E sz] {w : World} {L' : List Res} {v : Value} {t k f : Nat} {p : Addr} {ys : List α} {y y' : α} {vs : List Value} (hs : St w0 X w L) (hR : Repl L (Vc.own E sz v t ys) (Vc.own E sz v t (ys.set k y')) L')
    (hy : ys[k]? = some y) (hp : PtrOf v (k * sz) p) (hf : f + vs.length ≤ sz) (hv : E y' = (E y).take f ++ vs ++ (E y).drop (f + vs.length)) (h1 : vs.all Value.oneCell' = true) (P : Program) :
    ∃ w', (storeCells (p.add f) vs).run P w = .ok () w' ∧ St w0 X w' L' := by
  obtain ⟨w', hr, ho, hk⟩ := own_setRow (hs.mem_repl hR) hy hp hf hv h1 P
  exact ⟨w', hr, hs.repl hR (by rw [own_foot]; exact hk) ho (by rw [own_foot, own_foot]; intro b hb; exact .inl hb)⟩

/-- a whole element -/
theorem WL.storeE {x y : Operand} {T k t : Nat} {v : Value} {p : Addr} {ys : List α} {e e' : α} {L' : List Res} [hE : Enc E sz] [hT : TCell P T true sz] (hx : ev fr x = some (.pointer (some p))) (hy : ev fr y = some (.agg (E e').toArray)) (hp : PtrOf v (k * sz) p)
    (hL : Repl L (own E sz v t ys) (own E sz v t (ys.set k e')) L') (hk : ys[k]? = some e) (kk : WL false P w0 X N ops Q rest fr L') :
    WL false P w0 X N ops Q (⟨none, .store T x y, ty, ps, af, none⟩ :: rest) fr L :=
  WL.writes rfl rfl (fun a w ha h => by
    obtain ⟨w', hr, hs'⟩ := h.own_set hL hk hp (f := 0) (vs := E e') (by rw [hE.len]; omega) (by rw [hE.len]; simp [hE.len]) (hE.one _) P
    have e0 : p.add 0 = p := by simp [Addr.add]
    rw [e0] at hr
    refine ⟨w', ?_, hs'⟩
    simp [execOp, ha.ev hx, ha.ev hy, Instr.storeAt, Instr.sureAddr, storeVar, Value.cells, hE.len, run_sizeOf_of hT.h, hr]) kk
/-- one cell of an element: f = 0 where the element is of one cell and the pointer bare -/
theorem WL.storeF {x y : Operand} {T k t f : Nat} {v u : Value} {p : Addr} {ys : List α} {e e' : α} {L' : List Res} [hE : Enc E sz] [hT : TCell P T false 1] (hx : ev fr x = some (.pointer (some (p.add f)))) (hy : ev fr y = some u) (hp : PtrOf v (k * sz) p)
    (hL : Repl L (own E sz v t ys) (own E sz v t (ys.set k e')) L') (hk : ys[k]? = some e) (hf : f < sz) (he : SetTo (E e) f u (E e')) (h1 : u.oneCell' = true) (kk : WL false P w0 X N ops Q rest fr L') :
    WL false P w0 X N ops Q (⟨none, .store T x y, ty, ps, af, none⟩ :: rest) fr L :=
  WL.writes rfl rfl (fun a w ha h => by
    obtain ⟨e1, e2⟩ := he.eq
    obtain ⟨w', hr, hs'⟩ := h.own_set hL hk hp (f := f) (vs := [u]) (by simp; omega) (by rw [← e1, List.set_eq_take_append_cons_drop, if_pos e2]; simp) (by simp [h1]) P
    have hcells : u.cells = #[u] := by cases u <;> first | rfl | (simp [Value.oneCell'] at h1)
    refine ⟨w', ?_, hs'⟩
    simp [execOp, ha.ev hx, ha.ev hy, Instr.storeAt, Instr.sureAddr, storeVar, hcells, run_sizeOf_of hT.h, hr]) kk
theorem WL.store0 {x y : Operand} {T k t : Nat} {v u : Value} {p : Addr} {ys : List α} {e e' : α} {L' : List Res} [hE : Enc E sz] [hT : TCell P T false 1] (hx : ev fr x = some (.pointer (some p))) (hy : ev fr y = some u) (hp : PtrOf v (k * sz) p)
    (hL : Repl L (own E sz v t ys) (own E sz v t (ys.set k e')) L') (hk : ys[k]? = some e) (he : SetTo (E e) 0 u (E e')) (h1 : u.oneCell' = true) (kk : WL false P w0 X N ops Q rest fr L') :
    WL false P w0 X N ops Q (⟨none, .store T x y, ty, ps, af, none⟩ :: rest) fr L :=
  WL.storeF (f := 0) hx hy hp hL hk hE.pos he h1 kk
end
end Go.Proofs.Ytcmmfamippdgbaa.Vc

namespace Go.Proofs.Ytcmmfamippdgbaa.Vc
open Go.RowKit

def tbool (P : Program) (t : Nat) : Bool := match P.underlying t with | some .bool => true | _ => false
class TBool (P : Program) (t : Nat) : Prop where h : tbool P t = true
def tstruct (P : Program) (t : Nat) : Option (List (Nat × Nat) × List Value) :=
  match P.info? t, P.underlying t with
  | some it, some (.struct fields) =>
    match it.zero, fields.toList.mapM (fun f => (P.info? f.type).map fun i => (f.offset, i.size)) with
    | some z, some places => some (places, z.cells.toList)
    | _, _ => none
  | _, _ => none
class TStruct (P : Program) (t : Nat) (pl : outParam (List (Nat × Nat))) (zs : outParam (List Value)) : Prop where h : tstruct P t = some (pl, zs)
class TFunc (P : Program) (f : Nat) : Prop where h : ∀ args w, (callFunc f args).run P w = .ok (.enter f args) w

theorem TFunc.of {P : Program} {f : Nat} {fn : Func} (hf : P.funcs[f]? = some fn) (hn : (fn.name == "runtime.NumGoroutine") = false) (hb : fn.body.isNone = false) : TFunc P f :=
  ⟨fun args w => by
    simp only [callFunc, Sem.run_bind, run_program, Result.andThen_ok, hf]
    rw [if_neg (by rw [hn]; simp), if_neg (by rw [hb]; simp)]
    rfl⟩

section
variable {q : Bool} {P : Program} {w0 : World} {X : List Nat} {N : Nat} {ops : Array Oper} {Q : Exit → Act → World → Prop} {rest : List Oper} {fr : Fr} {L : List Res}
variable {d ty : Nat} {ps : String} {af : Array Edge}

/-! ## comparisons of bools -/
theorem run_eqb {t : Nat} (h : tbool P t = true) (a b : Bool) (w : World) : (Op.equal t (.bool a) (.bool b)).run P w = .ok (a == b) w := by
  unfold tbool at h
  split at h
  · rename_i hu
    exact run_equal_bool w t a b hu
  · cases h
theorem WL.neqb {x y : Operand} {a b : Bool} {t t' : Nat} [hT : TBool P t] (hx : ev fr x = some (.bool a)) (hy : ev fr y = some (.bool b)) (hN : Nat.ble (d + 1) N = true)
    (k : WL q P w0 X N ops Q rest ((d, .bool (!(a == b))) :: fr) L) : WL q P w0 X N ops Q (⟨some d, .binOp .neq t x y t', ty, ps, af, none⟩ :: rest) fr L :=
  WL.value rfl rfl hN (fun _ w ha _ => by simp [execOp, ha.ev hx, ha.ev hy, binOp, run_guard_bool, run_eqb hT.h]) k
theorem WL.eqlb {x y : Operand} {a b : Bool} {t t' : Nat} [hT : TBool P t] (hx : ev fr x = some (.bool a)) (hy : ev fr y = some (.bool b)) (hN : Nat.ble (d + 1) N = true)
    (k : WL q P w0 X N ops Q rest ((d, .bool (a == b)) :: fr) L) : WL q P w0 X N ops Q (⟨some d, .binOp .eql t x y t', ty, ps, af, none⟩ :: rest) fr L :=
  WL.value rfl rfl hN (fun _ w ha _ => by simp [execOp, ha.ev hx, ha.ev hy, binOp, run_guard_bool, run_eqb hT.h]) k

/-! ## struct literals -/
inductive Bld (fr : Fr) (pl : List (Nat × Nat)) : List Value → List (Nat × Operand) → List Value → Prop
  | nil {zs : List Value} : Bld fr pl zs [] zs
  | one {i off : Nat} {x : Operand} {v : Value} {zs zs1 out : List Value} {parts : List (Nat × Operand)} : pl[i]? = some (off, 1) → ev fr x = some v → v.oneCell' = true → SetTo zs off v zs1 → Bld fr pl zs1 parts out → Bld fr pl zs ((i, x) :: parts) out
  | agg {i off n : Nat} {x : Operand} {vs zs zs1 out : List Value} {parts : List (Nat × Operand)} : pl[i]? = some (off, n) → ev fr x = some (.agg vs.toArray) → vs.length = n → Put zs off vs zs1 → Bld fr pl zs1 parts out → Bld fr pl zs ((i, x) :: parts) out

theorem foldl_put : ∀ (vs : List Value) (i : Nat) (off : Nat) (zs : List Value), off + i + vs.length ≤ zs.length →
    (vs.zipIdx i).foldl (fun (cs : Array Value) (x : Value × Nat) => cs.setIfInBounds (off + x.2) x.1) zs.toArray = (zs.take (off + i) ++ vs ++ zs.drop (off + i + vs.length)).toArray
  | [], i, off, zs, h => by simp
  | v :: r, i, off, zs, h => by
    simp only [List.length_cons] at h
    have ih := foldl_put r (i + 1) off (zs.set (off + i) v) (by simp; omega)
    simp only [List.zipIdx_cons, List.foldl_cons, List.setIfInBounds_toArray, List.length_cons]
    rw [ih]
    congr 1
    apply List.ext_getElem?
    intro j
    rw [show off + i + (r.length + 1) = off + i + (v :: r).length from rfl, splice_at _ _ _ _ (by simp; omega), show off + (i + 1) + r.length = (off + (i + 1)) + r.length from rfl, splice_at _ _ _ _ (by simp; omega)]
    by_cases h1 : j < off + i
    · rw [if_pos (by omega), if_pos h1, List.getElem?_set_ne (by omega)]
    · by_cases h2 : j = off + i
      · subst h2
        rw [if_pos (by omega), if_neg (by omega), if_pos (by simp)]
        simp [List.getElem?_set_self (show off + i < zs.length by omega)]
      · rw [if_neg (by omega), if_neg h1]
        by_cases h3 : j < off + i + (v :: r).length
        · rw [if_pos (by simp at h3; omega), if_pos h3]
          obtain ⟨m, rfl⟩ : ∃ m, j = off + i + 1 + m := ⟨j - (off + i + 1), by omega⟩
          rw [show off + i + 1 + m - (off + (i + 1)) = m by omega, show off + i + 1 + m - (off + i) = m + 1 by omega, List.getElem?_cons_succ]
        · rw [if_neg (by simp at h3; omega), if_neg h3, List.getElem?_set_ne (by omega)]

theorem fill_cons (place : Nat → Option (Nat × Nat)) (zs vs : List Value) (i off : Nat) (v : Value) (r : List (Nat × Value)) (hp : place i = some (off, vs.length)) (hv : v.cells = vs.toArray) (hl : off + vs.length ≤ zs.length) :
    Instr.fill place zs.toArray ((i, v) :: r) = Instr.fill place (zs.take off ++ vs ++ zs.drop (off + vs.length)).toArray r := by
  have hf := foldl_put vs 0 off zs (by simpa using hl)
  simp only [Nat.add_zero] at hf
  rw [← hf]
  simp only [Instr.fill, hp]
  rw [if_neg (by rw [hv]; simp; omega)]
  rw [hv]
  congr 1
  rw [← Array.foldl_toList]
  simp

theorem Bld.fill {pl : List (Nat × Nat)} {a : Act} (ha : As N fr a) {zs : List Value} {parts : List (Nat × Operand)} {out : List Value} (h : Bld fr pl zs parts out) :
    Instr.fill (pl.toArray[·]?) zs.toArray (parts.map fun x => (x.1, a.eval x.2)) = some out.toArray := by
  induction h with
  | nil => simp [Instr.fill]
  | @one i off x v zs zs1 out parts hp hx h1 hs hb ih =>
    obtain ⟨e1, e2⟩ := hs.eq
    have hcells : v.cells = [v].toArray := by cases v <;> first | rfl | (simp [Value.oneCell'] at h1)
    rw [List.map_cons, fill_cons _ zs [v] i off _ _ (by simpa using hp) (by rw [ha.ev hx, hcells]) (by simp; omega)]
    rw [List.set_eq_take_append_cons_drop, if_pos e2] at e1
    rw [← ih, ← e1]
    simp
  | @agg i off n x vs zs zs1 out parts hp hx hl hs hb ih =>
    obtain ⟨e1, e2⟩ := hs.eq
    rw [List.map_cons, fill_cons _ zs vs i off _ _ (by simpa [hl] using hp) (by rw [ha.ev hx]; rfl) e2, ← e1]
    exact ih

theorem built_of {t : Nat} {pl : List (Nat × Nat)} {zs : List Value} (h : tstruct P t = some (pl, zs)) (parts : List (Nat × Value)) : P.built t parts = Instr.fill (pl.toArray[·]?) zs.toArray parts := by
  unfold tstruct at h
  unfold Program.built
  split at h
  · rename_i it fields hi hu
    split at h
    · rename_i z places hz hp
      simp only [Option.some.injEq, Prod.mk.injEq] at h
      obtain ⟨rfl, rfl⟩ := h
      simp only [hi, hu, hz, hp]
    · cases h
  · cases h

theorem WL.build {t : Nat} {parts : List (Nat × Operand)} {pl : List (Nat × Nat)} {zs out : List Value} [hT : TStruct P t pl zs] (hb : Bld fr pl zs parts out) (hN : Nat.ble (d + 1) N = true)
    (k : WL q P w0 X N ops Q rest ((d, .agg out.toArray) :: fr) L) : WL q P w0 X N ops Q (⟨some d, .build t parts.toArray, ty, ps, af, none⟩ :: rest) fr L :=
  WL.value rfl rfl hN (fun a w ha _ => by
    have h1 := hb.fill ha
    have h2 := run_build (P := P) w t (parts.map fun x => (x.1, a.eval x.2)).toArray out.toArray (by rw [built_of hT.h, ← h1])
    simp only [execOp, List.map_toArray, Sem.run_bind, h2]
    rfl) k

/-! ## slices that are made -/
section
variable {α : Type} {E : α → List Value} {sz : Nat}

theorem flat_replicate (hE : Enc E sz) (y : α) {z : Array Value} (hz : E y = z.toList) (n : Nat) : (List.replicate n y).flatMap E = (madeCells z (n * sz)).toList := by
  have hzs : z.size = sz := by have := hE.len y; rw [hz] at this; simpa using this
  apply List.ext_getElem?
  intro j
  by_cases hj : j < n * sz
  · obtain ⟨q, r, hr, rfl⟩ : ∃ q r, r < sz ∧ j = q * sz + r := ⟨j / sz, j % sz, Nat.mod_lt _ hE.pos, by rw [Nat.mul_comm]; exact (Nat.div_add_mod _ _).symm⟩
    have hq : q < n := by
      rcases Nat.lt_or_ge q n with hq | hq
      · exact hq
      · have := Nat.mul_le_mul_right sz hq; omega
    rw [hE.flat_at (k := q) (y := y) (by simp [hq]) hr, hz]
    have hm : (q * sz + r) % z.size = r := by rw [hzs, Nat.mul_comm, Nat.mul_add_mod, Nat.mod_eq_of_lt hr]
    have hr' : r < z.size := by omega
    rw [madeCells, Array.toList_map, List.getElem?_map, Array.toList_range, List.getElem?_range hj]
    simp only [Option.map_some, hm]
    rw [getElem!_pos z r hr', Array.getElem?_toList]
    simp [hr']
  · rw [List.getElem?_eq_none (by rw [hE.flat_len]; simp; omega), List.getElem?_eq_none (by simp [madeCells]; omega)]

theorem St.new_own {w : World} {t : Nat} {n cap : Nat} {cur : Array Value} {ys : List α} (hE : Enc E sz) (h : St w0 X w L) (hl : ys.length = n) (hn : n ≤ cap) (hm : cap ≤ maxLen) (hs : cur.size = cap * sz) (ht : cur.toList.take (n * sz) = ys.flatMap E) :
    St w0 X (w.alloc (.cells cur t)) (own E sz (.slice (some ⟨w.heap.size, 0, none⟩) n cap) t ys :: L) := by
  refine St.call0 (Rs := [_]) h ⟨Keep.alloc _ _ _, ?_, List.pairwise_singleton _ _, ?_⟩
  · intro r hr
    simp only [List.mem_singleton] at hr
    subst hr
    rw [own_holds]
    refine ⟨hE.flat_len ys, .inr ⟨w.heap.size, cap, cur, by rw [hl], Nat.zero_le _, heap_alloc_new w _, by rw [hl]; exact hn, hm, hs, by rw [hl]; exact ht⟩⟩
  · intro r hr b hb
    simp only [List.mem_singleton] at hr
    subst hr
    rw [own_foot] at hb
    simp [Value.ownBlock] at hb
    subst hb
    exact .inl (Nat.le_refl _)

theorem WL.make {l : Operand} {T e bw : Nat} {zs : List Value} {n : Int} (y : α) [hE : Enc E sz] [hT : TSlice P T e sz bw zs] (hl : ev fr l = some (.int .i64 n)) (hy : E y = zs) (hb : 0 ≤ n ∧ n ≤ 4398046511104) (hbw : Nat.ble bw 64 = true) (hN : Nat.ble (d + 1) N = true)
    (k : ∀ v : Value, v.oneCell' = true → WL false P w0 X N ops Q rest ((d, v) :: fr) (own E sz v e (List.replicate n.toNat y) :: L)) : WL false P w0 X N ops Q (⟨some d, .makeSlice T l l, ty, ps, af, none⟩ :: rest) fr L :=
  WL.makes (B := Value) (G := fun v => v.oneCell' = true) (v := fun v => v) (L' := fun v => own E sz v e (List.replicate n.toNat y) :: L) rfl rfl hN (fun a w ha h => by
    obtain ⟨i, z, hu, hi, hz, rfl, rfl, hzs, hzz⟩ := tslice_parts hT.h
    have hbw' := Nat.le_of_ble_eq_true hbw
    have hm : (i.bytes : Int) * n ≤ 64 * n := Int.mul_le_mul_of_nonneg_right (by omega) hb.1
    have hr := run_make (P := P) w T e i z hu hi hz .i64 .i64 n n hb.1 (Int.le_refl _) (by omega) (by omega)
    refine ⟨.slice (some ⟨w.heap.size, 0, none⟩) n.toNat n.toNat, w.alloc (.cells (madeCells z.cells (n.toNat * i.size)) e), ?_, rfl, St.new_own hE h (by simp) (Nat.le_refl _) (by unfold maxLen; omega) (size_madeCells _ _) ?_⟩
    · simp [execOp, ha.ev hl, hr]
    · rw [flat_replicate hE y (by rw [hy, hzs]) n.toNat, List.take_of_length_le (by rw [Array.length_toList, size_madeCells]; exact Nat.le_refl _)]) k

/-- the elements of a slice literal -/
inductive Parts (E : α → List Value) (fr : Fr) : Nat → List (Nat × Operand) → List α → Prop
  | nil {i : Nat} : Parts E fr i [] []
  | one {i : Nat} {x : Operand} {v : Value} {y : α} {ps : List (Nat × Operand)} {ys : List α} : ev fr x = some v → [v] = E y → Parts E fr (i + 1) ps ys → Parts E fr i ((i, x) :: ps) (y :: ys)
  | agg {i : Nat} {x : Operand} {vs : List Value} {y : α} {ps : List (Nat × Operand)} {ys : List α} : ev fr x = some (.agg vs.toArray) → vs = E y → Parts E fr (i + 1) ps ys → Parts E fr i ((i, x) :: ps) (y :: ys)

theorem Parts.fill (hE : Enc E sz) {a : Act} (ha : As N fr a) {i : Nat} {ps : List (Nat × Operand)} {ys : List α} (h : Parts E fr i ps ys) : ∀ (zs : List Value), (i + ys.length) * sz ≤ zs.length →
    Instr.fill (fun i => some (i * sz, sz)) zs.toArray (ps.map fun x => (x.1, a.eval x.2)) = some (zs.take (i * sz) ++ ys.flatMap E ++ zs.drop ((i + ys.length) * sz)).toArray := by
  have step : ∀ (i : Nat) (zs vs : List Value) (y : α) (ys : List α), vs = E y → (i + (y :: ys).length) * sz ≤ zs.length →
      (zs.take (i * sz) ++ vs ++ zs.drop (i * sz + vs.length)).take ((i + 1) * sz) ++ ys.flatMap E ++ (zs.take (i * sz) ++ vs ++ zs.drop (i * sz + vs.length)).drop ((i + 1 + ys.length) * sz) =
        zs.take (i * sz) ++ (y :: ys).flatMap E ++ zs.drop ((i + (y :: ys).length) * sz) := by
    intro i zs vs y ys hv hl
    have hvl : vs.length = sz := by rw [hv]; exact hE.len y
    have e1 : (i + 1) * sz = i * sz + sz := Nat.succ_mul i sz
    have e2 : (i + (y :: ys).length) * sz = i * sz + sz + ys.length * sz := by simp only [List.length_cons]; rw [show i + (ys.length + 1) = (i + 1) + ys.length by omega, Nat.add_mul, e1]
    have e3 : (i + 1 + ys.length) * sz = i * sz + sz + ys.length * sz := by rw [Nat.add_mul, e1]
    rw [e2] at hl
    have hA : (zs.take (i * sz) ++ vs).length = i * sz + sz := by simp [hvl]; omega
    rw [e1, e2, e3, List.take_left' hA, List.drop_append, List.drop_eq_nil_of_le (by rw [hA]; omega), List.nil_append, hA, List.drop_drop, List.flatMap_cons, ← hv, hvl]
    rw [show i * sz + sz + (i * sz + sz + ys.length * sz - (i * sz + sz)) = i * sz + sz + ys.length * sz by omega]
    simp only [List.append_assoc]
  have next : ∀ (i : Nat) (x : Operand) (v : Value) (vs : List Value) (y : α) (ps : List (Nat × Operand)) (ys : List α), a.eval x = v → v.cells = vs.toArray → vs = E y →
      (∀ (zs : List Value), (i + 1 + ys.length) * sz ≤ zs.length → Instr.fill (fun i => some (i * sz, sz)) zs.toArray (ps.map fun x => (x.1, a.eval x.2)) = some (zs.take ((i + 1) * sz) ++ ys.flatMap E ++ zs.drop ((i + 1 + ys.length) * sz)).toArray) →
      ∀ (zs : List Value), (i + (y :: ys).length) * sz ≤ zs.length →
      Instr.fill (fun i => some (i * sz, sz)) zs.toArray (((i, x) :: ps).map fun x => (x.1, a.eval x.2)) = some (zs.take (i * sz) ++ (y :: ys).flatMap E ++ zs.drop ((i + (y :: ys).length) * sz)).toArray := by
    intro i x v vs y ps ys hx hc hv ih zs hz
    have hvl : vs.length = sz := by rw [hv]; exact hE.len y
    have hle : (i + 1) * sz ≤ zs.length := Nat.le_trans (Nat.mul_le_mul_right _ (by simp only [List.length_cons]; omega)) hz
    have e1 : (i + 1) * sz = i * sz + sz := Nat.succ_mul i sz
    rw [List.map_cons, fill_cons _ zs vs i (i * sz) _ _ (by rw [hvl]) (by rw [hx, hc]) (by omega), ih _ ?_, step i zs vs y ys hv hz]
    have : (zs.take (i * sz) ++ vs ++ zs.drop (i * sz + vs.length)).length = zs.length := by simp only [List.length_append, List.length_take, List.length_drop]; omega
    rw [this]
    simp only [List.length_cons] at hz
    rw [show i + 1 + ys.length = i + (ys.length + 1) by omega]; exact hz
  induction h with
  | nil => intro zs hz; simp [Instr.fill]
  | @one i x v y ps ys hx hv hp ih =>
    have h1 : v.oneCell' = true := by have := hE.one y; rw [← hv] at this; simpa using this
    exact next i x v [v] y ps ys (ha.ev hx) (by cases v <;> first | rfl | (simp [Value.oneCell'] at h1)) hv ih
  | @agg i x vs y ps ys hx hv hp ih =>
    exact next i x _ vs y ps ys (ha.ev hx) rfl hv ih
end
end
end Go.Proofs.Ytcmmfamippdgbaa.Vc

namespace Go.Proofs.Ytcmmfamippdgbaa.Vc
open Go.RowKit

section
variable {q : Bool} {P : Program} {w0 : World} {X : List Nat} {N : Nat} {ops : Array Oper} {Q : Exit → Act → World → Prop} {rest : List Oper} {fr : Fr} {L : List Res}
variable {d ty : Nat} {ps : String} {af : Array Edge}
variable {α : Type} {E : α → List Value} {sz : Nat}

/-- []T{..} -/
theorem WL.lit {T e bw n : Nat} {zs : List Value} {parts : List (Nat × Operand)} {ys : List α} [hE : Enc E sz] [hT : TSlice P T e sz bw zs] (hp : Parts E fr 0 parts ys) (hn : ys.length = n) (hs : Nat.ble (n * sz) 16777216 = true) (hN : Nat.ble (d + 1) N = true)
    (k : ∀ v : Value, v.oneCell' = true → WL false P w0 X N ops Q rest ((d, v) :: fr) (own E sz v e ys :: L)) : WL false P w0 X N ops Q (⟨some d, .buildSlice T n parts.toArray, ty, ps, af, none⟩ :: rest) fr L :=
  WL.makes (B := Value) (G := fun v => v.oneCell' = true) (v := fun v => v) (L' := fun v => own E sz v e ys :: L) rfl rfl hN (fun a w ha h => by
    obtain ⟨i, z, hu, hi, hz, rfl, rfl, hzs, hzz⟩ := tslice_parts hT.h
    have hs' := Nat.le_of_ble_eq_true hs
    have hE0 := hE.pos
    have hcap : n ≤ maxLen := by
      have := Nat.le_mul_of_pos_right n hE0
      unfold maxLen; omega
    let zz : List Value := ((Array.range (n * i.size)).map (z.cells[· % z.cells.size]!)).toList
    have hzl : zz.length = n * i.size := by simp [zz]
    have hf := hp.fill hE ha zz (by rw [Nat.zero_add, hn, hzl]; exact Nat.le_refl _)
    rw [Nat.zero_mul, Nat.zero_add, hn, List.take_zero, List.nil_append, List.drop_eq_nil_of_le (by rw [hzl]; exact Nat.le_refl _), List.append_nil] at hf
    have hz2 : zz.toArray = (Array.range (n * i.size)).map (z.cells[· % z.cells.size]!) := rfl
    rw [hz2] at hf
    have hfl : (ys.flatMap E).length = n * i.size := by rw [hE.flat_len, hn]
    refine ⟨.slice (some ⟨w.heap.size, 0, none⟩) n n, w.alloc (.cells (ys.flatMap E).toArray e), ?_, rfl, St.new_own hE h hn (Nat.le_refl _) hcap (by simp [hfl]) (by rw [List.take_of_length_le (by simp [hfl])])⟩
    by_cases h0 : n * i.size = 0
    · have hn0 : n = 0 := (Nat.mul_eq_zero.1 h0).resolve_right (by omega)
      subst hn0
      have hy0 : ys = [] := List.length_eq_zero_iff.1 hn
      subst hy0
      cases hp
      simp [execOp, Instr.buildSlice, run_underlying hu, sizeOf, typeInfo, hi, Instr.fill, newRow, Array.range_zero']
    · have hr := Go.run_buildSlice (P := P) w T e n (parts.map fun x => (x.1, a.eval x.2)).toArray (ys.flatMap E).toArray i z hu hi hz (by omega) h0 (by simpa using hf)
      simp only [execOp, List.map_toArray, Sem.run_bind, hr]
      rfl) k

/-! ## slice expressions -/
theorem run_bound {x : Value} {n : Int} {y : Nat} (hx : x = .int .i64 n) (h : 0 ≤ n ∧ n ≤ y) (c : BoundsCode) (w : World) : (Instr.sliceBound x y c).run P w = .ok n.toNat w := by
  subst hx; simp [Instr.sliceBound, asIntOf, h.1, h.2]
theorem Sl.cut_ [hE : Enc E sz] {A : Option Addr} {n c l h : Nat} {ys : List α} {w : World} (hs : Sl E sz (.slice A n c) ys w) (hl : l ≤ h) (hh : h ≤ ys.length) :
    Sl E sz (.slice (if c = l then A else A.map (·.add (l * sz))) (h - l) (c - l)) ((ys.take h).drop l) w := by
  unfold Sl at hs ⊢
  obtain ⟨A', c', hv, hc, h3⟩ := hs
  simp only [Value.slice.injEq] at hv
  obtain ⟨rfl, rfl, rfl⟩ := hv
  have hlen : ((ys.take h).drop l).length = h - l := by simp; omega
  refine ⟨_, _, by rw [hlen], by rw [hlen]; omega, fun hp => ?_⟩
  rw [hlen] at hp
  obtain ⟨ad, rfl, hcell⟩ := h3 (by omega)
  rw [if_neg (by omega)]
  refine ⟨_, rfl, fun j u hj => ?_⟩
  rw [add_add_]
  refine hcell _ u ?_
  have hflat : (ys.flatMap E)[l * sz + j]? = (((ys.take h).drop l).flatMap E)[j]? := by
    have hjl : j < (h - l) * sz := by
      have := (List.getElem?_eq_some_iff.1 hj).1
      rw [hE.flat_len, hlen] at this; exact this
    obtain ⟨q, r, hr, rfl⟩ : ∃ q r, r < sz ∧ j = q * sz + r := ⟨j / sz, j % sz, Nat.mod_lt _ hE.pos, by rw [Nat.mul_comm]; exact (Nat.div_add_mod _ _).symm⟩
    have hq : q < h - l := by
      rcases Nat.lt_or_ge q (h - l) with hq | hq
      · exact hq
      · have := Nat.mul_le_mul_right sz hq; omega
    have e1 : ys[l + q]? = some (ys[l + q]'(by omega)) := List.getElem?_eq_getElem _
    have e2 : ((ys.take h).drop l)[q]? = some (ys[l + q]'(by omega)) := by
      rw [List.getElem?_drop, List.getElem?_take, if_pos (by omega)]; exact e1
    rw [hE.flat_at e2 hr, show l * sz + (q * sz + r) = (l + q) * sz + r by rw [Nat.add_mul]; omega, hE.flat_at e1 hr]
  rw [hflat]; exact hj

theorem WL.slice_ {x : Operand} {lo hi : Option Operand} {T e bw : Nat} {zs : List Value} {v : Value} {ys : List α} {l h : Nat} [hE : Enc E sz] [hT : TSlice P T e sz bw zs] (hx : ev fr x = some v)
    (hs : ∀ w, St w0 X w L → Sl E sz v ys w)
    (hr : ∀ a w c, As N fr a → ys.length ≤ c → (Instr.sliceBounds true ys.length c (lo.map a.eval) (hi.map a.eval) none).run P w = .ok (l, h, c) w) (hl : l ≤ h) (hh : h ≤ ys.length) (hN : Nat.ble (d + 1) N = true)
    (k : ∀ v' : Value, v'.oneCell' = true → (∀ w, Sl E sz v ys w → Sl E sz v' ((ys.take h).drop l) w) → WL q P w0 X N ops Q rest ((d, v') :: fr) L) :
    WL q P w0 X N ops Q (⟨some d, .slice T x lo hi none, ty, ps, af, none⟩ :: rest) fr L :=
  WL.picks (B := Value) (G := fun v' => v'.oneCell' = true ∧ ∀ w, Sl E sz v ys w → Sl E sz v' ((ys.take h).drop l) w) (v := fun v => v) rfl rfl hN (fun a w ha hst => by
    obtain ⟨i, z, hu, hi', hz, hsz, _⟩ := tslice_parts hT.h
    obtain ⟨A, c, hv, hc⟩ := (hs w hst).form
    subst hv
    refine ⟨.slice (if c = l then A else A.map (·.add (l * sz))) (h - l) (c - l), ⟨rfl, fun w hw => hw.cut_ hl hh⟩, fun w' _ => ?_⟩
    have := hr a w' c ha hc
    have hsz' : (sizeOf e).run P w' = .ok sz w' := by simp [sizeOf, typeInfo, hi', hsz]
    simp only [execOp, ha.ev hx, Option.map_none, Instr.sliceAt, Instr.slice, Sem.run_bind, run_underlying hu, Result.andThen_ok, this, hsz']
    rfl) (fun v' h' => k v' h'.1 h'.2)

/-- s[lo:] -/
theorem WL.slice_lo {x y : Operand} {T e bw : Nat} {zs : List Value} {v : Value} {ys : List α} {n : Int} [hE : Enc E sz] [hT : TSlice P T e sz bw zs] (hx : ev fr x = some v) (hy : ev fr y = some (.int .i64 n))
    (hs : ∀ w, St w0 X w L → Sl E sz v ys w) (hb : 0 ≤ n ∧ n ≤ ys.length) (hN : Nat.ble (d + 1) N = true)
    (k : ∀ v' : Value, v'.oneCell' = true → (∀ w, Sl E sz v ys w → Sl E sz v' (ys.drop n.toNat) w) → WL q P w0 X N ops Q rest ((d, v') :: fr) L) :
    WL q P w0 X N ops Q (⟨some d, .slice T x (some y) none none, ty, ps, af, none⟩ :: rest) fr L :=
  WL.slice_ (l := n.toNat) (h := ys.length) hx hs (fun a w c ha hc => by
    simp [Instr.sliceBounds, ha.ev hy, run_bound (P := P) (y := ys.length) rfl hb]) (by omega) (Nat.le_refl _) hN (fun v' h1 h2 => k v' h1 (by rw [List.take_length] at h2; exact h2))
/-- s[:hi] -/
theorem WL.slice_hi {x y : Operand} {T e bw : Nat} {zs : List Value} {v : Value} {ys : List α} {n : Int} [hE : Enc E sz] [hT : TSlice P T e sz bw zs] (hx : ev fr x = some v) (hy : ev fr y = some (.int .i64 n))
    (hs : ∀ w, St w0 X w L → Sl E sz v ys w) (hb : 0 ≤ n ∧ n ≤ ys.length) (hN : Nat.ble (d + 1) N = true)
    (k : ∀ v' : Value, v'.oneCell' = true → (∀ w, Sl E sz v ys w → Sl E sz v' (ys.take n.toNat) w) → WL q P w0 X N ops Q rest ((d, v') :: fr) L) :
    WL q P w0 X N ops Q (⟨some d, .slice T x none (some y) none, ty, ps, af, none⟩ :: rest) fr L :=
  WL.slice_ (l := 0) (h := n.toNat) hx hs (fun a w c ha hc => by
    simp [Instr.sliceBounds, ha.ev hy, run_bound (P := P) (y := c) rfl (show 0 ≤ n ∧ n ≤ c by omega)]) (by omega) (by omega) hN (fun v' h1 h2 => k v' h1 (by rw [List.drop_zero] at h2; exact h2))

/-! ## append -/
theorem St.own_nil {w : World} (h : St w0 X w L) (t : TypeId) (c : Nat) (hc : c = 0) : St w0 X w (own E sz (.slice none 0 c) t ([] : List α) :: L) := by
  subst hc
  refine St.call0 (Rs := [_]) h ⟨Keep.refl _ _, ?_, List.pairwise_singleton _ _, ?_⟩
  · intro r hr; simp only [List.mem_singleton] at hr; subst hr; rw [own_holds]; exact World.ownsRow_nil _ _ _ _
  · intro r hr b hb; simp only [List.mem_singleton] at hr; subst hr; rw [own_foot] at hb; simp [Value.ownBlock] at hb
theorem WL.nil_own (E : α → List Value) (sz t : Nat) (h : WL false P w0 X N ops Q rest fr (own E sz (.slice none 0 0) t ([] : List α) :: L)) : WL false P w0 X N ops Q rest fr L :=
  fun a w ha hs => h a w ha (hs.own_nil t 0 rfl)
theorem WC.nil_own {c : Code} (E : α → List Value) (sz t : Nat) (h : WC P w0 X N Q c fr (own E sz (.slice none 0 0) t ([] : List α) :: L)) : WC P w0 X N Q c fr L :=
  fun a w ha hs => h a w ha (hs.own_nil t 0 rfl)

theorem run_app_nil (t ty e : TypeId) (i : TypeInfo) (size base : Nat) (ht : P.underlying t = some (.slice e)) (hi : P.info? e = some i) (w : World)
    (v : Value) (n : Nat) (xs : List Value) (hown : w.ownsRow base e size v n xs) (c : Nat) (A : Option Addr) : (Builtin.append_ #[t, t] ty #[v, .slice A 0 c]).run P w = .ok v w := by
  rcases hown.2 with ⟨rfl, rfl⟩ | ⟨g, cap, cur, rfl, _, _, hnc, _⟩ <;> cases A
  · simp [Builtin.append_, run_underlying ht, sizeOf, typeInfo, hi, Builtin.lenOf, Builtin.firstCells]
  · simp [Builtin.append_, run_underlying ht, sizeOf, typeInfo, hi, Builtin.lenOf, Builtin.firstCells, loadCells, loadCellsFrom]
  · simp [Builtin.append_, run_underlying ht, sizeOf, typeInfo, hi, Builtin.lenOf, Builtin.firstCells, hnc, storeCells]
  · simp [Builtin.append_, run_underlying ht, sizeOf, typeInfo, hi, Builtin.lenOf, Builtin.firstCells, hnc, storeCells, loadCells, loadCellsFrom]

theorem ownsRow_one {w : World} {base e size n : Nat} {v : Value} {xs : List Value} (h : w.ownsRow base e size v n xs) : v.oneCell' = true := by
  rcases h.2 with ⟨rfl, _⟩ | ⟨g, cap, cur, rfl, _⟩ <;> rfl

theorem WL.append {x y : Operand} {T e bw : Nat} {zs : List Value} {v u : Value} {ys us : List α} {L' : List Res} [hE : Enc E sz] [hT : TSlice P T e sz bw zs] (hx : ev fr x = some v) (hy : ev fr y = some u)
    (hL : Del L (own E sz v e ys) L') (hs : ∀ w, St w0 X w L → Sl E sz u us w) (hb : ys.length + us.length ≤ 1099511627776) (hbw : Nat.ble bw 64 = true) (hN : Nat.ble (d + 1) N = true)
    (k : ∀ v' : Value, v'.oneCell' = true → WL false P w0 X N ops Q rest ((d, v') :: fr) (own E sz v' e (ys ++ us) :: L')) :
    WL false P w0 X N ops Q (⟨some d, .call { callee := .builtin .append, args := #[x, y], argTypes := #[T, T] }, ty, ps, af, none⟩ :: rest) fr L :=
  WL.makes (B := Value) (G := fun v => v.oneCell' = true) (v := fun v => v) (L' := fun v' => own E sz v' e (ys ++ us) :: L') rfl rfl hN (fun a w ha h => by
    obtain ⟨i, z, hu, hi, hz, rfl, rfl, hzs, hzz⟩ := tslice_parts hT.h
    have hbw' := Nat.le_of_ble_eq_true hbw
    have hbytes : (ys.length + us.length) * i.bytes ≤ 140737488355328 := Nat.le_trans (Nat.mul_le_mul hb hbw') (by decide)
    have hp := hL.perm
    have hown := (own_holds (E := E)).1 (h.res _ (hp.mem_iff.2 (List.mem_cons_self ..)))
    have hsl := hs w h
    have fin : ∀ v' w', (Builtin.append_ #[T, T] ty #[v, u]).run P w = .ok v' w' → w'.ownsRow 0 e i.size v' (ys.length + us.length) (ys.flatMap E ++ us.flatMap E) → w.grownBy w' v.ownBlock → (v'.ownBlock = v.ownBlock ∨ v'.ownBlock = some w.heap.size) →
        ∃ x' w', (execOp a.eval ⟨some d, .call { callee := .builtin .append, args := #[x, y], argTypes := #[T, T] }, ty, ps, af, none⟩).run P w = .ok (.value x') w' ∧ x'.oneCell' = true ∧ St w0 X w' (own E i.size x' e (ys ++ us) :: L') := by
      intro v' w' hr ho hg hw
      refine ⟨v', w', ?_, ownsRow_one ho, ?_⟩
      · simp only [execOp, resolve, invoke, builtin, Sem.run_bind, Sem.run_pure, Result.andThen_ok, List.map_toArray, List.map_cons, List.map_nil, ha.ev hx, ha.ev hy, hr]
      · refine St.call (Lc := [own E i.size v e ys]) (Rs := [own E i.size v' e (ys ++ us)]) (M := v.ownBlock.toList) (h.perm hp) (fun b hb _ => ⟨_, List.mem_singleton.2 rfl, by rw [own_foot]; exact hb⟩)
          (fun b hb => Res.here _ w (h.res _ (hp.mem_iff.2 (List.mem_cons_self ..))) b (by rw [own_foot]; exact hb)) ⟨Keep.of_grown hg, ?_, List.pairwise_singleton _ _, ?_⟩
        · intro r hr
          simp only [List.mem_singleton] at hr
          subst hr
          rw [own_holds, List.length_append, List.flatMap_append]
          exact ho
        · intro r hr b hb
          simp only [List.mem_singleton] at hr
          subst hr
          rw [own_foot] at hb
          rcases hw with hw | hw
          · rw [hw] at hb; exact .inr hb
          · rw [hw] at hb; simp at hb; exact .inl (by omega)
    by_cases h0 : us.length = 0
    · have hu0 : us = [] := List.length_eq_zero_iff.1 h0
      subst hu0
      obtain ⟨A, c, rfl, _⟩ := hsl.form
      refine fin v w (run_app_nil T ty e i i.size 0 hu hi w v _ _ hown c A) (by simpa using hown) ⟨rfl, rfl, rfl, Nat.le_refl _, fun _ _ _ => rfl⟩ (.inl rfl)
    · unfold Sl at hsl
      obtain ⟨A, c, rfl, _, h3⟩ := hsl
      obtain ⟨ad, rfl, hcell⟩ := h3 (by omega)
      obtain ⟨v', w', hr, h2, h3, _, h5⟩ := run_append_own_at (P := P) w 0 T ty e i z i.size i.bytes hu hi hz rfl rfl hzz hE.pos v ys.length (ys.flatMap E) hown ad us.length c (us.flatMap E) (hE.flat_len us) hcell (hE.flat_one us)
        (by unfold maxLen; omega) hbytes (Nat.zero_le _)
      exact fin v' w' hr h2 h3 h5) k
end
end Go.Proofs.Ytcmmfamippdgbaa.Vc

namespace Go.Proofs.Ytcmmfamippdgbaa.Vc
open Go.RowKit

/-! ## contracts -/
/-- The call of f on argv in w returns some 'v x' with 'G x', and gives the resources 'Rs x'; of what was there only the blocks M may have turned. -/
def CallsTo (P : Program) (f : Nat) (argv : List Value) (w : World) (M : List Nat) {B : Type} (G : B → Prop) (v : B → Value) (Rs : B → List Res) : Prop :=
  Calls P f argv.toArray w (fun e w' => ∃ x, G x ∧ e = .returned (v x) ∧ St w M w' (Rs x))
/-- It returns v, and turns nothing that was there. -/
def FnP (P : Program) (f : Nat) (argv : List Value) (w : World) (v : Value) : Prop :=
  Calls P f argv.toArray w (fun e w' => e = .returned v ∧ St w [] w' [])

theorem CallsTo.toP {P : Program} {f : Nat} {argv : List Value} {w : World} {v : Value} (h : CallsTo P f argv w [] (B := Unit) (fun _ => True) (fun _ => v) (fun _ => [])) : FnP P f argv w v :=
  Calls.mono h fun _ _ ⟨_, _, he, hs⟩ => ⟨he, hs⟩

section
variable {q : Bool} {P : Program} {w0 : World} {X : List Nat} {N : Nat} {ops : Array Oper} {Q : Exit → Act → World → Prop} {rest : List Oper} {fr : Fr} {L : List Res}
variable {d ty : Nat} {ps : String} {af : Array Edge}

theorem run_call {f : Nat} [hF : TFunc P f] {x : Operand} {as : List Operand} {ats : Array Nat} {vs cap : List Value} {dst : Option Nat} {a : Act} (ha : As N fr a) (hf : ev fr x = some (.func (.func f) #[] cap.toArray)) (hv : evs fr as = some vs) (w : World) :
    (execOp a.eval ⟨dst, .call { callee := .value x, args := as.toArray, argTypes := ats }, ty, ps, af, none⟩).run P w = .ok (.enter f (vs ++ cap).toArray) w := by
  have h1 := ha.evs hv
  simp [execOp, resolve, ha.ev hf, Deferred.ofValue, invoke, List.map_toArray, h1, hF.h]

/-- A call that returns a value and leaves what was there as it was. -/
theorem WL.callP {f : Nat} {x : Operand} {as : List Operand} {ats : Array Nat} {vs cap : List Value} {v : Value} [TFunc P f] (hf : ev fr x = some (.func (.func f) #[] cap.toArray)) (hv : evs fr as = some vs)
    (hc : ∀ w, St w0 X w L → FnP P f (vs ++ cap) w v) (hN : Nat.ble (d + 1) N = true) (k : WL q P w0 X N ops Q rest ((d, v) :: fr) L) :
    WL q P w0 X N ops Q (⟨some d, .call { callee := .value x, args := as.toArray, argTypes := ats }, ty, ps, af, none⟩ :: rest) fr L := by
  intro a w ha hs
  have hk := fun w' hs' => k _ w' (ha.put (Nat.le_of_ble_eq_true hN) v) hs'
  have hcall : ∀ w', St w0 X w' L → Calls P f (vs ++ cap).toArray w' (fun e w'' => e = .returned v ∧ St w0 X w'' L ∧ Keep [] w' w'') := fun w' hs' =>
    Calls.mono (hc w' hs') fun e w'' ⟨he, hs''⟩ => ⟨he, hs'.of_keep hs''.keep, hs''.keep⟩
  cases q with
  | false =>
    show wpList P ops Q (_ :: rest) a w
    unfold wpList
    rw [if_pos (by simp [Region.wanted])]
    refine .inl ?_
    unfold Oper.wp
    rw [run_call ha hf hv, Oper.upon_enter]
    refine Calls.mono (hcall w hs) fun e w'' ⟨he, hs'', _⟩ => ?_
    subst he
    exact hk w'' hs''
  | true =>
    show wpQ P ops _ _ (_ :: rest) a
    unfold wpQ
    rw [if_pos (by simp [Region.wanted])]
    refine ⟨v, fun w' hw' => ?_, hk w hs⟩
    unfold Oper.quietAt
    rw [run_call ha hf hv]
    exact ⟨rfl, hcall w' hw'⟩

/-- A call that makes memory. -/
theorem WL.call {f : Nat} {x : Operand} {as : List Operand} {ats : Array Nat} {vs cap : List Value} {B : Type} {G : B → Prop} {v : B → Value} {Rs : B → List Res} [TFunc P f] (hf : ev fr x = some (.func (.func f) #[] cap.toArray)) (hv : evs fr as = some vs)
    (hc : ∀ w, St w0 X w L → CallsTo P f (vs ++ cap) w [] G v Rs) (hN : Nat.ble (d + 1) N = true) (k : ∀ x, G x → WL false P w0 X N ops Q rest ((d, v x) :: fr) (Rs x ++ L)) :
    WL false P w0 X N ops Q (⟨some d, .call { callee := .value x, args := as.toArray, argTypes := ats }, ty, ps, af, none⟩ :: rest) fr L := by
  refine WL.step rfl fun a w ha hs => ?_
  unfold Oper.wp
  rw [run_call ha hf hv, Oper.upon_enter]
  refine Calls.mono (hc w hs) fun e w'' ⟨x, hG, he, hs''⟩ => ?_
  subst he
  exact k x hG _ w'' (ha.put (Nat.le_of_ble_eq_true hN) (v x)) (hs.call0 hs'')

/-- A call that is handed the resources Lc and may write their blocks. -/
theorem WL.callM {f : Nat} {x : Operand} {as : List Operand} {ats : Array Nat} {vs cap : List Value} {B : Type} {G : B → Prop} {v : B → Value} {Rs : B → List Res} {Lc Lr : List Res} {M : List Nat} {dst : Option Nat} [TFunc P f]
    (hf : ev fr x = some (.func (.func f) #[] cap.toArray)) (hv : evs fr as = some vs) (hp : L.Perm (Lc ++ Lr)) (hM : ∀ b ∈ M, ∃ r ∈ Lc, b ∈ r.foot)
    (hc : ∀ w, St w0 X w L → CallsTo P f (vs ++ cap) w M G v Rs) (hN : match dst with | some d => Nat.ble (d + 1) N = true | none => True)
    (k : ∀ x, G x → WL false P w0 X N ops Q rest (match dst with | some d => (d, v x) :: fr | none => fr) (Rs x ++ Lr)) :
    WL false P w0 X N ops Q (⟨dst, .call { callee := .value x, args := as.toArray, argTypes := ats }, ty, ps, af, none⟩ :: rest) fr L := by
  refine WL.step rfl fun a w ha hs => ?_
  unfold Oper.wp
  rw [run_call ha hf hv, Oper.upon_enter]
  refine Calls.mono (hc w hs) fun e w'' ⟨x, hG, he, hs''⟩ => ?_
  subst he
  have hs1 := hs.perm hp
  have hst : St w0 X w'' (Rs x ++ Lr) := hs1.call (fun b hb _ => hM b hb) (fun b hb => by
    obtain ⟨r, hr, hbr⟩ := hM b hb
    exact r.here w (hs1.res r (by simp [hr])) b hbr) hs''
  cases dst with
  | some d => exact k x hG _ w'' (ha.put (Nat.le_of_ble_eq_true hN) (v x)) hst
  | none => exact k x hG _ w'' ha hst

/-! ## a function's body -/
def frOf : Nat → List Value → Fr
  | _, [] => []
  | i, v :: r => (i, v) :: frOf (i + 1) r
theorem frOf_get : ∀ (vs : List Value) (i j : Nat) (v : Value), (frOf i vs).get j = some v → i ≤ j ∧ vs[j - i]? = some v
  | [], i, j, v, h => by simp [frOf, Fr.get] at h
  | u :: r, i, j, v, h => by
    simp only [frOf, Fr.get] at h
    split at h
    · rename_i hb
      have := Nat.eq_of_beq_eq_true hb
      subst this
      simp only [Option.some.injEq] at h
      subst h
      simp
    · have ⟨h1, h2⟩ := frOf_get r (i + 1) j v h
      refine ⟨by omega, ?_⟩
      obtain ⟨m, rfl⟩ : ∃ m, j = i + 1 + m := ⟨j - (i + 1), by omega⟩
      rw [show i + 1 + m - i = m + 1 by omega, List.getElem?_cons_succ, show m = i + 1 + m - (i + 1) by omega]
      exact h2

theorem enter {f : Nat} {fn : Func} {c : Code} {argv : List Value} {w : World} {M : List Nat} {L0 : List Res} {R : Ending → World → Prop} (hf : P.funcs[f]? = some fn) (hb : fn.body = some c) (hn : fn.ntmps = N) (hle : Nat.ble argv.length N = true) (hfr : frOf 0 argv = fr) (h0 : St w M w L0)
    (h : WC P w M N (bodyPost P fn R) c fr L0) : Calls P f argv.toArray w R := by
  refine calls_of_wp hf hb (h _ w ?_ h0)
  have hle := Nat.le_of_ble_eq_true hle
  refine ⟨rfl, by simp [hn]; omega, fun i v hi => ?_⟩
  subst hfr
  have ⟨_, h2⟩ := frOf_get argv 0 i v hi
  have hlt : i < argv.length := (List.getElem?_eq_some_iff.1 h2).1
  simp only [Array.getD_eq_getD_getElem?]
  rw [Array.getElem?_append_left (by simpa using hlt)]
  simp at h2
  simp [h2]

theorem CallsTo.enter {f : Nat} {fn : Func} {c : Code} {argv : List Value} {w : World} {M : List Nat} {L0 : List Res} {B : Type} {G : B → Prop} {v : B → Value} {Rs : B → List Res} (hf : P.funcs[f]? = some fn) (hb : fn.body = some c) (hn : fn.ntmps = N) (hle : Nat.ble argv.length N = true) (hfr : frOf 0 argv = fr) (h0 : St w M w L0)
    (h : WC P w M N (bodyPost P fn (fun e w' => ∃ x, G x ∧ e = .returned (v x) ∧ St w M w' (Rs x))) c fr L0) : CallsTo P f argv w M G v Rs := Vc.enter hf hb hn hle hfr h0 h
theorem FnP.enter {f : Nat} {fn : Func} {c : Code} {argv : List Value} {w : World} {v : Value} (hf : P.funcs[f]? = some fn) (hb : fn.body = some c) (hn : fn.ntmps = N) (hle : Nat.ble argv.length N = true) (hfr : frOf 0 argv = fr)
    (h : WC P w [] N (bodyPost P fn (fun e w' => e = .returned v ∧ St w [] w' [])) c fr []) : FnP P f argv w v := Vc.enter hf hb hn hle hfr (St.start w []) h

/-! ## results -/
inductive Rets (P : Program) (fr : Fr) (L : List Res) : List ResultVar → List Value → Prop
  | nil : Rets P fr L [] []
  | tmp {t : Nat} {v : Value} {rs : List ResultVar} {vs : List Value} : fr.get t = some v → Rets P fr L rs vs → Rets P fr L (.tmp t :: rs) (v :: vs)
  | cellA {t T b o e sz : Nat} {cs us : List Value} {rs : List ResultVar} {vs : List Value} [TCell P T true sz] : fr.get t = some (.pointer (some ⟨b, o, none⟩)) → blk b e cs ∈ L → Cut cs o sz us → Rets P fr L rs vs → Rets P fr L (.cell t T :: rs) (.agg us.toArray :: vs)
  | cell1 {t T b o e : Nat} {cs : List Value} {v : Value} {rs : List ResultVar} {vs : List Value} [TCell P T false 1] : fr.get t = some (.pointer (some ⟨b, o, none⟩)) → blk b e cs ∈ L → cs[o]? = some v → Rets P fr L rs vs → Rets P fr L (.cell t T :: rs) (v :: vs)

def resOne (tmps : Array Value) : ResultVar → Sem Value
  | .tmp t => pure (tmps.getD t undef)
  | .cell a t => do loadVar t (← asAddr (tmps.getD a undef))

theorem Rets.run {a : Act} {w : World} (ha : As N fr a) (hs : St w0 X w L) {rs : List ResultVar} {vs : List Value} (h : Rets P fr L rs vs) : (rs.mapM (resOne a.tmps)).run P w = .ok vs w := by
  induction h with
  | nil => rfl
  | tmp h1 _ ih => simp only [List.mapM_cons, Sem.run_bind, resOne, Sem.run_pure, Result.andThen_ok, ih, ha.get _ _ h1]
  | @cellA t T b o e sz cs us rs vs hT h1 hL hc _ ih =>
    have hb := blk_holds.1 (hs.res _ hL)
    obtain ⟨e1, e2⟩ := hc.eq
    have hl : us.length = sz := by rw [← e1]; simp; omega
    have hr := run_loadCells_list (P := P) w ⟨b, o, none⟩ us (fun j v hj => by
      rw [add_lit, cell_blk hb, ← hj, ← e1]
      have : j < sz := by rw [← hl]; exact (List.getElem?_eq_some_iff.1 hj).1
      rw [List.getElem?_take, if_pos this, List.getElem?_drop])
    rw [hl] at hr
    simp only [List.mapM_cons, Sem.run_bind, resOne, ha.get _ _ h1, asAddr, Sem.run_pure, Result.andThen_ok, loadVar, run_isAgg_of hT.h, if_true, run_sizeOf_of hT.h, hr, ih]
  | @cell1 t T b o e cs v rs vs hT h1 hL hv _ ih =>
    have hb := blk_holds.1 (hs.res _ hL)
    have hr : (load ⟨b, o, none⟩).run P w = .ok v w := by simp [cell_blk hb, hv]
    simp only [List.mapM_cons, Sem.run_bind, resOne, ha.get _ _ h1, asAddr, Sem.run_pure, Result.andThen_ok, loadVar, run_isAgg_of hT.h, Bool.false_eq_true, if_false, hr, ih]

def retVal : List Value → Value
  | [v] => v
  | vs => .tuple vs.toArray
theorem run_results {fn : Func} {rs : List ResultVar} {vs : List Value} (hr : fn.results = rs.toArray) {a : Act} {w : World} (ha : As N fr a) (hs : St w0 X w L) (h : Rets P fr L rs vs) : (results fn a.tmps).run P w = .ok (retVal vs) w := by
  have hrun := h.run ha hs
  have e : results fn a.tmps = (do let vs ← rs.toArray.mapM (resOne a.tmps); pure (if h : vs.size = 1 then vs[0] else .tuple vs)) := by
    unfold results; rw [hr]; rfl
  rw [e]
  have e2 : (rs.toArray.mapM (resOne a.tmps)).run P w = .ok vs.toArray w := by
    rw [List.mapM_toArray]
    simp [hrun]
  simp only [Sem.run_bind, e2, Result.andThen_ok]
  match vs with
  | [] => rfl
  | [v] => rfl
  | u :: v :: r => simp [retVal]

theorem WQ.rets {fn : Func} {R : Ending → World → Prop} {rs : List ResultVar} {vs : List Value} (hr : fn.results = rs.toArray) (h : Rets P fr L rs vs) (hR : ∀ w, St w0 X w L → R (.returned (retVal vs)) w) : WQ w0 X N (bodyPost P fn R) .ret fr L :=
  fun _ w ha hs => ⟨ha.defers, retVal vs, run_results hr ha hs h, hR w hs⟩
end

section
variable {q : Bool} {P : Program} {w0 : World} {X : List Nat} {N : Nat} {ops : Array Oper} {Q : Exit → Act → World → Prop} {rest : List Oper} {fr : Fr} {L : List Res}
variable {d ty : Nat} {ps : String} {af : Array Edge}

/-- A guard that is not decided: both ways. -/
theorem WL.gsplit {dst : Option Nat} {op : Op} {j dj : Nat} {want b : Bool} {oj : Oper} (_hj : ops[j]? = some oj) (_hdj : oj.dst = some dj) (hb : fr.get dj = some (.bool b))
    (ht : b = true → WL q P w0 X N ops Q (⟨dst, op, ty, ps, af, some (j, want)⟩ :: rest) ((dj, .bool true) :: fr) L) (hf : b = false → WL q P w0 X N ops Q (⟨dst, op, ty, ps, af, some (j, want)⟩ :: rest) ((dj, .bool false) :: fr) L) :
    WL q P w0 X N ops Q (⟨dst, op, ty, ps, af, some (j, want)⟩ :: rest) fr L := WL.split dj hb ht hf

theorem WC.loop' {A : Type} (G : A → Prop) (frI : A → Fr) (LI : A → List Res) (μ : A → Nat) {c : Code} (x0 : A) (h0 : G x0) (hfr : Fr.le (frI x0) fr) (hL : ∀ w, St w0 X w L → St w0 X w (LI x0))
    (round : ∀ x, G x → WC P w0 X N (Exit.then (Inv G frI LI w0 X N (fun y => μ y < μ x)) Q) c (frI x) (LI x)) : WC P w0 X N Q (Code.loop c) fr L :=
  WC.loop G frI LI μ (fun _ w ha hs => ⟨x0, h0, ha.sub hfr.get, hL w hs⟩) round
theorem WQ.again' {A : Type} {G : A → Prop} {frI : A → Fr} {LI : A → List Res} {ok : A → Prop} (y : A) (hG : G y) (hok : ok y)
    (hfr : Fr.le (frI y) fr) (hL : ∀ w, St w0 X w L → St w0 X w (LI y)) : WQ w0 X N (Exit.then (Inv G frI LI w0 X N ok) Q) .normal fr L := WQ.again y hG hok hfr.get hL

theorem WQ.retP {fn : Func} {rs : List ResultVar} {vs : List Value} {v : Value} (hr : fn.results = rs.toArray) (h : Rets P fr L rs vs) (hv : retVal vs = v) : WQ w0 X N (bodyPost P fn (fun e w' => e = .returned v ∧ St w0 X w' [])) .ret fr L :=
  WQ.rets hr h fun _ hs => ⟨by rw [hv], hs.sub (List.nil_sublist _)⟩
theorem WQ.retF {fn : Func} {rs : List ResultVar} {vs : List Value} {B : Type} {G : B → Prop} {v : B → Value} {Rs : B → List Res} (hr : fn.results = rs.toArray) (h : Rets P fr L rs vs) (x : B) (hG : G x) (hv : retVal vs = v x) (hL : ∀ w, St w0 X w L → St w0 X w (Rs x)) :
    WQ w0 X N (bodyPost P fn (fun e w' => ∃ x, G x ∧ e = .returned (v x) ∧ St w0 X w' (Rs x))) .ret fr L :=
  WQ.rets hr h fun w hs => ⟨x, hG, by rw [hv], hL w hs⟩
theorem WQ.retE {fn : Func} {rs : List ResultVar} {vs : List Value} {B : Type} {G : B → Prop} {v : B → Value} {Rs : B → List Res} (hr : fn.results = rs.toArray) (h : Rets P fr L rs vs) (k : ∃ x, G x ∧ retVal vs = v x ∧ ∀ w, St w0 X w L → St w0 X w (Rs x)) :
    WQ w0 X N (bodyPost P fn (fun e w' => ∃ x, G x ∧ e = .returned (v x) ∧ St w0 X w' (Rs x))) .ret fr L :=
  let ⟨x, hG, hv, hL⟩ := k
  WQ.retF hr h x hG hv hL
theorem m0 {r : Res} {L : List Res} : r ∈ r :: L := List.mem_cons_self ..
theorem ms {r s : Res} {L : List Res} (h : r ∈ L) : r ∈ s :: L := List.mem_cons_of_mem _ h

theorem WL.indexN {α : Type} {E : α → List Value} {sz : Nat} {x i : Operand} {T e bw : Nat} {zs : List Value} {v : Value} {ys : List α} {n : Nat} [hT : TSlice P T e sz bw zs] (hx : ev fr x = some v) (hi : ev fr i = some (.int .i64 (n : Int)))
    (hs : ∀ w, St w0 X w L → Sl E sz v ys w) (hb : n < ys.length) (hN : Nat.ble (d + 1) N = true)
    (k : ∀ p : Addr, PtrOf v (n * sz) p → WL q P w0 X N ops Q rest ((d, .pointer (some p)) :: fr) L) : WL q P w0 X N ops Q (⟨some d, .indexAddr T x i, ty, ps, af, none⟩ :: rest) fr L :=
  WL.index hx hi hs (by omega) hN (fun p hp => k p (by simpa using hp))
end

/-! ## structs compared -/
def fieldKinds (P : Program) : Nat → List Field → Option (List Bool)
  | _, [] => some []
  | i, f :: fs =>
    if f.name = "_" ∨ f.offset ≠ i then none else
    match P.underlying f.type, fieldKinds P (i + 1) fs with
    | some (.int _), some ks => some (false :: ks)
    | some .bool, some ks => some (true :: ks)
    | _, _ => none
def teq (P : Program) (t : Nat) : Option (List Bool) :=
  match P.underlying t with
  | some (.struct fs) => if P.stoodInHeld t = false ∧ P.eqGuardType P.depth t = false then fieldKinds P 0 fs.toList else none
  | _ => none
class TEq (P : Program) (t : Nat) (ks : outParam (List Bool)) : Prop where h : teq P t = some ks
def eqCells : List Value → List Value → Bool
  | .int _ n :: r, .int _ m :: s => decide (n = m) && eqCells r s
  | .bool a :: r, .bool b :: s => (a == b) && eqCells r s
  | [], [] => true
  | _, _ => false
def fitsK : List Bool → List Value → List Value → Bool
  | [], [], [] => true
  | false :: ks, .int k _ :: r, .int k' _ :: s => decide (k = k') && fitsK ks r s
  | true :: ks, .bool _ :: r, .bool _ :: s => fitsK ks r s
  | _, _, _ => false

theorem eqFields_run {P : Program} (w : World) : ∀ (fs : List Field) (i : Nat) (ks : List Bool), fieldKinds P i fs = some ks → ∀ (pa pb a b : List Value), pa.length = i → pb.length = i → fitsK ks a b = true →
    (Op.eqFields 9999 (pa ++ a).toArray (pb ++ b).toArray fs).run P w = .ok (eqCells a b) w
  | [], i, ks, h, pa, pb, a, b, ha, hb, hf => by
    simp [fieldKinds] at h; subst h
    match a, b, hf with
    | [], [], _ => simp [Op.eqFields, eqCells]
  | f :: fs, i, ks, h, pa, pb, a, b, ha, hb, hf => by
    simp only [fieldKinds] at h
    split at h
    · cases h
    · rename_i hno
      have hname : f.name ≠ "_" := fun e => hno (.inl e)
      have hoff : f.offset = i := Decidable.byContradiction fun e => hno (.inr e)
      have part_ : ∀ (p : List Value) (v : Value) (r : List Value) (dd : TypeDesc), p.length = i → P.underlying f.type = some dd → (match dd with | .struct _ | .array _ _ => true | _ => false) = false → (part f.type (p ++ v :: r).toArray f.offset).run P w = .ok v w := by
        intro p v r dd hp hu hd
        have : (isAgg f.type).run P w = .ok false w := by
          simp only [isAgg, Sem.run_bind, run_underlying hu, Result.andThen_ok]
          cases dd <;> simp at hd <;> rfl
        simp [part, this, hoff, ← hp]
      split at h
      · rename_i k ks' hu hk
        simp only [Option.some.injEq] at h
        subst h
        match a, b, hf with
        | .int k1 n :: r, .int k2 m :: s, hf =>
          simp only [fitsK, Bool.and_eq_true, decide_eq_true_eq] at hf
          obtain ⟨rfl, hf⟩ := hf
          have ih := eqFields_run w fs (i + 1) ks' hk (pa ++ [.int k1 n]) (pb ++ [.int k1 m]) r s (by simp [ha]) (by simp [hb]) hf
          simp only [List.append_assoc, List.singleton_append] at ih
          simp only [Op.eqFields, if_pos hname, Sem.run_bind, part_ pa _ r _ ha hu rfl, part_ pb _ s _ hb hu rfl, Result.andThen_ok, run_equalIn_int w 9998 f.type k1 k n m hu]
          by_cases e : n = m
          · subst e; simp [ih, eqCells]
          · simp [e, eqCells]
      · rename_i ks' hu hk
        simp only [Option.some.injEq] at h
        subst h
        match a, b, hf with
        | .bool n :: r, .bool m :: s, hf =>
          simp only [fitsK] at hf
          have ih := eqFields_run w fs (i + 1) ks' hk (pa ++ [.bool n]) (pb ++ [.bool m]) r s (by simp [ha]) (by simp [hb]) hf
          simp only [List.append_assoc, List.singleton_append] at ih
          simp only [Op.eqFields, if_pos hname, Sem.run_bind, part_ pa _ r _ ha hu rfl, part_ pb _ s _ hb hu rfl, Result.andThen_ok, run_equalIn_bool' w 9998 f.type n m hu]
          by_cases e : n = m
          · subst e; simp [ih, eqCells]
          · simp [e, eqCells]
      · cases h

theorem run_eqStruct {P : Program} {t : Nat} {ks : List Bool} (h : teq P t = some ks) {a b : List Value} (hf : fitsK ks a b = true) (w : World) : (Op.equalIn 10000 t (.agg a.toArray) (.agg b.toArray)).run P w = .ok (eqCells a b) w ∧ P.eqGuardType P.depth t = false := by
  unfold teq at h
  split at h
  · rename_i fs hu
    split at h
    · rename_i hc
      have hfo : P.fieldsOf t = fs := by simp [Program.fieldsOf, hu]
      refine ⟨?_, hc.2⟩
      rw [show (10000 : Nat) = 9999 + 1 from rfl, run_equalIn_agg w 9999 t _ _ (by rw [hfo]; exact hu) hc.1, hfo]
      have := eqFields_run w fs.toList 0 ks h [] [] a b rfl rfl hf
      simpa using this
    · cases h
  · cases h

section
variable {q : Bool} {P : Program} {w0 : World} {X : List Nat} {N : Nat} {ops : Array Oper} {Q : Exit → Act → World → Prop} {rest : List Oper} {fr : Fr} {L : List Res}
variable {d ty : Nat} {ps : String} {af : Array Edge}
theorem WL.neqs {x y : Operand} {a b : List Value} {t t' : Nat} {ks : List Bool} [hT : TEq P t ks] (hx : ev fr x = some (.agg a.toArray)) (hy : ev fr y = some (.agg b.toArray)) (hf : fitsK ks a b = true) (hN : Nat.ble (d + 1) N = true)
    (k : WL q P w0 X N ops Q rest ((d, .bool (!eqCells a b)) :: fr) L) : WL q P w0 X N ops Q (⟨some d, .binOp .neq t x y t', ty, ps, af, none⟩ :: rest) fr L :=
  WL.cmp hx hy hN (fun w => by
    obtain ⟨h1, h2⟩ := run_eqStruct hT.h hf w
    simp only [Sem.run_bind, run_eqGuard_agg w .neq t x y _ _ h2, Result.andThen_ok, run_neq_struct, h1]) k
theorem WL.eqls {x y : Operand} {a b : List Value} {t t' : Nat} {ks : List Bool} [hT : TEq P t ks] (hx : ev fr x = some (.agg a.toArray)) (hy : ev fr y = some (.agg b.toArray)) (hf : fitsK ks a b = true) (hN : Nat.ble (d + 1) N = true)
    (k : WL q P w0 X N ops Q rest ((d, .bool (eqCells a b)) :: fr) L) : WL q P w0 X N ops Q (⟨some d, .binOp .eql t x y t', ty, ps, af, none⟩ :: rest) fr L :=
  WL.cmp hx hy hN (fun w => by
    obtain ⟨h1, h2⟩ := run_eqStruct hT.h hf w
    simp only [Sem.run_bind, run_eqGuard_agg w .eql t x y _ _ h2, Result.andThen_ok, run_eql_struct, h1]) k
end

/-! ## which operation stands next -/
section
variable {q : Bool} {P : Program} {w0 : World} {X : List Nat} {N : Nat} {ops : Array Oper} {Q : Exit → Act → World → Prop} {rest : List Oper} {fr : Fr} {L : List Res}
variable {ty : Nat} {ps : String} {af : Array Edge} {dst : Option Nat}
theorem WL.dMove {x : Operand} (h : WL q P w0 X N ops Q (⟨dst, .move x, ty, ps, af, none⟩ :: rest) fr L) : WL q P w0 X N ops Q (⟨dst, .move x, ty, ps, af, none⟩ :: rest) fr L := h
theorem WL.dAssign {x : Operand} (h : WL q P w0 X N ops Q (⟨dst, .assign x, ty, ps, af, none⟩ :: rest) fr L) : WL q P w0 X N ops Q (⟨dst, .assign x, ty, ps, af, none⟩ :: rest) fr L := h
theorem WL.dPick {a b c : Operand} (h : WL q P w0 X N ops Q (⟨dst, .pick a b c, ty, ps, af, none⟩ :: rest) fr L) : WL q P w0 X N ops Q (⟨dst, .pick a b c, ty, ps, af, none⟩ :: rest) fr L := h
theorem WL.dBin {op : BinOp} {t u : Nat} {x y : Operand} (h : WL q P w0 X N ops Q (⟨dst, .binOp op t x y u, ty, ps, af, none⟩ :: rest) fr L) : WL q P w0 X N ops Q (⟨dst, .binOp op t x y u, ty, ps, af, none⟩ :: rest) fr L := h
theorem WL.dUn {op : UnOp} {t : Nat} {x : Operand} (h : WL q P w0 X N ops Q (⟨dst, .unOp op t x, ty, ps, af, none⟩ :: rest) fr L) : WL q P w0 X N ops Q (⟨dst, .unOp op t x, ty, ps, af, none⟩ :: rest) fr L := h
theorem WL.dLoad {t : Nat} {x : Operand} (h : WL q P w0 X N ops Q (⟨dst, .load t x, ty, ps, af, none⟩ :: rest) fr L) : WL q P w0 X N ops Q (⟨dst, .load t x, ty, ps, af, none⟩ :: rest) fr L := h
theorem WL.dStore {t : Nat} {x y : Operand} (h : WL q P w0 X N ops Q (⟨dst, .store t x y, ty, ps, af, none⟩ :: rest) fr L) : WL q P w0 X N ops Q (⟨dst, .store t x y, ty, ps, af, none⟩ :: rest) fr L := h
theorem WL.dField {t f : Nat} {x : Operand} (h : WL q P w0 X N ops Q (⟨dst, .fieldAddr t x f, ty, ps, af, none⟩ :: rest) fr L) : WL q P w0 X N ops Q (⟨dst, .fieldAddr t x f, ty, ps, af, none⟩ :: rest) fr L := h
theorem WL.dIndex {t : Nat} {x i : Operand} (h : WL q P w0 X N ops Q (⟨dst, .indexAddr t x i, ty, ps, af, none⟩ :: rest) fr L) : WL q P w0 X N ops Q (⟨dst, .indexAddr t x i, ty, ps, af, none⟩ :: rest) fr L := h
theorem WL.dCall {c : Call} (h : WL q P w0 X N ops Q (⟨dst, .call c, ty, ps, af, none⟩ :: rest) fr L) : WL q P w0 X N ops Q (⟨dst, .call c, ty, ps, af, none⟩ :: rest) fr L := h
theorem WL.dGuard {op : Op} {g : Nat × Bool} (h : WL q P w0 X N ops Q (⟨dst, op, ty, ps, af, some g⟩ :: rest) fr L) : WL q P w0 X N ops Q (⟨dst, op, ty, ps, af, some g⟩ :: rest) fr L := h
theorem WL.dOp {o : Oper} (h : WL q P w0 X N ops Q (o :: rest) fr L) : WL q P w0 X N ops Q (o :: rest) fr L := h
theorem WC.d {c : Code} (h : WC P w0 X N Q c fr L) : WC P w0 X N Q c fr L := h
theorem WQ.d {e : Exit} (h : WQ w0 X N Q e fr L) : WQ w0 X N Q e fr L := h
end

/-! ## the same rules, their searches left to instances -/
class HasBlk (L : List Res) (b : Nat) (t : outParam Nat) (cs : outParam (List Value)) : Prop where h : blk b t cs ∈ L
instance (priority := 2000) {L : List Res} {b t : Nat} {cs : List Value} : HasBlk (blk b t cs :: L) b t cs := ⟨m0⟩
instance {L : List Res} {r : Res} {b t : Nat} {cs : List Value} [h : HasBlk L b t cs] : HasBlk (r :: L) b t cs := ⟨ms h.h⟩
class HasOwn (L : List Res) (v : Value) (α : outParam Type) (E : outParam (α → List Value)) (sz t : outParam Nat) (ys : outParam (List α)) : Prop where h : own E sz v t ys ∈ L
instance (priority := 2000) {L : List Res} {v : Value} {α : Type} {E : α → List Value} {sz t : Nat} {ys : List α} : HasOwn (own E sz v t ys :: L) v α E sz t ys := ⟨m0⟩
instance {L : List Res} {r : Res} {v : Value} {α : Type} {E : α → List Value} {sz t : Nat} {ys : List α} [h : HasOwn L v α E sz t ys] : HasOwn (r :: L) v α E sz t ys := ⟨ms h.h⟩
theorem Sl.o {w0 w : World} {X : List Nat} {L : List Res} {v : Value} {α : Type} {E : α → List Value} {sz t : Nat} {ys : List α} [hO : HasOwn L v α E sz t ys] (h : St w0 X w L) : Sl E sz v ys w := Sl.own hO.h h
class CRepl (L : List Res) (b : Nat) (t : Nat) (cs cs' : List Value) (L' : outParam (List Res)) : Prop where h : Repl L (blk b t cs) (blk b t cs') L'
instance (priority := 2000) {L : List Res} {b t : Nat} {cs cs' : List Value} : CRepl (blk b t cs :: L) b t cs cs' (blk b t cs' :: L) := ⟨.here⟩
instance {L L' : List Res} {r : Res} {b t : Nat} {cs cs' : List Value} [h : CRepl L b t cs cs' L'] : CRepl (r :: L) b t cs cs' (r :: L') := ⟨.there h.h⟩
class CDel (L : List Res) (v : Value) (α : outParam Type) (E : outParam (α → List Value)) (sz t : outParam Nat) (ys : outParam (List α)) (L' : outParam (List Res)) : Prop where h : Del L (own E sz v t ys) L'
instance (priority := 2000) {L : List Res} {v : Value} {α : Type} {E : α → List Value} {sz t : Nat} {ys : List α} : CDel (own E sz v t ys :: L) v α E sz t ys L := ⟨.here⟩
instance {L L' : List Res} {r : Res} {v : Value} {α : Type} {E : α → List Value} {sz t : Nat} {ys : List α} [h : CDel L v α E sz t ys L'] : CDel (r :: L) v α E sz t ys (r :: L') := ⟨.there h.h⟩
class CReplO {α : Type} (L : List Res) (E : α → List Value) (sz : Nat) (v : Value) (t : outParam Nat) (ys : outParam (List α)) (ys' : List α) (L' : outParam (List Res)) : Prop where h : Repl L (own E sz v t ys) (own E sz v t ys') L'
instance (priority := 2000) {α : Type} {L : List Res} {E : α → List Value} {sz t : Nat} {v : Value} {ys ys' : List α} : CReplO (own E sz v t ys :: L) E sz v t ys ys' (own E sz v t ys' :: L) := ⟨.here⟩
instance {α : Type} {L L' : List Res} {r : Res} {E : α → List Value} {sz t : Nat} {v : Value} {ys ys' : List α} [h : CReplO L E sz v t ys ys' L'] : CReplO (r :: L) E sz v t ys ys' (r :: L') := ⟨.there h.h⟩
class CSet (l : List Value) (n : Nat) (v : Value) (r : outParam (List Value)) : Prop where h : SetTo l n v r
instance {x v : Value} {l : List Value} : CSet (x :: l) 0 v (v :: l) := ⟨.zero⟩
instance {x v : Value} {l r : List Value} {n : Nat} [h : CSet l n v r] : CSet (x :: l) (n + 1) v (x :: r) := ⟨.succ h.h⟩
class CTake (l : List Value) (n : Nat) (r : outParam (List Value)) : Prop where h : Take l n r
instance {l : List Value} : CTake l 0 [] := ⟨.zero⟩
instance {x : Value} {l r : List Value} {n : Nat} [h : CTake l n r] : CTake (x :: l) (n + 1) (x :: r) := ⟨.succ h.h⟩
class CCut (l : List Value) (o n : Nat) (r : outParam (List Value)) : Prop where h : Cut l o n r
instance {l r : List Value} {n : Nat} [h : CTake l n r] : CCut l 0 n r := ⟨.here h.h⟩
instance {x : Value} {l r : List Value} {o n : Nat} [h : CCut l o n r] : CCut (x :: l) (o + 1) n r := ⟨.skip h.h⟩
class COver (l vs : List Value) (r : outParam (List Value)) : Prop where h : Over l vs r
instance {l : List Value} : COver l [] l := ⟨.nil⟩
instance {x v : Value} {l vs r : List Value} [h : COver l vs r] : COver (x :: l) (v :: vs) (v :: r) := ⟨.cons h.h⟩
class CPut (l : List Value) (o : Nat) (vs : List Value) (r : outParam (List Value)) : Prop where h : Put l o vs r
instance {l vs r : List Value} [h : COver l vs r] : CPut l 0 vs r := ⟨.here h.h⟩
instance {x : Value} {l vs r : List Value} {o : Nat} [h : CPut l o vs r] : CPut (x :: l) (o + 1) vs (x :: r) := ⟨.skip h.h⟩

theorem Bld.one' {fr : Fr} {pl : List (Nat × Nat)} {i off : Nat} {x : Operand} {v : Value} {zs zs1 out : List Value} {parts : List (Nat × Operand)} (h1 : pl[i]? = some (off, 1)) (h2 : ev fr x = some v) (h3 : v.oneCell' = true) [h4 : CSet zs off v zs1] (h5 : Bld fr pl zs1 parts out) : Bld fr pl zs ((i, x) :: parts) out := .one h1 h2 h3 h4.h h5
theorem Bld.agg' {fr : Fr} {pl : List (Nat × Nat)} {i off n : Nat} {x : Operand} {vs zs zs1 out : List Value} {parts : List (Nat × Operand)} (h1 : pl[i]? = some (off, n)) (h2 : ev fr x = some (.agg vs.toArray)) (h3 : vs.length = n) [h4 : CPut zs off vs zs1] (h5 : Bld fr pl zs1 parts out) : Bld fr pl zs ((i, x) :: parts) out := .agg h1 h2 h3 h4.h h5
theorem Rets.cA {P : Program} {fr : Fr} {L : List Res} {t T b o e sz : Nat} {cs us : List Value} {rs : List ResultVar} {vs : List Value} [TCell P T true sz] (h1 : fr.get t = some (.pointer (some ⟨b, o, none⟩))) [h2 : HasBlk L b e cs] [h3 : CCut cs o sz us] (h4 : Rets P fr L rs vs) : Rets P fr L (.cell t T :: rs) (.agg us.toArray :: vs) := .cellA h1 h2.h h3.h h4
theorem Rets.c1 {P : Program} {fr : Fr} {L : List Res} {t T b o e : Nat} {cs : List Value} {v : Value} {rs : List ResultVar} {vs : List Value} [TCell P T false 1] (h1 : fr.get t = some (.pointer (some ⟨b, o, none⟩))) [h2 : HasBlk L b e cs] (h3 : cs[o]? = some v) (h4 : Rets P fr L rs vs) : Rets P fr L (.cell t T :: rs) (v :: vs) := .cell1 h1 h2.h h3 h4
section
variable {q : Bool} {P : Program} {w0 : World} {X : List Nat} {N : Nat} {ops : Array Oper} {Q : Exit → Act → World → Prop} {rest : List Oper} {fr : Fr} {L L' : List Res}
variable {d ty : Nat} {ps : String} {af : Array Edge} {x y : Operand} {T b o t sz : Nat} {cs cs' vs : List Value} {v : Value}
theorem WL.ld1 [TCell P T false 1] [hL : HasBlk L b t cs] (hx : ev fr x = some (.pointer (some ⟨b, o, none⟩))) (hv : cs[o]? = some v) (hN : Nat.ble (d + 1) N = true) (k : WL q P w0 X N ops Q rest ((d, v) :: fr) L) :
    WL q P w0 X N ops Q (⟨some d, .load T x, ty, ps, af, none⟩ :: rest) fr L := WL.load1 hx hL.h hv hN k
theorem WL.ldA [TCell P T true sz] [hL : HasBlk L b t cs] [hc : CCut cs o sz vs] (hx : ev fr x = some (.pointer (some ⟨b, o, none⟩))) (hN : Nat.ble (d + 1) N = true) (k : WL q P w0 X N ops Q rest ((d, .agg vs.toArray) :: fr) L) :
    WL q P w0 X N ops Q (⟨some d, .load T x, ty, ps, af, none⟩ :: rest) fr L := WL.loadA hx hL.h hc.h hN k
theorem WL.ldW [hT : TCell P T true sz] [hL : HasBlk L b t cs] (hx : ev fr x = some (.pointer (some ⟨b, 0, none⟩))) (hl : cs.length = sz) (hN : Nat.ble (d + 1) N = true) (k : WL q P w0 X N ops Q rest ((d, .agg cs.toArray) :: fr) L) :
    WL q P w0 X N ops Q (⟨some d, .load T x, ty, ps, af, none⟩ :: rest) fr L :=
  WL.value rfl rfl hN (fun _ w ha hs => by
    have hb := blk_holds.1 (hs.res _ hL.h)
    have hr := run_loadCells_list (P := P) w ⟨b, 0, none⟩ cs (fun j v hj => by rw [add_lit, cell_blk hb, Nat.zero_add, hj])
    rw [hl] at hr
    simp [execOp, ha.ev hx, Instr.loadAt, Instr.sureAddr, loadVar, run_isAgg_of hT.h, run_sizeOf_of hT.h, hr]) k
theorem WL.st1 [TCell P T false 1] [_hL : HasBlk L b t cs] [hc : CSet cs o v cs'] [hR : CRepl L b t cs cs' L'] (hx : ev fr x = some (.pointer (some ⟨b, o, none⟩))) (hy : ev fr y = some v) (h1 : v.oneCell' = true) (k : WL false P w0 X N ops Q rest fr L') :
    WL false P w0 X N ops Q (⟨none, .store T x y, ty, ps, af, none⟩ :: rest) fr L := WL.store1 hx hy hR.h hc.h h1 k
theorem WL.stA [TCell P T true sz] [_hL : HasBlk L b t cs] [hc : CPut cs o vs cs'] [hR : CRepl L b t cs cs' L'] (hx : ev fr x = some (.pointer (some ⟨b, o, none⟩))) (hy : ev fr y = some (.agg vs.toArray)) (hsz : vs.length = sz) (h1 : vs.all Value.oneCell' = true) (k : WL false P w0 X N ops Q rest fr L') :
    WL false P w0 X N ops Q (⟨none, .store T x y, ty, ps, af, none⟩ :: rest) fr L := WL.storeA hx hy hR.h hc.h hsz h1 k

section
variable {α : Type} {E : α → List Value} {ys : List α} {e bw k f : Nat} {zs : List Value} {u : Value} {n : Int} {p : Addr} {i : Operand} {e' : α}
theorem WL.lenX {sz' : Nat} [TSlice P T e sz' bw zs] [Enc E sz] (hx : ev fr x = some v) (hs : Sl E sz v ys w0) (hN : Nat.ble (d + 1) N = true) (k : WL q P w0 [] N ops Q rest ((d, .int .i64 (ys.length : Int)) :: fr) L) :
    WL q P w0 [] N ops Q (⟨some d, .call { callee := .builtin .len, args := #[x], argTypes := #[T] }, ty, ps, af, none⟩ :: rest) fr L := WL.len hx (fun _ h => hs.ext h) hN k
theorem WL.lenO {sz' : Nat} [TSlice P T e sz' bw zs] [hO : HasOwn L v α E sz t ys] (hx : ev fr x = some v) (hN : Nat.ble (d + 1) N = true) (k : WL q P w0 X N ops Q rest ((d, .int .i64 (ys.length : Int)) :: fr) L) :
    WL q P w0 X N ops Q (⟨some d, .call { callee := .builtin .len, args := #[x], argTypes := #[T] }, ty, ps, af, none⟩ :: rest) fr L := WL.len hx (fun _ h => Sl.own hO.h h) hN k
theorem WL.ixNX {n : Nat} [TSlice P T e sz bw zs] [Enc E sz] (hx : ev fr x = some v) (hi : ev fr i = some (.int .i64 (n : Int))) (hs : Sl E sz v ys w0) (hb : n < ys.length) (hN : Nat.ble (d + 1) N = true)
    (k : ∀ p : Addr, PtrOf v (n * sz) p → WL q P w0 [] N ops Q rest ((d, .pointer (some p)) :: fr) L) : WL q P w0 [] N ops Q (⟨some d, .indexAddr T x i, ty, ps, af, none⟩ :: rest) fr L := WL.indexN hx hi (fun _ h => hs.ext h) hb hN k
theorem WL.ixNO {n : Nat} [TSlice P T e sz bw zs] [hO : HasOwn L v α E sz t ys] (hx : ev fr x = some v) (hi : ev fr i = some (.int .i64 (n : Int))) (hb : n < ys.length) (hN : Nat.ble (d + 1) N = true)
    (k : ∀ p : Addr, PtrOf v (n * sz) p → WL q P w0 X N ops Q rest ((d, .pointer (some p)) :: fr) L) : WL q P w0 X N ops Q (⟨some d, .indexAddr T x i, ty, ps, af, none⟩ :: rest) fr L := WL.indexN hx hi (fun _ h => Sl.own hO.h h) hb hN k
theorem WL.ixX [TSlice P T e sz bw zs] [Enc E sz] (hx : ev fr x = some v) (hi : ev fr i = some (.int .i64 n)) (hs : Sl E sz v ys w0) (hb : 0 ≤ n ∧ n < ys.length) (hN : Nat.ble (d + 1) N = true)
    (k : ∀ p : Addr, PtrOf v (n.toNat * sz) p → WL q P w0 [] N ops Q rest ((d, .pointer (some p)) :: fr) L) : WL q P w0 [] N ops Q (⟨some d, .indexAddr T x i, ty, ps, af, none⟩ :: rest) fr L := WL.index hx hi (fun _ h => hs.ext h) hb hN k
theorem WL.ixO [TSlice P T e sz bw zs] [hO : HasOwn L v α E sz t ys] (hx : ev fr x = some v) (hi : ev fr i = some (.int .i64 n)) (hb : 0 ≤ n ∧ n < ys.length) (hN : Nat.ble (d + 1) N = true)
    (k : ∀ p : Addr, PtrOf v (n.toNat * sz) p → WL q P w0 X N ops Q rest ((d, .pointer (some p)) :: fr) L) : WL q P w0 X N ops Q (⟨some d, .indexAddr T x i, ty, ps, af, none⟩ :: rest) fr L := WL.index hx hi (fun _ h => Sl.own hO.h h) hb hN k
theorem WL.ld0X [Enc E sz] [TCell P T false 1] (hx : ev fr x = some (.pointer (some p))) (hp : PtrOf v (k * sz) p) (hs : Sl E sz v ys w0) (hy : ys[k]? = some e') (hu : (E e')[0]? = some u) (hN : Nat.ble (d + 1) N = true) (kk : WL q P w0 [] N ops Q rest ((d, u) :: fr) L) :
    WL q P w0 [] N ops Q (⟨some d, .load T x, ty, ps, af, none⟩ :: rest) fr L := WL.load0 hx hp (fun _ h => hs.ext h) hy hu hN kk
theorem WL.ld0O [Enc E sz] [TCell P T false 1] [hO : HasOwn L v α E sz t ys] (hx : ev fr x = some (.pointer (some p))) (hp : PtrOf v (k * sz) p) (hy : ys[k]? = some e') (hu : (E e')[0]? = some u) (hN : Nat.ble (d + 1) N = true) (kk : WL q P w0 X N ops Q rest ((d, u) :: fr) L) :
    WL q P w0 X N ops Q (⟨some d, .load T x, ty, ps, af, none⟩ :: rest) fr L := WL.load0 hx hp (fun _ h => Sl.own hO.h h) hy hu hN kk
theorem WL.ldFX [Enc E sz] [TCell P T false 1] (hx : ev fr x = some (.pointer (some (p.add f)))) (hp : PtrOf v (k * sz) p) (hs : Sl E sz v ys w0) (hy : ys[k]? = some e') (hu : (E e')[f]? = some u) (hN : Nat.ble (d + 1) N = true) (kk : WL q P w0 [] N ops Q rest ((d, u) :: fr) L) :
    WL q P w0 [] N ops Q (⟨some d, .load T x, ty, ps, af, none⟩ :: rest) fr L := WL.loadF hx hp (fun _ h => hs.ext h) hy hu hN kk
theorem WL.ldFO [Enc E sz] [TCell P T false 1] [hO : HasOwn L v α E sz t ys] (hx : ev fr x = some (.pointer (some (p.add f)))) (hp : PtrOf v (k * sz) p) (hy : ys[k]? = some e') (hu : (E e')[f]? = some u) (hN : Nat.ble (d + 1) N = true) (kk : WL q P w0 X N ops Q rest ((d, u) :: fr) L) :
    WL q P w0 X N ops Q (⟨some d, .load T x, ty, ps, af, none⟩ :: rest) fr L := WL.loadF hx hp (fun _ h => Sl.own hO.h h) hy hu hN kk
theorem WL.ldEX [Enc E sz] [TCell P T true sz] (hx : ev fr x = some (.pointer (some p))) (hp : PtrOf v (k * sz) p) (hs : Sl E sz v ys w0) (hy : ys[k]? = some e') (hN : Nat.ble (d + 1) N = true) (kk : WL q P w0 [] N ops Q rest ((d, .agg (E e').toArray) :: fr) L) :
    WL q P w0 [] N ops Q (⟨some d, .load T x, ty, ps, af, none⟩ :: rest) fr L := WL.loadE hx hp (fun _ h => hs.ext h) hy hN kk
theorem WL.ldEO [Enc E sz] [TCell P T true sz] [hO : HasOwn L v α E sz t ys] (hx : ev fr x = some (.pointer (some p))) (hp : PtrOf v (k * sz) p) (hy : ys[k]? = some e') (hN : Nat.ble (d + 1) N = true) (kk : WL q P w0 X N ops Q rest ((d, .agg (E e').toArray) :: fr) L) :
    WL q P w0 X N ops Q (⟨some d, .load T x, ty, ps, af, none⟩ :: rest) fr L := WL.loadE hx hp (fun _ h => Sl.own hO.h h) hy hN kk
theorem WL.st0O [Enc E sz] [TCell P T false 1] {ee : α} [hR : CReplO L E sz v t ys (ys.set k e') L'] (hx : ev fr x = some (.pointer (some p))) (hy : ev fr y = some u) (hp : PtrOf v (k * sz) p) (hk : ys[k]? = some ee) [he : CSet (E ee) 0 u (E e')] (h1 : u.oneCell' = true) (kk : WL false P w0 X N ops Q rest fr L') :
    WL false P w0 X N ops Q (⟨none, .store T x y, ty, ps, af, none⟩ :: rest) fr L := WL.store0 hx hy hp hR.h hk he.h h1 kk
theorem WL.stEO [Enc E sz] [TCell P T true sz] {ee : α} [hR : CReplO L E sz v t ys (ys.set k e') L'] (hx : ev fr x = some (.pointer (some p))) (hy : ev fr y = some (.agg (E e').toArray)) (hp : PtrOf v (k * sz) p) (hk : ys[k]? = some ee) (kk : WL false P w0 X N ops Q rest fr L') :
    WL false P w0 X N ops Q (⟨none, .store T x y, ty, ps, af, none⟩ :: rest) fr L := WL.storeE hx hy hp hR.h hk kk
theorem WL.apX {us : List α} [Enc E sz] [TSlice P T e sz bw zs] [hD : CDel L v α E sz e ys L'] (hx : ev fr x = some v) (hy : ev fr y = some u) (hs : Sl E sz u us w0) (hb : ys.length + us.length ≤ 1099511627776) (hbw : Nat.ble bw 64 = true) (hN : Nat.ble (d + 1) N = true)
    (k : ∀ v' : Value, v'.oneCell' = true → WL false P w0 [] N ops Q rest ((d, v') :: fr) (own E sz v' e (ys ++ us) :: L')) :
    WL false P w0 [] N ops Q (⟨some d, .call { callee := .builtin .append, args := #[x, y], argTypes := #[T, T] }, ty, ps, af, none⟩ :: rest) fr L := WL.append hx hy hD.h (fun _ h => hs.ext h) hb hbw hN k
theorem WL.apO {us : List α} {t' : Nat} [Enc E sz] [TSlice P T e sz bw zs] [hD : CDel L v α E sz e ys L'] [hO : HasOwn L u α E sz t' us] (hx : ev fr x = some v) (hy : ev fr y = some u) (hb : ys.length + us.length ≤ 1099511627776) (hbw : Nat.ble bw 64 = true) (hN : Nat.ble (d + 1) N = true)
    (k : ∀ v' : Value, v'.oneCell' = true → WL false P w0 X N ops Q rest ((d, v') :: fr) (own E sz v' e (ys ++ us) :: L')) :
    WL false P w0 X N ops Q (⟨some d, .call { callee := .builtin .append, args := #[x, y], argTypes := #[T, T] }, ty, ps, af, none⟩ :: rest) fr L := WL.append hx hy hD.h (fun _ h => Sl.own hO.h h) hb hbw hN k
end
end


section
variable {q : Bool} {P : Program} {w0 : World} {X : List Nat} {N : Nat} {ops : Array Oper} {Q : Exit → Act → World → Prop} {rest : List Oper} {fr : Fr} {L : List Res}
variable {d ty : Nat} {ps : String} {af : Array Edge}
/-! ## tests that are decided, or parted as propositions -/
theorem boolT {b : Bool} (h : b = false) : (!b) = true := by simp [h]
theorem boolF {b : Bool} (h : b = true) : (!b) = false := by simp [h]
theorem notT {p : Prop} {i : Decidable p} (h : ¬p) : (!@decide p i) = true := by simpa using h
theorem notF {p : Prop} {i : Decidable p} (h : p) : (!@decide p i) = false := by simpa using h
theorem WC.condT {c : Operand} {x y : Code} {b : Bool} (hc : ev fr c = some (.bool b)) (hb : b = true) (h : WC P w0 X N Q x fr L) : WC P w0 X N Q (Code.cond c x y) fr L := WC.cond hc (fun _ => h) (fun e => by rw [hb] at e; cases e)
theorem WC.condF {c : Operand} {x y : Code} {b : Bool} (hc : ev fr c = some (.bool b)) (hb : b = false) (h : WC P w0 X N Q y fr L) : WC P w0 X N Q (Code.cond c x y) fr L := WC.cond hc (fun e => by rw [hb] at e; cases e) (fun _ => h)
theorem WC.condD {c : Operand} {x y : Code} {p : Prop} {i : Decidable p} (hc : ev fr c = some (.bool (@decide p i))) (ht : p → WC P w0 X N Q x fr L) (hf : ¬p → WC P w0 X N Q y fr L) : WC P w0 X N Q (Code.cond c x y) fr L :=
  WC.cond hc (fun e => ht (of_decide_eq_true e)) (fun e => hf (of_decide_eq_false e))
theorem WC.condN {c : Operand} {x y : Code} {p : Prop} {i : Decidable p} (hc : ev fr c = some (.bool (!@decide p i))) (ht : ¬p → WC P w0 X N Q x fr L) (hf : p → WC P w0 X N Q y fr L) : WC P w0 X N Q (Code.cond c x y) fr L :=
  WC.cond hc (fun e => ht (by simpa using e)) (fun e => hf (by simpa using e))
theorem WC.condB {c : Operand} {x y : Code} {b : Bool} (hc : ev fr c = some (.bool (!b))) (ht : b = false → WC P w0 X N Q x fr L) (hf : b = true → WC P w0 X N Q y fr L) : WC P w0 X N Q (Code.cond c x y) fr L :=
  WC.cond hc (fun e => ht (by simpa using e)) (fun e => hf (by simpa using e))
section
variable {dst : Option Nat} {op : Op} {j dj : Nat} {want b : Bool} {oj : Oper} {p : Prop} {i : Decidable p}
theorem WL.gT (hj : ops[j]? = some oj) (hdj : oj.dst = some dj) (hb : fr.get dj = some (.bool b)) (h : b = true) (k : WL q P w0 X N ops Q (⟨dst, op, ty, ps, af, some (j, want)⟩ :: rest) ((dj, .bool true) :: fr) L) : WL q P w0 X N ops Q (⟨dst, op, ty, ps, af, some (j, want)⟩ :: rest) fr L :=
  WL.gsplit hj hdj hb (fun _ => k) (fun e => by rw [h] at e; cases e)
theorem WL.gF (hj : ops[j]? = some oj) (hdj : oj.dst = some dj) (hb : fr.get dj = some (.bool b)) (h : b = false) (k : WL q P w0 X N ops Q (⟨dst, op, ty, ps, af, some (j, want)⟩ :: rest) ((dj, .bool false) :: fr) L) : WL q P w0 X N ops Q (⟨dst, op, ty, ps, af, some (j, want)⟩ :: rest) fr L :=
  WL.gsplit hj hdj hb (fun e => by rw [h] at e; cases e) (fun _ => k)
theorem WL.gD (hj : ops[j]? = some oj) (hdj : oj.dst = some dj) (hb : fr.get dj = some (.bool (@decide p i))) (ht : p → WL q P w0 X N ops Q (⟨dst, op, ty, ps, af, some (j, want)⟩ :: rest) ((dj, .bool true) :: fr) L) (hf : ¬p → WL q P w0 X N ops Q (⟨dst, op, ty, ps, af, some (j, want)⟩ :: rest) ((dj, .bool false) :: fr) L) :
    WL q P w0 X N ops Q (⟨dst, op, ty, ps, af, some (j, want)⟩ :: rest) fr L := WL.gsplit hj hdj hb (fun e => ht (of_decide_eq_true e)) (fun e => hf (of_decide_eq_false e))
theorem WL.gN (hj : ops[j]? = some oj) (hdj : oj.dst = some dj) (hb : fr.get dj = some (.bool (!@decide p i))) (ht : ¬p → WL q P w0 X N ops Q (⟨dst, op, ty, ps, af, some (j, want)⟩ :: rest) ((dj, .bool true) :: fr) L) (hf : p → WL q P w0 X N ops Q (⟨dst, op, ty, ps, af, some (j, want)⟩ :: rest) ((dj, .bool false) :: fr) L) :
    WL q P w0 X N ops Q (⟨dst, op, ty, ps, af, some (j, want)⟩ :: rest) fr L := WL.gsplit hj hdj hb (fun e => ht (by simpa using e)) (fun e => hf (by simpa using e))
theorem WL.gB (hj : ops[j]? = some oj) (hdj : oj.dst = some dj) (hb : fr.get dj = some (.bool (!b))) (ht : b = false → WL q P w0 X N ops Q (⟨dst, op, ty, ps, af, some (j, want)⟩ :: rest) ((dj, .bool true) :: fr) L) (hf : b = true → WL q P w0 X N ops Q (⟨dst, op, ty, ps, af, some (j, want)⟩ :: rest) ((dj, .bool false) :: fr) L) :
    WL q P w0 X N ops Q (⟨dst, op, ty, ps, af, some (j, want)⟩ :: rest) fr L := WL.gsplit hj hdj hb (fun e => ht (by simpa using e)) (fun e => hf (by simpa using e))
end
theorem WL.addw {x y : Operand} {n m : Int} {t t' : Nat} (hx : ev fr x = some (.int .i64 n)) (hy : ev fr y = some (.int .i64 m)) (hN : Nat.ble (d + 1) N = true)
    (k : WL q P w0 X N ops Q rest ((d, .int .i64 (IntKind.i64.wrap (n + m))) :: fr) L) : WL q P w0 X N ops Q (⟨some d, .binOp .add t x y t', ty, ps, af, none⟩ :: rest) fr L :=
  WL.value rfl rfl hN (fun a w ha _ => by simp [execOp, ha.ev hx, ha.ev hy, binOp, Op.intArith, run_guard_int]) k
end

theorem FnP.calls {P : Program} {f : Nat} {argv : List Value} {w : World} {v : Value} (h : FnP P f argv w v) : Calls P f argv.toArray w (fun e w' => e = .returned v ∧ St w [] w' []) := h
theorem WL.call1 {P : Program} {w0 : World} {X : List Nat} {N : Nat} {ops : Array Oper} {Q : Exit → Act → World → Prop} {rest : List Oper} {fr : Fr} {L : List Res} {d ty : Nat} {ps : String} {af : Array Edge} {f : Nat} {x : Operand} {as : List Operand} {ats : Array Nat} {vs cap : List Value} {B : Type} {G : B → Prop} {v : B → Value} {R0 : B → Res} [TFunc P f] (hf : ev fr x = some (.func (.func f) #[] cap.toArray)) (hv : evs fr as = some vs)
    (hc : ∀ w, St w0 X w L → CallsTo P f (vs ++ cap) w [] G v (fun x => [R0 x])) (hN : Nat.ble (d + 1) N = true) (k : ∀ x, G x → WL false P w0 X N ops Q rest ((d, v x) :: fr) (R0 x :: L)) :
    WL false P w0 X N ops Q (⟨some d, .call { callee := .value x, args := as.toArray, argTypes := ats }, ty, ps, af, none⟩ :: rest) fr L := WL.call hf hv hc hN k
theorem WL.call2 {P : Program} {w0 : World} {X : List Nat} {N : Nat} {ops : Array Oper} {Q : Exit → Act → World → Prop} {rest : List Oper} {fr : Fr} {L : List Res} {d ty : Nat} {ps : String} {af : Array Edge} {f : Nat} {x : Operand} {as : List Operand} {ats : Array Nat} {vs cap : List Value} {B : Type} {G : B → Prop} {v : B → Value} {R0 R1 : B → Res} [TFunc P f] (hf : ev fr x = some (.func (.func f) #[] cap.toArray)) (hv : evs fr as = some vs)
    (hc : ∀ w, St w0 X w L → CallsTo P f (vs ++ cap) w [] G v (fun x => [R0 x, R1 x])) (hN : Nat.ble (d + 1) N = true) (k : ∀ x, G x → WL false P w0 X N ops Q rest ((d, v x) :: fr) (R0 x :: R1 x :: L)) :
    WL false P w0 X N ops Q (⟨some d, .call { callee := .value x, args := as.toArray, argTypes := ats }, ty, ps, af, none⟩ :: rest) fr L := WL.call hf hv hc hN k
theorem WL.call3 {P : Program} {w0 : World} {X : List Nat} {N : Nat} {ops : Array Oper} {Q : Exit → Act → World → Prop} {rest : List Oper} {fr : Fr} {L : List Res} {d ty : Nat} {ps : String} {af : Array Edge} {f : Nat} {x : Operand} {as : List Operand} {ats : Array Nat} {vs cap : List Value} {B : Type} {G : B → Prop} {v : B → Value} {R0 R1 R2 : B → Res} [TFunc P f] (hf : ev fr x = some (.func (.func f) #[] cap.toArray)) (hv : evs fr as = some vs)
    (hc : ∀ w, St w0 X w L → CallsTo P f (vs ++ cap) w [] G v (fun x => [R0 x, R1 x, R2 x])) (hN : Nat.ble (d + 1) N = true) (k : ∀ x, G x → WL false P w0 X N ops Q rest ((d, v x) :: fr) (R0 x :: R1 x :: R2 x :: L)) :
    WL false P w0 X N ops Q (⟨some d, .call { callee := .value x, args := as.toArray, argTypes := ats }, ty, ps, af, none⟩ :: rest) fr L := WL.call hf hv hc hN k
theorem WL.call4 {P : Program} {w0 : World} {X : List Nat} {N : Nat} {ops : Array Oper} {Q : Exit → Act → World → Prop} {rest : List Oper} {fr : Fr} {L : List Res} {d ty : Nat} {ps : String} {af : Array Edge} {f : Nat} {x : Operand} {as : List Operand} {ats : Array Nat} {vs cap : List Value} {B : Type} {G : B → Prop} {v : B → Value} {R0 R1 R2 R3 : B → Res} [TFunc P f] (hf : ev fr x = some (.func (.func f) #[] cap.toArray)) (hv : evs fr as = some vs)
    (hc : ∀ w, St w0 X w L → CallsTo P f (vs ++ cap) w [] G v (fun x => [R0 x, R1 x, R2 x, R3 x])) (hN : Nat.ble (d + 1) N = true) (k : ∀ x, G x → WL false P w0 X N ops Q rest ((d, v x) :: fr) (R0 x :: R1 x :: R2 x :: R3 x :: L)) :
    WL false P w0 X N ops Q (⟨some d, .call { callee := .value x, args := as.toArray, argTypes := ats }, ty, ps, af, none⟩ :: rest) fr L := WL.call hf hv hc hN k
theorem WL.call5 {P : Program} {w0 : World} {X : List Nat} {N : Nat} {ops : Array Oper} {Q : Exit → Act → World → Prop} {rest : List Oper} {fr : Fr} {L : List Res} {d ty : Nat} {ps : String} {af : Array Edge} {f : Nat} {x : Operand} {as : List Operand} {ats : Array Nat} {vs cap : List Value} {B : Type} {G : B → Prop} {v : B → Value} {R0 R1 R2 R3 R4 : B → Res} [TFunc P f] (hf : ev fr x = some (.func (.func f) #[] cap.toArray)) (hv : evs fr as = some vs)
    (hc : ∀ w, St w0 X w L → CallsTo P f (vs ++ cap) w [] G v (fun x => [R0 x, R1 x, R2 x, R3 x, R4 x])) (hN : Nat.ble (d + 1) N = true) (k : ∀ x, G x → WL false P w0 X N ops Q rest ((d, v x) :: fr) (R0 x :: R1 x :: R2 x :: R3 x :: R4 x :: L)) :
    WL false P w0 X N ops Q (⟨some d, .call { callee := .value x, args := as.toArray, argTypes := ats }, ty, ps, af, none⟩ :: rest) fr L := WL.call hf hv hc hN k
theorem WL.call6 {P : Program} {w0 : World} {X : List Nat} {N : Nat} {ops : Array Oper} {Q : Exit → Act → World → Prop} {rest : List Oper} {fr : Fr} {L : List Res} {d ty : Nat} {ps : String} {af : Array Edge} {f : Nat} {x : Operand} {as : List Operand} {ats : Array Nat} {vs cap : List Value} {B : Type} {G : B → Prop} {v : B → Value} {R0 R1 R2 R3 R4 R5 : B → Res} [TFunc P f] (hf : ev fr x = some (.func (.func f) #[] cap.toArray)) (hv : evs fr as = some vs)
    (hc : ∀ w, St w0 X w L → CallsTo P f (vs ++ cap) w [] G v (fun x => [R0 x, R1 x, R2 x, R3 x, R4 x, R5 x])) (hN : Nat.ble (d + 1) N = true) (k : ∀ x, G x → WL false P w0 X N ops Q rest ((d, v x) :: fr) (R0 x :: R1 x :: R2 x :: R3 x :: R4 x :: R5 x :: L)) :
    WL false P w0 X N ops Q (⟨some d, .call { callee := .value x, args := as.toArray, argTypes := ats }, ty, ps, af, none⟩ :: rest) fr L := WL.call hf hv hc hN k

section
variable {P : Program} {w0 : World} {X : List Nat} {N : Nat} {ops : Array Oper} {Q : Exit → Act → World → Prop} {rest : List Oper} {fr : Fr} {L L' : List Res} {d ty : Nat} {ps : String} {af : Array Edge}
variable {x y : Operand} {T e bw sz : Nat} {zs : List Value} {u : Value} {α : Type} {E : α → List Value}
/-- append([]T(nil), ..) -/
theorem WL.apNX {us : List α} [Enc E sz] [TSlice P T e sz bw zs] (hx : ev fr x = some (.slice none 0 0)) (hy : ev fr y = some u) (hs : Sl E sz u us w0) (hb : us.length ≤ 1099511627776) (hbw : Nat.ble bw 64 = true) (hN : Nat.ble (d + 1) N = true)
    (k : ∀ v' : Value, v'.oneCell' = true → WL false P w0 [] N ops Q rest ((d, v') :: fr) (own E sz v' e us :: L)) :
    WL false P w0 [] N ops Q (⟨some d, .call { callee := .builtin .append, args := #[x, y], argTypes := #[T, T] }, ty, ps, af, none⟩ :: rest) fr L :=
  WL.nil_own E sz e (WL.append (ys := ([] : List α)) hx hy .here (fun _ h => hs.ext h) (by simpa using hb) hbw hN k)
theorem WL.apNO {us : List α} {t' : Nat} [Enc E sz] [TSlice P T e sz bw zs] [hO : HasOwn L u α E sz t' us] (hx : ev fr x = some (.slice none 0 0)) (hy : ev fr y = some u) (hb : us.length ≤ 1099511627776) (hbw : Nat.ble bw 64 = true) (hN : Nat.ble (d + 1) N = true)
    (k : ∀ v' : Value, v'.oneCell' = true → WL false P w0 X N ops Q rest ((d, v') :: fr) (own E sz v' e us :: L)) :
    WL false P w0 X N ops Q (⟨some d, .call { callee := .builtin .append, args := #[x, y], argTypes := #[T, T] }, ty, ps, af, none⟩ :: rest) fr L :=
  WL.nil_own E sz e (WL.append (ys := ([] : List α)) hx hy .here (fun _ h => Sl.own (ms hO.h) h) (by simpa using hb) hbw hN k)
/-- A call that is handed one row and may write it. -/
theorem WL.callM1 {f : Nat} {as : List Operand} {ats : Array Nat} {vs cap : List Value} {B : Type} {G : B → Prop} {v : B → Value} {R : B → Res} {t : Nat} {ys : List α} [TFunc P f] [hD : CDel L u α E sz t ys L']
    (hf : ev fr x = some (.func (.func f) #[] cap.toArray)) (hv : evs fr as = some vs)
    (hc : ∀ w, (own E sz u t ys).holds w → CallsTo P f (vs ++ cap) w u.ownBlock.toList G v (fun x => [R x])) (hN : Nat.ble (d + 1) N = true)
    (k : ∀ x, G x → WL false P w0 X N ops Q rest ((d, v x) :: fr) (R x :: L')) :
    WL false P w0 X N ops Q (⟨some d, .call { callee := .value x, args := as.toArray, argTypes := ats }, ty, ps, af, none⟩ :: rest) fr L :=
  WL.callM (Lc := [own E sz u t ys]) (Lr := L') (dst := some d) hf hv hD.h.perm (fun b hb => ⟨_, List.mem_singleton.2 rfl, by rw [own_foot]; exact hb⟩)
    (fun w h => hc w (h.res _ (hD.h.perm.mem_iff.2 (List.mem_cons_self ..)))) hN k
theorem St.startO {w : World} {v : Value} {t : Nat} {ys : List α} (h : (own E sz v t ys).holds w) : St w v.ownBlock.toList w [own E sz v t ys] :=
  ⟨Keep.refl _ _, by simpa using h, List.pairwise_singleton _ _, fun r hr b hb => by simp only [List.mem_singleton] at hr; subst hr; rw [own_foot] at hb; exact .inr hb⟩
end
/-! ## a list that is being copied over zeros -/
def cp {α : Type} (xs : List α) (z : α) (k : Nat) : List α := xs.take k ++ List.replicate (xs.length - k) z
theorem cp_zero {α : Type} (xs : List α) (z : α) : cp xs z 0 = List.replicate xs.length z := by simp [cp]
theorem cp_len {α : Type} (xs : List α) (z : α) {k : Nat} (h : xs.length ≤ k) : cp xs z k = xs := by simp [cp, List.take_of_length_le h, Nat.sub_eq_zero_of_le h]
theorem cp_length {α : Type} (xs : List α) (z : α) {k : Nat} (h : k ≤ xs.length) : (cp xs z k).length = xs.length := by simp [cp]; omega
theorem cp_get {α : Type} (xs : List α) (z : α) {k : Nat} (h : k < xs.length) : (cp xs z k)[k]? = some z := by
  unfold cp
  rw [List.getElem?_append_right (by simp; omega), List.getElem?_replicate, if_pos (by simp; omega)]
theorem take_snoc_ {α : Type} {xs : List α} {k : Nat} {y : α} (h : xs[k]? = some y) : xs.take (k + 1) = xs.take k ++ [y] := by rw [List.take_add_one, h]; rfl
theorem cp_set {α : Type} {xs : List α} (z : α) {k : Nat} {y : α} (h : xs[k]? = some y) : (cp xs z k).set k y = cp xs z (k + 1) := by
  have hlt : k < xs.length := (List.getElem?_eq_some_iff.1 h).1
  unfold cp
  rw [take_snoc_ h, List.append_assoc, List.set_append_right (s := xs.take k) k _ (by simp; omega)]
  have hk : (xs.take k).length = k := by simp; omega
  rw [hk, Nat.sub_self]
  obtain ⟨m, hm⟩ : ∃ m, xs.length - k = m + 1 := ⟨xs.length - k - 1, by omega⟩
  rw [hm, List.replicate_succ, List.set_cons_zero, show xs.length - (k + 1) = m by omega]
  rfl
theorem getElem_ex {α : Type} {xs : List α} {k : Nat} (h : k < xs.length) : ∃ y, xs[k]? = some y := ⟨_, List.getElem?_eq_getElem h⟩
attribute [irreducible] WL WC WQ CallsTo FnP
end Go.Proofs.Ytcmmfamippdgbaa.Vc
