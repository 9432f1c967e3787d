/- The library's own Sort and Compact of ints, as they lie in this program: what the shelf's contracts ask. -/
import Derived.Test.YtcmmfamippdgbaaTypes
import Derived.Shelf.Sort.Plain
import Derived.Shelf.Slices.In.SortNone
import Derived.Shelf.Slices.CompactI
import Derived.Sort.OwnSortedInts
import Derived.Lib.OwnBridge
import Derived.Test.YtcmmfamippdgbaaV2
namespace Go.Proofs.Ytcmmfamippdgbaa
open Go.Shelf Vc

def lays189Ren : Ren := ⟨fun | 189 => 127 | 125 => 159 | 257 => 158 | 128 => 184 | 129 => 185 | 294 => 175 | 295 => 176 | 296 => 177 | 297 => 178 | 298 => 179 | 299 => 180 | 216 => 181 | 300 => 182 | 301 => 183 | 328 => 196 | 329 => 197 | 330 => 198 | 331 => 199 | 332 => 200 | 215 => 201 | 343 => 206 | n => n, fun | 28 => 25 | 3 => 3 | 46 => 153 | 0 => 0 | 51 => 170 | 53 => 172 | 4 => 4 | 183 => 163 | 182 => 162 | 131 => 107 | 5 => 5 | 9 => 9 | 218 => 176 | 222 => 180 | 228 => 186 | 229 => 187 | n => n, fun n => n⟩
theorem lays189_ : Lays.n189 Try.prog lays189Ren where
  mixed := by kernel_rfl
  f125 := Try.func159.trans (congrArg some (by kernel_rfl))
  f128 := Try.func184.trans (congrArg some (by kernel_rfl))
  f129 := Try.func185.trans (congrArg some (by kernel_rfl))
  f189 := Try.func127.trans (congrArg some (by kernel_rfl))
  f215 := Try.func201.trans (congrArg some (by kernel_rfl))
  f216 := Try.func181.trans (congrArg some (by kernel_rfl))
  f257 := Try.func158.trans (congrArg some (by kernel_rfl))
  f294 := Try.func175.trans (congrArg some (by kernel_rfl))
  f295 := Try.func176.trans (congrArg some (by kernel_rfl))
  f296 := Try.func177.trans (congrArg some (by kernel_rfl))
  f297 := Try.func178.trans (congrArg some (by kernel_rfl))
  f298 := Try.func179.trans (congrArg some (by kernel_rfl))
  f299 := Try.func180.trans (congrArg some (by kernel_rfl))
  f300 := Try.func182.trans (congrArg some (by kernel_rfl))
  f301 := Try.func183.trans (congrArg some (by kernel_rfl))
  f328 := Try.func196.trans (congrArg some (by kernel_rfl))
  f329 := Try.func197.trans (congrArg some (by kernel_rfl))
  f330 := Try.func198.trans (congrArg some (by kernel_rfl))
  f331 := Try.func199.trans (congrArg some (by kernel_rfl))
  f332 := Try.func200.trans (congrArg some (by kernel_rfl))
  f343 := Try.func206.trans (congrArg some (by kernel_rfl))
  t0 := Try.underlying0
  a0 := Try.isAgg0
  z0 := Try.sizeOf0
  v0 := Try.zeroValue0
  t3 := Try.underlying3
  a3 := Try.isAgg3
  z3 := Try.sizeOf3
  v3 := Try.zeroValue3
  t4 := Try.underlying4
  a4 := Try.isAgg4
  z4 := Try.sizeOf4
  v4 := Try.zeroValue4
  t5 := Try.underlying5
  a5 := Try.isAgg5
  z5 := Try.sizeOf5
  v5 := Try.zeroValue5
  t9 := Try.underlying9
  a9 := Try.isAgg9
  z9 := Try.sizeOf9
  v9 := Try.zeroValue9
  t28 := Try.underlying25
  a28 := Try.isAgg25
  z28 := Try.sizeOf25
  v28 := Try.zeroValue25
  t46 := Try.underlying153
  a46 := Try.isAgg153
  z46 := Try.sizeOf153
  v46 := Try.zeroValue153
  t51 := Try.underlying170
  a51 := Try.isAgg170
  z51 := Try.sizeOf170
  v51 := Try.zeroValue170
  t53 := Try.underlying172
  a53 := Try.isAgg172
  z53 := Try.sizeOf172
  v53 := Try.zeroValue172
  t131 := Try.underlying107
  a131 := Try.isAgg107
  z131 := Try.sizeOf107
  v131 := Try.zeroValue107
  t182 := Try.underlying162
  a182 := Try.isAgg162
  z182 := Try.sizeOf162
  v182 := Try.zeroValue162
  t183 := Try.underlying163
  a183 := Try.isAgg163
  z183 := Try.sizeOf163
  v183 := Try.zeroValue163
  t218 := Try.underlying176
  a218 := Try.isAgg176
  z218 := Try.sizeOf176
  v218 := Try.zeroValue176
  t222 := Try.underlying180
  a222 := Try.isAgg180
  z222 := Try.sizeOf180
  v222 := Try.zeroValue180
  t228 := Try.underlying186
  a228 := Try.isAgg186
  z228 := Try.sizeOf186
  v228 := Try.zeroValue186
  t229 := Try.underlying187
  a229 := Try.isAgg187
  z229 := Try.sizeOf187
  v229 := Try.zeroValue187
def lays20Ren : Ren := ⟨fun | 20 => 129 | n => n, fun | 22 => 25 | 3 => 3 | 4 => 4 | 0 => 0 | n => n, fun n => n⟩
theorem lays20_ : Lays2.n20 Try.prog lays20Ren where
  mixed := by kernel_rfl
  f20 := Try.func129.trans (congrArg some (by kernel_rfl))
  t0 := Try.underlying0
  a0 := Try.isAgg0
  z0 := Try.sizeOf0
  v0 := Try.zeroValue0
  t3 := Try.underlying3
  a3 := Try.isAgg3
  z3 := Try.sizeOf3
  v3 := Try.zeroValue3
  t4 := Try.underlying4
  a4 := Try.isAgg4
  z4 := Try.sizeOf4
  v4 := Try.zeroValue4
  t22 := Try.underlying25
  a22 := Try.isAgg25
  z22 := Try.sizeOf25
  v22 := Try.zeroValue25
  i3 := by kernel_rfl
theorem flat_ints (ys : List Int) : ys.flatMap intE = ys.map (Value.int .i64) := by induction ys with
  | nil => rfl
  | cons a t ih => simp only [List.flatMap_cons, List.map_cons, ih]; rfl
def sortI (ys : List Int) : List Int := ys.mergeSort fun x y => decide (x ≤ y)
theorem sortI_len (ys : List Int) : (sortI ys).length = ys.length := List.length_mergeSort ys
theorem own_of_row {w w' : World} {v v' : Value} {t : Nat} {ys : List Int} (hg : w.grownBy w' v.ownBlock) (ho : w'.ownsRow 0 t 1 v' ys.length (ys.map (Value.int .i64))) (hv : v'.ownBlock = v.ownBlock) : Vc.St w v.ownBlock.toList w' [own intE 1 v' t ys] :=
  ⟨Keep.of_grown hg, fun r hr => by simp only [List.mem_singleton] at hr; subst hr; rw [own_holds, flat_ints]; exact ho, List.pairwise_singleton _ _, fun r hr b hb => by simp only [List.mem_singleton] at hr; subst hr; rw [own_foot, hv] at hb; exact .inr hb⟩
theorem sortInts_c (v : Value) (ys : List Int) (w : World) (hr : (own intE 1 v 3 ys).holds w) (hl : ys.length ≤ 1099511627776) :
    CallsTo Try.prog 127 [v] w v.ownBlock.toList (B := Unit) (fun _ => True) (fun _ => .tuple #[]) (fun _ => [own intE 1 v 3 (sortI ys)]) := by
  have ho := own_holds.1 hr
  rw [flat_ints] at ho
  rcases ho.2 with ⟨rfl, h0⟩ | ⟨g, cap, cur, rfl, hb, hh, h1, h2, h3, h4⟩
  · have e : ys = [] := List.length_eq_zero_iff.1 h0
    subst e
    unfold CallsTo
    refine Calls.mono (f := 127) (Any.slices_Sort_int_none lays189_ none 0 w) ?_
    rintro e w' ⟨rfl, rfl⟩
    have e : sortI [] = [] := by simp [sortI]
    refine ⟨(), trivial, rfl, ?_⟩
    rw [e]
    exact own_of_row (v := .slice none 0 0) ⟨rfl, rfl, rfl, Nat.le_refl _, fun _ _ _ => rfl⟩ ho rfl
  · rw [Nat.mul_one] at h4
    unfold CallsTo
    refine Calls.mono (f := 127) (Any.slices_Sort_int lays189_ g 0 cap ys w (holds_of_blockI hh h4) (Array.getElem?_eq_some_iff.1 hh).1 (by omega)) ?_
    rintro e w' ⟨rfl, n, os, rfl⟩
    refine ⟨(), trivial, rfl, own_of_row (v := .slice (some ⟨g, 0, none⟩) ys.length cap) (grownBy_sortedI _) ?_ rfl⟩
    have := ownsRow_sortedI (n := n) (os := os) (ss := ys) (ts := sortI ys) (sortI_len ys) hb hh h1 h2 h3
    rw [sortI_len]
    exact this
theorem compactInts_c (v : Value) (ys : List Int) (w : World) (hr : (own intE 1 v 3 ys).holds w) (hl : ys.length ≤ 1099511627776) :
    CallsTo Try.prog 129 [v] w v.ownBlock.toList (B := Value) (fun u => u.oneCell' = true) (fun u => u) (fun u => [own intE 1 u 3 (Lib.compact ys)]) := by
  have ho := own_holds.1 hr
  rw [flat_ints] at ho
  rcases ho.2 with ⟨rfl, h0⟩ | ⟨g, cap, cur, rfl, hb, hh, h1, h2, h3, h4⟩
  · have e : ys = [] := List.length_eq_zero_iff.1 h0
    subst e
    unfold CallsTo
    refine Calls.mono (f := 129) (Any.slices_Compact_int_empty lays20_ none 0 w) ?_
    rintro e w' ⟨rfl, rfl⟩
    exact ⟨_, rfl, rfl, own_of_row (v := .slice none 0 0) ⟨rfl, rfl, rfl, Nat.le_refl _, fun _ _ _ => rfl⟩ ho rfl⟩
  · rw [Nat.mul_one] at h4
    unfold CallsTo
    refine Calls.mono (f := 129) (Any.slices_Compact_int lays20_ g 0 cap ys w (holds_of_blockI hh h4) (by omega) h1) ?_
    rintro e w' ⟨rfl, q, rfl⟩
    have hle := Lib.compact_length_le ys
    have hg : w.grownBy (Sort.putRow (Value.int .i64) (Sort.ahead w q) g 0 (Lib.compact ys ++ List.replicate (ys.length - (Lib.compact ys).length) 0).toArray) (some g) := by
      refine ⟨rfl, rfl, rfl, by simp [Sort.putRow, Sort.mapBlock, Sort.ahead], fun k hk hne => ?_⟩
      have : g ≠ k := fun e => hne (by rw [e])
      simp [Sort.putRow, Sort.mapBlock, Sort.ahead, Array.getElem?_modify, this]
    have hc := Lib.ownsRow_putRow (q := q) (k := (Lib.compact ys).length) (ys := Lib.compact ys ++ List.replicate (ys.length - (Lib.compact ys).length) 0) ho (by simp; omega) hle
    rw [List.take_left] at hc
    exact ⟨_, rfl, rfl, own_of_row (v := .slice (some ⟨g, 0, none⟩) ys.length cap) hg hc rfl⟩
end Go.Proofs.Ytcmmfamippdgbaa
