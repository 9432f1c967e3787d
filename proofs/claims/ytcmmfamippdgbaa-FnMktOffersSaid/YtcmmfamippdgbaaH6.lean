/- Contracts: what is a market that is ok; the law FnExactMktOk, walked: it returns true. -/
import Derived.Test.YtcmmfamippdgbaaH5
namespace Go.Proofs.Ytcmmfamippdgbaa
open Vc

def rowGood (r : Row) (c : Int) (d : Deal) : Bool :=
  decide (r.who = d.seller) && !r.used && inB d.price 1 (entCap r.face) && (if d.buyer = 0 then decide (d.due = 0) else inB d.buyer 1 5 && !decide (d.buyer = d.seller) && inB d.due c (c + 5))
def dealGood (rs : List Row) (c : Int) (d : Deal) : Bool := inB d.ticket 0 7 && inB d.seller 1 5 && rowGood (rs.getD d.ticket.toNat row0) c d
def dealBad (rs : List Row) (c : Int) (ds : List Deal) (k : Nat) : Bool :=
  match ds[k]? with
  | none => false
  | some y => !dealGood rs c y || (decide (0 < k) && match ds[((k : Int) - 1).toNat]? with | some z => decide (y.ticket ≤ z.ticket) | none => false)
def dealsTo (rs : List Row) (c : Int) (ds : List Deal) (k : Nat) : Bool := (List.range k).all (fun i => !dealBad rs c ds i)
def numBad (ns ss : List Int) (k : Nat) : Bool := !inB (ns.getD k 0) 0 99999 || !inB (ss.getD k 0) 0 6 || (decide (ns.getD k 0 = 0) != decide (ss.getD k 0 = 0))
def numsTo (ns ss : List Int) (k : Nat) : Bool := (List.range k).all (fun i => !numBad ns ss i)
def mktShape (m : Hou) : Bool := (ownFold m.log).2 && monOk m.purses && decide (m.deals.length ≤ 8) && inB m.clock 0 99999 && decide (m.nums.length = 5) && decide (m.said.length = 5)
def mktOk (m : Hou) : Bool := mktShape m && dealsTo (ownFold m.log).1 m.clock m.deals m.deals.length && numsTo m.nums m.said 5 && decide (IntKind.i64.wrap (sumW m.purses + mktHeld m.deals) ≤ 100000)
section
variable {rs : List Row} {c : Int} {ds : List Deal} {k : Nat} {y z : Deal}
theorem dealsTo_succ (h : dealsTo rs c ds k = true) (hb : dealBad rs c ds k = false) : dealsTo rs c ds (k + 1) = true := by
  simp only [dealsTo, List.range_succ, List.all_append, List.all_cons, List.all_nil, Bool.and_true, Bool.and_eq_true] at *
  exact ⟨h, by rw [hb]; rfl⟩
theorem dealsTo_no (hk : k < ds.length) (hb : dealBad rs c ds k = true) : dealsTo rs c ds ds.length = false := by
  rw [dealsTo, List.all_eq_false]; exact ⟨k, List.mem_range.2 hk, by simp [hb]⟩
theorem dealBad_1 (hy : ds[k]? = some y) (h : dealGood rs c y = false) : dealBad rs c ds k = true := by simp [dealBad, hy, h]
theorem dealBad_2 (hy : ds[k]? = some y) (h : dealGood rs c y = true) (h0 : ¬ 0 < k) : dealBad rs c ds k = false := by simp [dealBad, hy, h, h0]
theorem dealBad_3 (hy : ds[k]? = some y) (h : dealGood rs c y = true) (h0 : 0 < k) (hz : ds[((k : Int) - 1).toNat]? = some z) : dealBad rs c ds k = decide (y.ticket ≤ z.ticket) := by
  simp only [dealBad, hy, h, hz]; simp [h0]
theorem numsTo_succ {ns ss : List Int} (h : numsTo ns ss k = true) (hb : numBad ns ss k = false) : numsTo ns ss (k + 1) = true := by
  simp only [numsTo, List.range_succ, List.all_append, List.all_cons, List.all_nil, Bool.and_true, Bool.and_eq_true] at *
  exact ⟨h, by rw [hb]; rfl⟩
theorem numsTo_no {ns ss : List Int} (hk : k < 5) (hb : numBad ns ss k = true) : numsTo ns ss 5 = false := by
  rw [numsTo, List.all_eq_false]; exact ⟨k, List.mem_range.2 hk, by simp [hb]⟩
theorem numBad_at {ns ss : List Int} {n s : Int} (hn : ns[k]? = some n) (hs : ss[k]? = some s) : numBad ns ss k = (!inB n 0 99999 || !inB s 0 6 || (decide (n = 0) != decide (s = 0))) := by
  simp [numBad, List.getD_eq_getElem?_getD, hn, hs]
end
end Go.Proofs.Ytcmmfamippdgbaa
