/- Plain laws: what is a market that is ok, part by part. -/
import Derived.Test.YtcmmfamippdgbaaH6
import Derived.Test.YtcmmfamippdgbaaO5
namespace Go.Proofs.Ytcmmfamippdgbaa
open Vc

structure Shape (m : Hou) : Prop where
  fold : (ownFold m.log).2 = true
  mon : monOk m.purses = true
  deals : m.deals.length ≤ 8
  clock : inB m.clock 0 99999 = true
  nums : m.nums.length = 5
  said : m.said.length = 5
theorem shape_of {m : Hou} (h : mktShape m = true) : Shape m := by
  simp only [mktShape, Bool.and_eq_true, decide_eq_true_eq] at h
  obtain ⟨⟨⟨⟨⟨h1, h2⟩, h3⟩, h4⟩, h5⟩, h6⟩ := h
  exact ⟨h1, h2, h3, h4, h5, h6⟩
theorem mktOk_shape {m : Hou} (h : mktShape m = false) : mktOk m = false := by simp [mktOk, h]
theorem mktOk_deals {m : Hou} (h : dealsTo (ownFold m.log).1 m.clock m.deals m.deals.length = false) : mktOk m = false := by simp [mktOk, h]
theorem mktOk_nums {m : Hou} (h : numsTo m.nums m.said 5 = false) : mktOk m = false := by simp [mktOk, h]
theorem mktOk_all {m : Hou} (h1 : mktShape m = true) (h2 : dealsTo (ownFold m.log).1 m.clock m.deals m.deals.length = true) (h3 : numsTo m.nums m.said 5 = true) : mktOk m = decide (IntKind.i64.wrap (sumW m.purses + mktHeld m.deals) ≤ 100000) := by simp [mktOk, h1, h2, h3]
end Go.Proofs.Ytcmmfamippdgbaa
