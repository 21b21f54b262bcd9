/- Part 21 of what the row leans on: abstract values and states, their rules, and the contracts of the functions. -/
import Derived.Test.YtjbbnollidcagaaDoorZgc20
namespace Go.Proofs.YtjbbnollidcagaaDoor.Asl
open Go Go.RowKit
set_option linter.unusedVariables false
set_option linter.unusedSimpArgs false
set_option maxRecDepth 100000
set_option maxHeartbeats 4000000
/-- A number of a sign and a size. -/
def sgV (low : Bool) (z : Int) : Int := if low = true then -z else z
def absV (n : Int) : Int := if n < 0 then -n else n
theorem absV_b {n : Int} (h : inR n) : 0 ≤ absV n ∧ absV n ≤ 9223372036854775808 := by unfold absV inR at *; split <;> omega
theorem tmod_sg (a b : Int) : a.tmod b = sgV (decide (a < 0)) (absV a % absV b) := by
  unfold sgV absV
  by_cases h1 : a < 0 <;> by_cases h2 : b < 0 <;> simp only [h1, h2, if_true, if_false, decide_true, decide_false, Bool.false_eq_true]
  · rw [← Int.tmod_eq_emod_of_nonneg (show 0 ≤ -a by omega), Int.neg_tmod, Int.tmod_neg, Int.neg_neg]
  · rw [← Int.tmod_eq_emod_of_nonneg (show 0 ≤ -a by omega), Int.neg_tmod, Int.neg_neg]
  · rw [← Int.tmod_eq_emod_of_nonneg (show 0 ≤ a by omega), Int.tmod_neg]
  · rw [← Int.tmod_eq_emod_of_nonneg (show 0 ≤ a by omega)]
end Go.Proofs.YtjbbnollidcagaaDoor.Asl

