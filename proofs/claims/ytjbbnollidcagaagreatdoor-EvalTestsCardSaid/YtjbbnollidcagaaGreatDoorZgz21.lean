/- Part 21 of what the row leans on: abstract values and states, their rules, and the contracts of the functions. -/
import Derived.Test.YtjbbnollidcagaaGreatDoorZgz20
namespace Go.Proofs.YtjbbnollidcagaaGreatDoor.Asl
open Go Go.RowKit
set_option linter.unusedVariables false
set_option linter.unusedSimpArgs false
set_option maxRecDepth 100000
set_option maxHeartbeats 4000000
theorem c_truth (b : Bool) : CallD Tryz.prog 34 [.raw (.bool b)] noHeap (Val.av (bV b)) noHeap := by
  cases b with
  | true =>
    refine zzg (nt := 6) (rs := [.cell 2 31]) Tryz.func34 ?_; intro Q hQ hW
    repeat' (first
 | (with_reducible refine run_n ?_; with_reducible first | refine hK _ _ (by simp) ?_ | refine hK _ _ ?_; clear hK K)
 | (refine zzc ?_)
 | (with_reducible refine awp_regT (by kernel_rfl) ?_; intro K hK)
 | (with_reducible refine a_cond (ht := ?_) (hf := ?_) <;> intro hb <;> (try simp at hb) <;> (try contradiction) <;> (try subst hb) <;> (try omega))
 | (with_reducible first | refine a_move (hr:=?_) | refine a_store (hr:=?_) | refine a_alloc (hr:=?_) | refine a_build (hr:=?_))
 | fail)
    all_goals ((refine zzr hQ ?_))
    all_goals (exact zzd)
  | false =>
    refine zzg (nt := 6) (rs := [.cell 2 31]) Tryz.func34 ?_; intro Q hQ hW
    repeat' (first
 | (with_reducible refine run_n ?_; with_reducible first | refine hK _ _ (by simp) ?_ | refine hK _ _ ?_; clear hK K)
 | (refine zzc ?_)
 | (with_reducible refine awp_regT (by kernel_rfl) ?_; intro K hK)
 | (with_reducible refine a_cond (ht := ?_) (hf := ?_) <;> intro hb <;> (try simp at hb) <;> (try contradiction) <;> (try subst hb) <;> (try omega))
 | (with_reducible first | refine a_move (hr:=?_) | refine a_store (hr:=?_) | refine a_alloc (hr:=?_) | refine a_build (hr:=?_))
 | fail)
    all_goals ((refine zzr hQ ?_))
    all_goals (exact zzd)
theorem c_rnumber6 (n : Int) : CallD Tryz.prog 52 [.raw (.int .i64 n)] noHeap (valAV 1 n ⟨#[]⟩) noHeap := by
  refine zzg (nt := 5) (rs := [.cell 2 31]) Tryz.func52 ?_; intro Q hQ hW
  repeat' (first
 | (with_reducible refine run_n ?_; with_reducible first | refine hK _ _ (by simp) ?_ | refine hK _ _ ?_; clear hK K)
 | (refine zzc ?_)
 | (with_reducible refine awp_regT (by kernel_rfl) ?_; intro K hK)
 | (with_reducible refine a_cond (ht := ?_) (hf := ?_) <;> intro hb <;> (try simp at hb) <;> (try contradiction) <;> (try subst hb) <;> (try omega))
 | (with_reducible first | refine a_move (hr:=?_) | refine a_store (hr:=?_) | refine a_alloc (hr:=?_) | refine a_build (hr:=?_))
 | fail)
  all_goals ((refine zzr hQ ?_))
  all_goals (exact zzd)
theorem c_rtk6 (op : Int) : CallD Tryz.prog 51 [.raw (.int .i64 op)] noHeap (.raw (.int .i64 (if op = 3 then 1 else if op = 4 then 2 else if op = 5 then 3 else 0))) noHeap := by
  by_cases h3 : op = 3
  · subst h3
    refine zzg (nt := 10) (rs := [.tmp 2]) Tryz.func51 ?_; intro Q hQ hW
    repeat' (first
 | (with_reducible refine run_n ?_; with_reducible first | refine hK _ _ (by simp) ?_ | refine hK _ _ ?_; clear hK K)
 | (refine zzc ?_)
 | (with_reducible refine awp_regT (by kernel_rfl) ?_; intro K hK)
 | (with_reducible refine a_cond (ht := ?_) (hf := ?_) <;> intro hb <;> (try simp at hb) <;> (try contradiction) <;> (try subst hb) <;> (try omega))
 | (with_reducible first | refine a_move (hr:=?_) | refine a_assign (hr:=?_) | refine a_bin (hr:=?_) | refine a_eqB (hr:=?_) | refine a_eqS (hr:=?_))
 | fail)
    all_goals ((refine zzr hQ ?_))
    all_goals (exact zzd)
  rw [if_neg h3]
  by_cases h4 : op = 4
  · subst h4
    refine zzg (nt := 10) (rs := [.tmp 2]) Tryz.func51 ?_; intro Q hQ hW
    repeat' (first
 | (with_reducible refine run_n ?_; with_reducible first | refine hK _ _ (by simp) ?_ | refine hK _ _ ?_; clear hK K)
 | (refine zzc ?_)
 | (with_reducible refine awp_regT (by kernel_rfl) ?_; intro K hK)
 | (with_reducible refine a_cond (ht := ?_) (hf := ?_) <;> intro hb <;> (try simp at hb) <;> (try contradiction) <;> (try subst hb) <;> (try omega))
 | (with_reducible first | refine a_move (hr:=?_) | refine a_assign (hr:=?_) | refine a_bin (hr:=?_) | refine a_eqB (hr:=?_) | refine a_eqS (hr:=?_))
 | fail)
    all_goals ((refine zzr hQ ?_))
    all_goals (exact zzd)
  rw [if_neg h4]
  by_cases h5 : op = 5
  · subst h5
    refine zzg (nt := 10) (rs := [.tmp 2]) Tryz.func51 ?_; intro Q hQ hW
    repeat' (first
 | (with_reducible refine run_n ?_; with_reducible first | refine hK _ _ (by simp) ?_ | refine hK _ _ ?_; clear hK K)
 | (refine zzc ?_)
 | (with_reducible refine awp_regT (by kernel_rfl) ?_; intro K hK)
 | (with_reducible refine a_cond (ht := ?_) (hf := ?_) <;> intro hb <;> (try simp at hb) <;> (try contradiction) <;> (try subst hb) <;> (try omega))
 | (with_reducible first | refine a_move (hr:=?_) | refine a_assign (hr:=?_) | refine a_bin (hr:=?_) | refine a_eqB (hr:=?_) | refine a_eqS (hr:=?_))
 | fail)
    all_goals ((refine zzr hQ ?_))
    all_goals (exact zzd)
  rw [if_neg h5]
  refine zzg (nt := 10) (rs := [.tmp 2]) Tryz.func51 ?_; intro Q hQ hW
  repeat' (first
 | (with_reducible refine run_n ?_; with_reducible first | refine hK _ _ (by simp) ?_ | refine hK _ _ ?_; clear hK K)
 | (refine zzc ?_)
 | (with_reducible refine awp_regT (by kernel_rfl) ?_; intro K hK)
 | (with_reducible refine a_cond (ht := ?_) (hf := ?_) <;> intro hb <;> (try simp at hb) <;> (try contradiction) <;> (try subst hb) <;> (try omega))
 | (with_reducible first | refine a_move (hr:=?_) | refine a_assign (hr:=?_) | refine a_bin (hr:=?_) | refine a_eqB (hr:=?_) | refine a_eqS (hr:=?_))
 | fail)
  all_goals first
    | (exfalso; omega)
    | ((refine zzr hQ ?_); exact zzd)
theorem c_half (n : Int) (h : inR n) : CallD Tryz.prog 68 [.raw (.int .i64 n)] noHeap (.raw (.int .u64 (if n < 0 then -n else n))) noHeap := by
  unfold inR at h
  by_cases h1 : n < 0
  · rw [if_pos h1]
    have hw : IntKind.wrap .u64 (-(IntKind.wrap .u64 n)) = -n := by rw [wrap_u64', wrap_u64']; omega
    rw [← hw]
    refine zzg (nt := 10) (rs := [.tmp 2]) Tryz.func68 ?_; intro Q hQ hW
    repeat' (first
 | (with_reducible refine run_n ?_; with_reducible first | refine hK _ _ (by simp) ?_ | refine hK _ _ ?_; clear hK K)
 | (refine zzc ?_)
 | (with_reducible refine awp_regT (by kernel_rfl) ?_; intro K hK)
 | (with_reducible refine a_cond (ht := ?_) (hf := ?_) <;> intro hb <;> (try simp at hb) <;> (try contradiction) <;> (try subst hb) <;> (try omega))
 | (with_reducible first | refine a_move (hr:=?_) | refine a_assign (hr:=?_) | refine a_bin (hr:=?_) | refine a_conv (hr:=?_) | refine a_bytesStr (hr:=?_) | refine a_strBytes (hr:=?_))
 | fail)
    all_goals first
      | (exfalso; omega)
      | ((refine zzr hQ ?_); exact zzd)
  · rw [if_neg h1]
    refine zzg (nt := 10) (rs := [.tmp 2]) Tryz.func68 ?_; intro Q hQ hW
    repeat' (first
 | (with_reducible refine run_n ?_; with_reducible first | refine hK _ _ (by simp) ?_ | refine hK _ _ ?_; clear hK K)
 | (refine zzc ?_)
 | (with_reducible refine awp_regT (by kernel_rfl) ?_; intro K hK)
 | (with_reducible refine a_cond (ht := ?_) (hf := ?_) <;> intro hb <;> (try simp at hb) <;> (try contradiction) <;> (try subst hb) <;> (try omega))
 | (with_reducible first | refine a_move (hr:=?_) | refine a_assign (hr:=?_) | refine a_bin (hr:=?_) | refine a_conv (hr:=?_) | refine a_bytesStr (hr:=?_) | refine a_strBytes (hr:=?_))
 | fail)
    all_goals first
      | (exfalso; omega)
      | ((refine zzr hQ ?_); exact zzd)
theorem c_signed (low : Bool) (z : Int) (h : 0 ≤ z ∧ z < 18446744073709551616) : CallD Tryz.prog 69 [.raw (.bool low), .raw (.int .u64 z)] noHeap (.tup [.raw (.int .i64 (if low = true then IntKind.wrap .i64 (IntKind.wrap .u64 (-z)) else IntKind.wrap .i64 z)), .raw (.bool (if low = true then decide (z ≤ 9223372036854775808) else decide (z < 9223372036854775808)))]) noHeap := by
  cases low with
  | true =>
    rw [if_pos rfl, if_pos rfl]
    refine zzg (nt := 16) (rs := [.tmp 4, .tmp 5]) Tryz.func69 ?_; intro Q hQ hW
    repeat' (first
 | (with_reducible refine run_n ?_; with_reducible first | refine hK _ _ (by simp) ?_ | refine hK _ _ ?_; clear hK K)
 | (refine zzc ?_)
 | (with_reducible refine awp_regT (by kernel_rfl) ?_; intro K hK)
 | (with_reducible refine a_cond (ht := ?_) (hf := ?_) <;> intro hb <;> (try simp at hb) <;> (try contradiction) <;> (try subst hb) <;> (try omega))
 | (with_reducible first | refine a_move (hr:=?_) | refine a_assign (hr:=?_) | refine a_bin (hr:=?_) | refine a_conv (hr:=?_) | refine a_bytesStr (hr:=?_) | refine a_strBytes (hr:=?_))
 | fail)
    all_goals first
      | (exfalso; omega)
      | ((refine zzr hQ ?_); exact zzd)
  | false =>
    rw [if_neg (by decide), if_neg (by decide)]
    by_cases hz : z < 9223372036854775808
    · rw [wrap_i64 (by omega) hz]
      refine zzg (nt := 16) (rs := [.tmp 4, .tmp 5]) Tryz.func69 ?_; intro Q hQ hW
      repeat' (first
 | (with_reducible refine run_n ?_; with_reducible first | refine hK _ _ (by simp) ?_ | refine hK _ _ ?_; clear hK K)
 | (refine zzc ?_)
 | (with_reducible refine awp_regT (by kernel_rfl) ?_; intro K hK)
 | (with_reducible refine a_cond (ht := ?_) (hf := ?_) <;> intro hb <;> (try simp at hb) <;> (try contradiction) <;> (try subst hb) <;> (try omega))
 | (with_reducible first | refine a_move (hr:=?_) | refine a_assign (hr:=?_) | refine a_bin (hr:=?_) | refine a_conv (hr:=?_) | refine a_bytesStr (hr:=?_) | refine a_strBytes (hr:=?_))
 | fail)
      all_goals first
        | (exfalso; omega)
        | ((refine zzr hQ ?_); exact zzd)
    · refine zzg (nt := 16) (rs := [.tmp 4, .tmp 5]) Tryz.func69 ?_; intro Q hQ hW
      repeat' (first
 | (with_reducible refine run_n ?_; with_reducible first | refine hK _ _ (by simp) ?_ | refine hK _ _ ?_; clear hK K)
 | (refine zzc ?_)
 | (with_reducible refine awp_regT (by kernel_rfl) ?_; intro K hK)
 | (with_reducible refine a_cond (ht := ?_) (hf := ?_) <;> intro hb <;> (try simp at hb) <;> (try contradiction) <;> (try subst hb) <;> (try omega))
 | (with_reducible first | refine a_move (hr:=?_) | refine a_assign (hr:=?_) | refine a_bin (hr:=?_) | refine a_conv (hr:=?_) | refine a_bytesStr (hr:=?_) | refine a_strBytes (hr:=?_))
 | fail)
      all_goals first
        | (exfalso; omega)
        | ((refine zzr hQ ?_); exact zzd)
end Go.Proofs.YtjbbnollidcagaaGreatDoor.Asl

namespace Go.Proofs.YtjbbnollidcagaaGreatDoor.Asl
open Go Go.RowKit
set_option linter.unusedVariables false
set_option linter.unusedSimpArgs false
set_option maxRecDepth 100000
set_option maxHeartbeats 4000000
/-- A number of a sign and a size. -/
def sgV (low : Bool) (z : Int) : Int := if low = true then -z else z
def absV (n : Int) : Int := if n < 0 then -n else n
theorem absV_b {n : Int} (h : inR n) : 0 ≤ absV n ∧ absV n ≤ 9223372036854775808 := by unfold absV inR at *; split <;> omega
theorem signed_at (low : Bool) (z : Int) (h : 0 ≤ z ∧ z < 18446744073709551616) : ∃ n, CallD Tryz.prog 69 [.raw (.bool low), .raw (.int .u64 z)] noHeap (.tup [.raw (.int .i64 n), .raw (.bool (decide (inR (sgV low z))))]) noHeap ∧ (inR (sgV low z) → n = sgV low z) := by
  have q := c_signed low z h
  unfold inR sgV
  cases low with
  | true =>
    simp only [if_true] at q ⊢
    rw [show decide (z ≤ 9223372036854775808) = decide (-9223372036854775808 ≤ -z ∧ -z < 9223372036854775808) from decide_eq_decide.2 (by omega)] at q
    exact ⟨_, q, fun hf => by rw [wrap_i64', wrap_u64']; split <;> omega⟩
  | false =>
    simp only [Bool.false_eq_true, if_false] at q ⊢
    rw [show decide (z < 9223372036854775808) = decide (-9223372036854775808 ≤ z ∧ z < 9223372036854775808) from decide_eq_decide.2 (by omega)] at q
    exact ⟨_, q, fun hf => by rw [wrap_i64']; split <;> omega⟩
theorem mul_sg (a b : Int) : a * b = sgV (decide (a < 0) != decide (b < 0)) (absV a * absV b) := by
  unfold sgV absV
  by_cases h1 : a < 0 <;> by_cases h2 : b < 0 <;> simp [h1, h2, Int.neg_mul, Int.mul_neg]
theorem tdiv_sg (a b : Int) : a.tdiv b = sgV (decide (a < 0) != decide (b < 0)) (absV a / absV b) := by
  unfold sgV absV
  by_cases h1 : a < 0 <;> by_cases h2 : b < 0 <;> simp only [h1, h2, if_true, if_false, decide_true, decide_false, bne_self_eq_false, Bool.false_eq_true]
  · rw [← Int.tdiv_eq_ediv_of_nonneg (show 0 ≤ -a by omega), Int.neg_tdiv, Int.tdiv_neg, Int.neg_neg]
  · rw [← Int.tdiv_eq_ediv_of_nonneg (show 0 ≤ -a by omega), Int.neg_tdiv]; simp
  · rw [← Int.tdiv_eq_ediv_of_nonneg (show 0 ≤ a by omega), Int.tdiv_neg]; simp
  · rw [← Int.tdiv_eq_ediv_of_nonneg (show 0 ≤ a by omega)]
theorem tmod_sg (a b : Int) : a.tmod b = sgV (decide (a < 0)) (absV a % absV b) := by
  unfold sgV absV
  by_cases h1 : a < 0 <;> by_cases h2 : b < 0 <;> simp only [h1, h2, if_true, if_false, decide_true, decide_false, Bool.false_eq_true]
  · rw [← Int.tmod_eq_emod_of_nonneg (show 0 ≤ -a by omega), Int.neg_tmod, Int.tmod_neg, Int.neg_neg]
  · rw [← Int.tmod_eq_emod_of_nonneg (show 0 ≤ -a by omega), Int.neg_tmod, Int.neg_neg]
  · rw [← Int.tmod_eq_emod_of_nonneg (show 0 ≤ a by omega), Int.tmod_neg]
  · rw [← Int.tmod_eq_emod_of_nonneg (show 0 ≤ a by omega)]
theorem quo63 {x : Int} (h : 0 < x) : IntKind.wrap .u64 ((9223372036854775808 : Int).tdiv x) = 9223372036854775808 / x := by
  rw [Int.tdiv_eq_ediv_of_nonneg (by decide)]
  have h1 : (0 : Int) ≤ 9223372036854775808 / x := Int.ediv_nonneg (by decide) (by omega)
  have h2 : (9223372036854775808 : Int) / x ≤ 9223372036854775808 := Int.ediv_le_self _ (by decide)
  exact wrap_u64 h1 (by omega)
theorem c_product (a b : Int) (ha : inR a) (hb0 : inR b) : ∃ n, CallD Tryz.prog 66 [.raw (.int .i64 a), .raw (.int .i64 b)] noHeap (.tup [.raw (.int .i64 n), .raw (.bool (decide (inR (a * b))))]) noHeap ∧ (inR (a * b) → n = a * b) := by
  have q1 := c_half a ha
  have q2 := c_half b hb0
  have bx := absV_b ha
  have bY := absV_b hb0
  rw [mul_sg]
  have e1 : (if a < 0 then -a else a) = absV a := rfl
  have e2 : (if b < 0 then -b else b) = absV b := rfl
  rw [e1] at q1
  rw [e2] at q2
  generalize absV a = x at q1 bx ⊢
  generalize absV b = y at q2 bY ⊢
  clear e1 e2
  have hxy : 0 ≤ x * y := Int.mul_nonneg bx.1 bY.1
  by_cases hbig : 9223372036854775808 < x * y
  · have hx0 : 0 < x := by
      rcases Int.lt_or_eq_of_le bx.1 with h | h
      · exact h
      · rw [← h] at hbig; simp at hbig
    have hgt : 9223372036854775808 / x < y := Int.ediv_lt_of_lt_mul hx0 (by rw [Int.mul_comm] at hbig; exact hbig)
    have hni : ¬ inR (sgV (decide (a < 0) != decide (b < 0)) (x * y)) := by unfold inR sgV; split <;> omega
    rw [decide_eq_false hni]
    refine ⟨0, ?_, fun h => absurd h hni⟩
    clear hni
    have hT := quo63 hx0
    obtain ⟨w, hw⟩ : ∃ w, 9223372036854775808 / x = w := ⟨_, rfl⟩
    rw [hw] at hgt hT
    refine zzg (nt := 31) (rs := [.tmp 4, .tmp 5]) Tryz.func66 ?_; intro Q hQ hW
    repeat' (first
 | (with_reducible refine run_n ?_; with_reducible first | refine hK _ _ (by simp) ?_ | refine hK _ _ ?_; clear hK K)
 | (refine zzc ?_)
 | (with_reducible refine awp_regT (by kernel_rfl) ?_; intro K hK)
 | (with_reducible refine a_cond (ht := ?_) (hf := ?_) <;> intro hb <;> (try simp at hb) <;> (try contradiction) <;> (try subst hb) <;> (try omega))
 | (with_reducible first | refine a_quoZ (hr:=?_) | refine a_move (hr:=?_) | refine a_assign (hr:=?_) | refine a_quoU (hr:=?_) | refine a_bin (hr:=?_) | refine a_extract (hr:=?_) | refine a_pick (hr:=?_) | refine a_neB (hr:=?_) | refine a_neS (hr:=?_) | refine a_call0 (hcall := q1) (hr:=?_) | refine a_call0 (hcall := q2) (hr:=?_) | refine a_gT (hr:=?_) | refine a_gF (hr:=?_) | refine a_gU (hr:=?_))
 | (with_reducible refine a_gB (hT := ?_) (hF := ?_) <;> intro hb <;> (try simp at hb) <;> (try contradiction) <;> (try subst hb) <;> (try omega))
 | fail)
    all_goals first
      | (exfalso; omega)
      | ((refine zzr hQ ?_); exact zzd)
  · obtain ⟨n, q3, hn⟩ := signed_at (decide (a < 0) != decide (b < 0)) (x * y) (by omega)
    refine ⟨n, ?_, hn⟩
    clear hn
    have hle : 0 < x → y ≤ 9223372036854775808 / x := fun hx => Int.le_ediv_of_mul_le hx (by rw [Int.mul_comm]; omega)
    generalize decide (inR (sgV (decide (a < 0) != decide (b < 0)) (x * y))) = ft at q3 ⊢
    rw [show (decide (a < 0) != decide (b < 0)) = !(decide (a < 0) == decide (b < 0)) from rfl] at q3
    rcases Int.lt_or_eq_of_le bx.1 with hx0 | hx0
    · have hT := quo63 hx0
      have hle := hle hx0
      obtain ⟨w, hw⟩ : ∃ w, 9223372036854775808 / x = w := ⟨_, rfl⟩
      rw [hw] at hle hT
      clear hw
      obtain ⟨p, hp⟩ : ∃ p, x * y = p := ⟨_, rfl⟩
      rw [hp] at hxy hbig
      have hss : IntKind.wrap .u64 (x * y) = x * y := by rw [hp]; exact wrap_u64 hxy (by omega)
      refine zzg (nt := 31) (rs := [.tmp 4, .tmp 5]) Tryz.func66 ?_; intro Q hQ hW
      repeat' (first
 | (with_reducible refine run_n ?_; with_reducible first | refine hK _ _ (by simp) ?_ | refine hK _ _ ?_; clear hK K)
 | (refine zzc ?_)
 | (with_reducible refine awp_regT (by kernel_rfl) ?_; intro K hK)
 | (with_reducible refine a_cond (ht := ?_) (hf := ?_) <;> intro hb <;> (try simp at hb) <;> (try contradiction) <;> (try subst hb) <;> (try omega))
 | (with_reducible first | refine a_quoZ (hr:=?_) | refine a_move (hr:=?_) | refine a_assign (hr:=?_) | refine a_quoU (hr:=?_) | refine a_bin (hr:=?_) | refine a_extract (hr:=?_) | refine a_pick (hr:=?_) | refine a_neB (hr:=?_) | refine a_neS (hr:=?_) | refine a_call0 (hcall := q1) (hr:=?_) | refine a_call0 (hcall := q2) (hr:=?_) | refine a_call0 (hcall := q3) (hr:=?_) | refine a_gT (hr:=?_) | refine a_gF (hr:=?_) | refine a_gU (hr:=?_))
 | (with_reducible refine a_gB (hT := ?_) (hF := ?_) <;> intro hb <;> (try simp at hb) <;> (try contradiction) <;> (try subst hb) <;> (try omega))
 | fail)
      all_goals first
        | (exfalso; omega)
        | ((refine zzr hQ ?_); exact zzd)
    · obtain rfl : x = 0 := hx0.symm
      rw [Int.zero_mul] at q3
      refine zzg (nt := 31) (rs := [.tmp 4, .tmp 5]) Tryz.func66 ?_; intro Q hQ hW
      repeat' (first
 | (with_reducible refine run_n ?_; with_reducible first | refine hK _ _ (by simp) ?_ | refine hK _ _ ?_; clear hK K)
 | (refine zzc ?_)
 | (with_reducible refine awp_regT (by kernel_rfl) ?_; intro K hK)
 | (with_reducible refine a_cond (ht := ?_) (hf := ?_) <;> intro hb <;> (try simp at hb) <;> (try contradiction) <;> (try subst hb) <;> (try omega))
 | (with_reducible first | refine a_quoZ (hr:=?_) | refine a_move (hr:=?_) | refine a_assign (hr:=?_) | refine a_quoU (hr:=?_) | refine a_bin (hr:=?_) | refine a_extract (hr:=?_) | refine a_pick (hr:=?_) | refine a_neB (hr:=?_) | refine a_neS (hr:=?_) | refine a_call0 (hcall := q1) (hr:=?_) | refine a_call0 (hcall := q2) (hr:=?_) | refine a_call0 (hcall := q3) (hr:=?_) | refine a_gT (hr:=?_) | refine a_gF (hr:=?_) | refine a_gU (hr:=?_))
 | (with_reducible refine a_gB (hT := ?_) (hF := ?_) <;> intro hb <;> (try simp at hb) <;> (try contradiction) <;> (try subst hb) <;> (try omega))
 | fail)
      all_goals first
        | (exfalso; omega)
        | ((refine zzr hQ ?_); exact zzd)
theorem c_sum (a b : Int) (ha : inR a) (hb0 : inR b) : ∃ n, CallD Tryz.prog 67 [.raw (.int .i64 a), .raw (.int .i64 b)] noHeap (.tup [.raw (.int .i64 n), .raw (.bool (decide (inR (a + b))))]) noHeap ∧ (inR (a + b) → n = a + b) := by
  have ha' := ha
  have hb' := hb0
  unfold inR at ha' hb'
  by_cases hs : a < 0 ↔ b < 0
  · have q1 := c_half a ha
    have q2 := c_half b hb0
    have e : a + b = sgV (decide (a < 0)) (absV a + absV b) := by
      unfold sgV absV
      by_cases h1 : a < 0
      · have h2 := hs.1 h1; simp [h1, h2]; omega
      · have h2 : ¬ b < 0 := fun h => h1 (hs.2 h); simp [h1, h2]
    have bx := absV_b ha
    have bY := absV_b hb0
    rw [e]
    have e1 : (if a < 0 then -a else a) = absV a := rfl
    have e2 : (if b < 0 then -b else b) = absV b := rfl
    rw [e1] at q1
    rw [e2] at q2
    generalize absV a = x at q1 bx ⊢
    generalize absV b = y at q2 bY ⊢
    clear e e1 e2
    by_cases hbig : x + y < 18446744073709551616
    · obtain ⟨n, q3, hn⟩ := signed_at (decide (a < 0)) (x + y) (by omega)
      refine ⟨n, ?_, hn⟩
      clear hn
      generalize decide (inR (sgV (decide (a < 0)) (x + y))) = ft at q3 ⊢
      by_cases h1 : a < 0
      · have h2 := hs.1 h1
        refine zzg (nt := 33) (rs := [.tmp 4, .tmp 5]) Tryz.func67 ?_; intro Q hQ hW
        repeat' (first
 | (with_reducible refine run_n ?_; with_reducible first | refine hK _ _ (by simp) ?_ | refine hK _ _ ?_; clear hK K)
 | (refine zzc ?_)
 | (with_reducible refine awp_regT (by kernel_rfl) ?_; intro K hK)
 | (with_reducible refine a_cond (ht := ?_) (hf := ?_) <;> intro hb <;> (try simp at hb) <;> (try contradiction) <;> (try subst hb) <;> (try omega))
 | (with_reducible first | refine a_move (hr:=?_) | refine a_assign (hr:=?_) | refine a_bin (hr:=?_) | refine a_extract (hr:=?_) | refine a_neB (hr:=?_) | refine a_neS (hr:=?_) | refine a_call0 (hcall := q1) (hr:=?_) | refine a_call0 (hcall := q2) (hr:=?_) | refine a_call0 (hcall := q3) (hr:=?_))
 | fail)
        all_goals first
          | (exfalso; omega)
          | ((refine zzr hQ ?_); exact zzd)
      · have h2 : ¬ b < 0 := fun h => h1 (hs.2 h)
        refine zzg (nt := 33) (rs := [.tmp 4, .tmp 5]) Tryz.func67 ?_; intro Q hQ hW
        repeat' (first
 | (with_reducible refine run_n ?_; with_reducible first | refine hK _ _ (by simp) ?_ | refine hK _ _ ?_; clear hK K)
 | (refine zzc ?_)
 | (with_reducible refine awp_regT (by kernel_rfl) ?_; intro K hK)
 | (with_reducible refine a_cond (ht := ?_) (hf := ?_) <;> intro hb <;> (try simp at hb) <;> (try contradiction) <;> (try subst hb) <;> (try omega))
 | (with_reducible first | refine a_move (hr:=?_) | refine a_assign (hr:=?_) | refine a_bin (hr:=?_) | refine a_extract (hr:=?_) | refine a_neB (hr:=?_) | refine a_neS (hr:=?_) | refine a_call0 (hcall := q1) (hr:=?_) | refine a_call0 (hcall := q2) (hr:=?_) | refine a_call0 (hcall := q3) (hr:=?_))
 | fail)
        all_goals first
          | (exfalso; omega)
          | ((refine zzr hQ ?_); exact zzd)
    · obtain rfl : x = 9223372036854775808 := by omega
      obtain rfl : y = 9223372036854775808 := by omega
      have hni : ¬ inR (sgV (decide (a < 0)) (9223372036854775808 + 9223372036854775808)) := by unfold inR sgV; split <;> omega
      rw [decide_eq_false hni]
      refine ⟨0, ?_, fun h => absurd h hni⟩
      clear hni
      by_cases h1 : a < 0
      · have h2 := hs.1 h1
        refine zzg (nt := 33) (rs := [.tmp 4, .tmp 5]) Tryz.func67 ?_; intro Q hQ hW
        repeat' (first
 | (with_reducible refine run_n ?_; with_reducible first | refine hK _ _ (by simp) ?_ | refine hK _ _ ?_; clear hK K)
 | (refine zzc ?_)
 | (with_reducible refine awp_regT (by kernel_rfl) ?_; intro K hK)
 | (with_reducible refine a_cond (ht := ?_) (hf := ?_) <;> intro hb <;> (try simp at hb) <;> (try contradiction) <;> (try subst hb) <;> (try omega))
 | (with_reducible first | refine a_move (hr:=?_) | refine a_assign (hr:=?_) | refine a_bin (hr:=?_) | refine a_extract (hr:=?_) | refine a_neB (hr:=?_) | refine a_neS (hr:=?_) | refine a_call0 (hcall := q1) (hr:=?_) | refine a_call0 (hcall := q2) (hr:=?_))
 | fail)
        all_goals first
          | (exfalso; omega)
          | ((refine zzr hQ ?_); exact zzd)
      · have h2 : ¬ b < 0 := fun h => h1 (hs.2 h)
        refine zzg (nt := 33) (rs := [.tmp 4, .tmp 5]) Tryz.func67 ?_; intro Q hQ hW
        repeat' (first
 | (with_reducible refine run_n ?_; with_reducible first | refine hK _ _ (by simp) ?_ | refine hK _ _ ?_; clear hK K)
 | (refine zzc ?_)
 | (with_reducible refine awp_regT (by kernel_rfl) ?_; intro K hK)
 | (with_reducible refine a_cond (ht := ?_) (hf := ?_) <;> intro hb <;> (try simp at hb) <;> (try contradiction) <;> (try subst hb) <;> (try omega))
 | (with_reducible first | refine a_move (hr:=?_) | refine a_assign (hr:=?_) | refine a_bin (hr:=?_) | refine a_extract (hr:=?_) | refine a_neB (hr:=?_) | refine a_neS (hr:=?_) | refine a_call0 (hcall := q1) (hr:=?_) | refine a_call0 (hcall := q2) (hr:=?_))
 | fail)
        all_goals first
          | (exfalso; omega)
          | ((refine zzr hQ ?_); exact zzd)
  · have hf : inR (a + b) := by unfold inR; omega
    rw [decide_eq_true hf]
    refine ⟨a + b, ?_, fun _ => rfl⟩
    unfold inR at hf
    by_cases h1 : a < 0
    · have h2 : ¬ b < 0 := fun h => hs ⟨fun _ => h, fun _ => h1⟩
      refine zzg (nt := 33) (rs := [.tmp 4, .tmp 5]) Tryz.func67 ?_; intro Q hQ hW
      repeat' (first
 | (with_reducible refine run_n ?_; with_reducible first | refine hK _ _ (by simp) ?_ | refine hK _ _ ?_; clear hK K)
 | (refine zzc ?_)
 | (with_reducible refine awp_regT (by kernel_rfl) ?_; intro K hK)
 | (with_reducible refine a_cond (ht := ?_) (hf := ?_) <;> intro hb <;> (try simp at hb) <;> (try contradiction) <;> (try subst hb) <;> (try omega))
 | (with_reducible first | refine a_move (hr:=?_) | refine a_assign (hr:=?_) | refine a_bin (hr:=?_) | refine a_extract (hr:=?_) | refine a_neB (hr:=?_) | refine a_neS (hr:=?_))
 | fail)
      all_goals first
        | (exfalso; omega)
        | ((refine zzr hQ ?_); exact zzd)
    · have h2 : b < 0 := by omega
      refine zzg (nt := 33) (rs := [.tmp 4, .tmp 5]) Tryz.func67 ?_; intro Q hQ hW
      repeat' (first
 | (with_reducible refine run_n ?_; with_reducible first | refine hK _ _ (by simp) ?_ | refine hK _ _ ?_; clear hK K)
 | (refine zzc ?_)
 | (with_reducible refine awp_regT (by kernel_rfl) ?_; intro K hK)
 | (with_reducible refine a_cond (ht := ?_) (hf := ?_) <;> intro hb <;> (try simp at hb) <;> (try contradiction) <;> (try subst hb) <;> (try omega))
 | (with_reducible first | refine a_move (hr:=?_) | refine a_assign (hr:=?_) | refine a_bin (hr:=?_) | refine a_extract (hr:=?_) | refine a_neB (hr:=?_) | refine a_neS (hr:=?_))
 | fail)
      all_goals first
        | (exfalso; omega)
        | ((refine zzr hQ ?_); exact zzd)
end Go.Proofs.YtjbbnollidcagaaGreatDoor.Asl

