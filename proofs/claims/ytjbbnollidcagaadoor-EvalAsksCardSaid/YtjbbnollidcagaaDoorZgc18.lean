/- Part 18 of what the row leans on: abstract values and states, their rules, and the contracts of the functions. -/
import Derived.Lib.Mul64
import Derived.Test.YtjbbnollidcagaaDoorZgc17
namespace Go.Proofs.YtjbbnollidcagaaDoor.Asl
open Go Go.RowKit
set_option linter.unusedVariables false
set_option linter.unusedSimpArgs false
set_option maxRecDepth 100000
set_option maxHeartbeats 4000000
@[simp] theorem isFn_Mul64 : isFn Tryd.prog 79 = true := by kernel_rfl
theorem shr32 (x : Int) : shrI .u64 x 32 = x / 4294967296 := rfl
theorem and32 (x : Int) : andI .u64 x 4294967295 = x % 4294967296 := andI_u64 x 32 (by decide)
theorem mul64_int {x y : Int} (hx : 0 ≤ x ∧ x < 18446744073709551616) (hy : 0 ≤ y ∧ y < 18446744073709551616) :
    (0 ≤ (x % 4294967296) * (y % 4294967296) ∧ (x % 4294967296) * (y % 4294967296) < 18446744073709551616) ∧
    (0 ≤ (x / 4294967296) * (y % 4294967296) ∧ (x / 4294967296) * (y % 4294967296) + (x % 4294967296) * (y % 4294967296) / 4294967296 < 18446744073709551616) ∧
    (0 ≤ (x % 4294967296) * (y / 4294967296) ∧ ((x / 4294967296) * (y % 4294967296) + (x % 4294967296) * (y % 4294967296) / 4294967296) % 4294967296 + (x % 4294967296) * (y / 4294967296) < 18446744073709551616) ∧
    0 ≤ (x / 4294967296) * (y / 4294967296) ∧
    (x / 4294967296) * (y / 4294967296) + ((x / 4294967296) * (y % 4294967296) + (x % 4294967296) * (y % 4294967296) / 4294967296) / 4294967296 +
      (((x / 4294967296) * (y % 4294967296) + (x % 4294967296) * (y % 4294967296) / 4294967296) % 4294967296 + (x % 4294967296) * (y / 4294967296)) / 4294967296 = x * y / 18446744073709551616 ∧ 0 ≤ x * y / 18446744073709551616 ∧ x * y / 18446744073709551616 < 18446744073709551616 := by
  obtain ⟨a, rfl⟩ := Int.eq_ofNat_of_zero_le hx.1
  obtain ⟨b, rfl⟩ := Int.eq_ofNat_of_zero_le hy.1
  obtain ⟨h1, h2, h3, h4⟩ := Go.Lib.mul64_hi a b (by omega) (by omega)
  have h5 : a * b / 18446744073709551616 < 18446744073709551616 := Nat.div_lt_of_lt_mul (Nat.mul_lt_mul_of_lt_of_le (by omega) (by omega) (by omega))
  have g1 := Int.ofNat_lt.2 h1
  have g2 := Int.ofNat_lt.2 h2
  have g3 := Int.ofNat_lt.2 h3
  have g4 := congrArg (Nat.cast : Nat → Int) h4
  have g5 := Int.ofNat_lt.2 h5
  simp only [Int.natCast_add, Int.natCast_mul, Int.natCast_emod, Int.natCast_ediv] at g1 g2 g3 g4 g5
  have n1 : (0 : Int) ≤ (a : Int) % 4294967296 := Int.emod_nonneg _ (by decide)
  have n2 : (0 : Int) ≤ (b : Int) % 4294967296 := Int.emod_nonneg _ (by decide)
  have n3 : (0 : Int) ≤ (a : Int) / 4294967296 := by omega
  have n4 : (0 : Int) ≤ (b : Int) / 4294967296 := by omega
  have n5 : (0 : Int) ≤ (a : Int) * b := Int.mul_nonneg (by omega) (by omega)
  exact ⟨⟨Int.mul_nonneg n1 n2, g1⟩, ⟨Int.mul_nonneg n3 n2, g2⟩, ⟨Int.mul_nonneg n1 n4, g3⟩, Int.mul_nonneg n3 n4, g4, by omega, g5⟩
attribute [local simp] and32 shr32
theorem c_Mul64 (x y : Int) (hx : 0 ≤ x ∧ x < 18446744073709551616) (hy : 0 ≤ y ∧ y < 18446744073709551616) : CallD Tryd.prog 79 [.raw (.int .u64 x), .raw (.int .u64 y)] noHeap (.tup [.raw (.int .u64 (x * y / 18446744073709551616)), .raw (.int .u64 (x * y % 18446744073709551616))]) noHeap := by
  obtain ⟨⟨a1, a2⟩, ⟨b1, b2⟩, ⟨c1, c2⟩, d1, e1, e2, e3⟩ := mul64_int hx hy
  have hss : IntKind.wrap .u64 (x * y) = x * y % 18446744073709551616 := wrap_u64' _
  rw [← e1]
  rw [← e1] at e2 e3
  refine zzg (nt := 51) (rs := [.tmp 4, .tmp 5]) Tryd.func79 ?_; intro Q hQ hW
  repeat' (first
 | (with_reducible refine run_n ?_; with_reducible first | refine hK _ _ (by simp) ?_ | refine hK _ _ ?_; clear hK K)
 | (refine zzc ?_)
 | (with_reducible refine awp_regT (by kernel_rfl) ?_; intro K hK)
 | (with_reducible refine a_cond (ht := ?_) (hf := ?_) <;> intro hb <;> (try simp at hb) <;> (try contradiction) <;> (try subst hb) <;> (try omega))
 | (with_reducible first | refine a_move (hr:=?_) | refine a_assign (hr:=?_) | refine a_and (hr:=?_) | refine a_shr (hr:=?_) | refine a_bin (hr:=?_))
 | fail)
  all_goals ((refine zzr hQ ?_))
  all_goals (exact zzd)
end Go.Proofs.YtjbbnollidcagaaDoor.Asl

namespace Go.Proofs.YtjbbnollidcagaaDoor.Asl
open Go Go.RowKit
set_option linter.unusedVariables false
set_option linter.unusedSimpArgs false
set_option maxRecDepth 100000
set_option maxHeartbeats 4000000
abbrev Val := Int × Int × ByteArray
abbrev Val.av (a : Val) : AV := valAV a.1 a.2.1 a.2.2
def zV : Val := (0, 0, ⟨#[]⟩)
def inR (n : Int) : Prop := -9223372036854775808 ≤ n ∧ n < 9223372036854775808
instance (n : Int) : Decidable (inR n) := by unfold inR; infer_instance
theorem wrap_i64' (x : Int) : IntKind.wrap .i64 x = (if x % 18446744073709551616 < 9223372036854775808 then x % 18446744073709551616 else x % 18446744073709551616 - 18446744073709551616) := by
  simp [IntKind.wrap, IntKind.bits, IntKind.signed]
  split <;> split <;> omega
theorem c_times (a b : Int) (ha : inR a) (hb : inR b) : ∃ n, CallD Tryd.prog 59 [.raw (.int .i64 a), .raw (.int .i64 b)] noHeap (.tup [.raw (.int .i64 n), .raw (.bool (decide (inR (a * b))))]) noHeap ∧ (inR (a * b) → n = a * b) := by
  obtain ⟨X, hX⟩ : ∃ X : Int, X = if a < 0 then -a else a := ⟨_, rfl⟩
  obtain ⟨Y, hY⟩ : ∃ Y : Int, Y = if b < 0 then -b else b := ⟨_, rfl⟩
  have hX0 : 0 ≤ X ∧ X ≤ 9223372036854775808 := by unfold inR at ha; split at hX <;> omega
  have hY0 : 0 ≤ Y ∧ Y ≤ 9223372036854775808 := by unfold inR at hb; split at hY <;> omega
  have q := c_Mul64 X Y (by omega) (by omega)
  have hXY : 0 ≤ X * Y := Int.mul_nonneg hX0.1 hY0.1
  have e : a * b = if (a < 0) = (b < 0) then X * Y else -(X * Y) := by
    by_cases h1 : a < 0 <;> by_cases h2 : b < 0 <;> simp only [h1, h2, if_true, if_false] at hX hY ⊢ <;> subst hX <;> subst hY <;> simp [Int.neg_mul, Int.mul_neg]
  obtain ⟨P, hP⟩ : ∃ P, X * Y = P := ⟨_, rfl⟩
  rw [hP] at q hXY e
  obtain ⟨hi, hhi⟩ : ∃ hi, P / 18446744073709551616 = hi := ⟨_, rfl⟩
  obtain ⟨lo, hlo⟩ : ∃ lo, P % 18446744073709551616 = lo := ⟨_, rfl⟩
  rw [hhi, hlo] at q
  clear hP
  unfold inR at ha hb
  by_cases h1 : a < 0
  · have wa : IntKind.wrap .u64 (-(IntKind.wrap .u64 a)) = X := by rw [wrap_u64', wrap_u64']; rw [if_pos h1] at hX; omega
    by_cases h2 : b < 0
    · have wb : IntKind.wrap .u64 (-(IntKind.wrap .u64 b)) = Y := by rw [wrap_u64', wrap_u64']; rw [if_pos h2] at hY; omega
      rw [← wa, ← wb] at q
      rw [if_pos (by simp [h1, h2])] at e
      rw [e]
      clear e wa wb hX hY
      by_cases hf : inR P
      · have hf1 := hf
        unfold inR at hf1
        obtain rfl : hi = 0 := by omega
        rw [show decide (inR P) = decide (lo < 9223372036854775808) by rw [decide_eq_true hf, decide_eq_true (show lo < 9223372036854775808 by omega)]]
        refine ⟨lo, ?_, fun _ => by omega⟩
        clear hf
        refine zzg (nt := 50) (rs := [.tmp 4, .tmp 5]) Tryd.func59 ?_; intro Q hQ hW
        repeat' (first
 | (with_reducible refine run_n ?_; with_reducible first | refine hK _ _ (by simp) ?_ | refine hK _ _ ?_; clear hK K)
 | (refine zzc ?_)
 | (with_reducible refine awp_regT (by kernel_rfl) ?_; intro K hK)
 | (with_reducible refine a_cond (ht := ?_) (hf := ?_) <;> intro hb <;> (try simp at hb) <;> (try contradiction) <;> (try subst hb) <;> (try omega))
 | (with_reducible first | refine a_move (hr:=?_) | refine a_assign (hr:=?_) | refine a_bin (hr:=?_) | refine a_extract (hr:=?_) | refine a_pick (hr:=?_) | refine a_un (hr:=?_) | refine a_eqB (hr:=?_) | refine a_neB (hr:=?_) | refine a_conv (hr:=?_) | refine a_bytesStr (hr:=?_) | refine a_strBytes (hr:=?_) | refine a_eqS (hr:=?_) | refine a_neS (hr:=?_) | refine a_call0 (hcall := q) (hr:=?_) | refine a_gT (hr:=?_) | refine a_gF (hr:=?_) | refine a_gU (hr:=?_))
 | (with_reducible refine a_gB (hT := ?_) (hF := ?_) <;> intro hb <;> (try simp at hb) <;> (try contradiction) <;> (try subst hb) <;> (try omega))
 | fail)
        all_goals first
          | (exfalso; omega)
          | ((refine zzr hQ ?_); exact zzd)
      · have hf1 := hf
        unfold inR at hf1
        refine ⟨IntKind.wrap .i64 lo, ?_, fun h => absurd h hf⟩
        by_cases h0 : hi = 0
        · subst h0
          rw [show decide (inR P) = decide (lo < 9223372036854775808) by rw [decide_eq_false hf, decide_eq_false (show ¬ lo < 9223372036854775808 by omega)]]
          clear hf
          refine zzg (nt := 50) (rs := [.tmp 4, .tmp 5]) Tryd.func59 ?_; intro Q hQ hW
          repeat' (first
 | (with_reducible refine run_n ?_; with_reducible first | refine hK _ _ (by simp) ?_ | refine hK _ _ ?_; clear hK K)
 | (refine zzc ?_)
 | (with_reducible refine awp_regT (by kernel_rfl) ?_; intro K hK)
 | (with_reducible refine a_cond (ht := ?_) (hf := ?_) <;> intro hb <;> (try simp at hb) <;> (try contradiction) <;> (try subst hb) <;> (try omega))
 | (with_reducible first | refine a_move (hr:=?_) | refine a_assign (hr:=?_) | refine a_bin (hr:=?_) | refine a_extract (hr:=?_) | refine a_pick (hr:=?_) | refine a_un (hr:=?_) | refine a_eqB (hr:=?_) | refine a_neB (hr:=?_) | refine a_conv (hr:=?_) | refine a_bytesStr (hr:=?_) | refine a_strBytes (hr:=?_) | refine a_eqS (hr:=?_) | refine a_neS (hr:=?_) | refine a_call0 (hcall := q) (hr:=?_) | refine a_gT (hr:=?_) | refine a_gF (hr:=?_) | refine a_gU (hr:=?_))
 | (with_reducible refine a_gB (hT := ?_) (hF := ?_) <;> intro hb <;> (try simp at hb) <;> (try contradiction) <;> (try subst hb) <;> (try omega))
 | fail)
          all_goals first
            | (exfalso; omega)
            | ((refine zzr hQ ?_); exact zzd)
        · rw [decide_eq_false hf]
          clear hf
          refine zzg (nt := 50) (rs := [.tmp 4, .tmp 5]) Tryd.func59 ?_; intro Q hQ hW
          repeat' (first
 | (with_reducible refine run_n ?_; with_reducible first | refine hK _ _ (by simp) ?_ | refine hK _ _ ?_; clear hK K)
 | (refine zzc ?_)
 | (with_reducible refine awp_regT (by kernel_rfl) ?_; intro K hK)
 | (with_reducible refine a_cond (ht := ?_) (hf := ?_) <;> intro hb <;> (try simp at hb) <;> (try contradiction) <;> (try subst hb) <;> (try omega))
 | (with_reducible first | refine a_move (hr:=?_) | refine a_assign (hr:=?_) | refine a_bin (hr:=?_) | refine a_extract (hr:=?_) | refine a_pick (hr:=?_) | refine a_un (hr:=?_) | refine a_eqB (hr:=?_) | refine a_neB (hr:=?_) | refine a_conv (hr:=?_) | refine a_bytesStr (hr:=?_) | refine a_strBytes (hr:=?_) | refine a_eqS (hr:=?_) | refine a_neS (hr:=?_) | refine a_call0 (hcall := q) (hr:=?_) | refine a_gT (hr:=?_) | refine a_gF (hr:=?_) | refine a_gU (hr:=?_))
 | (with_reducible refine a_gB (hT := ?_) (hF := ?_) <;> intro hb <;> (try simp at hb) <;> (try contradiction) <;> (try subst hb) <;> (try omega))
 | fail)
          all_goals first
            | (exfalso; omega)
            | ((refine zzr hQ ?_); exact zzd)
    · have wb : b = Y := by rw [if_neg h2] at hY; omega
      rw [← wa] at q
      subst wb
      rw [if_neg (by simp [h1, h2])] at e
      rw [e]
      clear e wa hX hY
      by_cases hf : inR (-P)
      · have hf1 := hf
        unfold inR at hf1
        obtain rfl : hi = 0 := by omega
        rw [show decide (inR (-P)) = decide (lo ≤ 9223372036854775808) by rw [decide_eq_true hf, decide_eq_true (show lo ≤ 9223372036854775808 by omega)]]
        clear hf
        refine ⟨IntKind.wrap .i64 (IntKind.wrap .u64 (-lo)), ?_, fun _ => by rw [wrap_i64', wrap_u64']; split <;> omega⟩
        refine zzg (nt := 50) (rs := [.tmp 4, .tmp 5]) Tryd.func59 ?_; intro Q hQ hW
        repeat' (first
 | (with_reducible refine run_n ?_; with_reducible first | refine hK _ _ (by simp) ?_ | refine hK _ _ ?_; clear hK K)
 | (refine zzc ?_)
 | (with_reducible refine awp_regT (by kernel_rfl) ?_; intro K hK)
 | (with_reducible refine a_cond (ht := ?_) (hf := ?_) <;> intro hb <;> (try simp at hb) <;> (try contradiction) <;> (try subst hb) <;> (try omega))
 | (with_reducible first | refine a_move (hr:=?_) | refine a_assign (hr:=?_) | refine a_bin (hr:=?_) | refine a_extract (hr:=?_) | refine a_pick (hr:=?_) | refine a_un (hr:=?_) | refine a_eqB (hr:=?_) | refine a_neB (hr:=?_) | refine a_conv (hr:=?_) | refine a_bytesStr (hr:=?_) | refine a_strBytes (hr:=?_) | refine a_eqS (hr:=?_) | refine a_neS (hr:=?_) | refine a_call0 (hcall := q) (hr:=?_) | refine a_gT (hr:=?_) | refine a_gF (hr:=?_) | refine a_gU (hr:=?_))
 | (with_reducible refine a_gB (hT := ?_) (hF := ?_) <;> intro hb <;> (try simp at hb) <;> (try contradiction) <;> (try subst hb) <;> (try omega))
 | fail)
        all_goals first
          | (exfalso; omega)
          | ((refine zzr hQ ?_); exact zzd)
      · have hf1 := hf
        unfold inR at hf1
        refine ⟨IntKind.wrap .i64 (IntKind.wrap .u64 (-lo)), ?_, fun h => absurd h hf⟩
        by_cases h0 : hi = 0
        · subst h0
          rw [show decide (inR (-P)) = decide (lo ≤ 9223372036854775808) by rw [decide_eq_false hf, decide_eq_false (show ¬ lo ≤ 9223372036854775808 by omega)]]
          clear hf
          refine zzg (nt := 50) (rs := [.tmp 4, .tmp 5]) Tryd.func59 ?_; intro Q hQ hW
          repeat' (first
 | (with_reducible refine run_n ?_; with_reducible first | refine hK _ _ (by simp) ?_ | refine hK _ _ ?_; clear hK K)
 | (refine zzc ?_)
 | (with_reducible refine awp_regT (by kernel_rfl) ?_; intro K hK)
 | (with_reducible refine a_cond (ht := ?_) (hf := ?_) <;> intro hb <;> (try simp at hb) <;> (try contradiction) <;> (try subst hb) <;> (try omega))
 | (with_reducible first | refine a_move (hr:=?_) | refine a_assign (hr:=?_) | refine a_bin (hr:=?_) | refine a_extract (hr:=?_) | refine a_pick (hr:=?_) | refine a_un (hr:=?_) | refine a_eqB (hr:=?_) | refine a_neB (hr:=?_) | refine a_conv (hr:=?_) | refine a_bytesStr (hr:=?_) | refine a_strBytes (hr:=?_) | refine a_eqS (hr:=?_) | refine a_neS (hr:=?_) | refine a_call0 (hcall := q) (hr:=?_) | refine a_gT (hr:=?_) | refine a_gF (hr:=?_) | refine a_gU (hr:=?_))
 | (with_reducible refine a_gB (hT := ?_) (hF := ?_) <;> intro hb <;> (try simp at hb) <;> (try contradiction) <;> (try subst hb) <;> (try omega))
 | fail)
          all_goals first
            | (exfalso; omega)
            | ((refine zzr hQ ?_); exact zzd)
        · rw [decide_eq_false hf]
          clear hf
          refine zzg (nt := 50) (rs := [.tmp 4, .tmp 5]) Tryd.func59 ?_; intro Q hQ hW
          repeat' (first
 | (with_reducible refine run_n ?_; with_reducible first | refine hK _ _ (by simp) ?_ | refine hK _ _ ?_; clear hK K)
 | (refine zzc ?_)
 | (with_reducible refine awp_regT (by kernel_rfl) ?_; intro K hK)
 | (with_reducible refine a_cond (ht := ?_) (hf := ?_) <;> intro hb <;> (try simp at hb) <;> (try contradiction) <;> (try subst hb) <;> (try omega))
 | (with_reducible first | refine a_move (hr:=?_) | refine a_assign (hr:=?_) | refine a_bin (hr:=?_) | refine a_extract (hr:=?_) | refine a_pick (hr:=?_) | refine a_un (hr:=?_) | refine a_eqB (hr:=?_) | refine a_neB (hr:=?_) | refine a_conv (hr:=?_) | refine a_bytesStr (hr:=?_) | refine a_strBytes (hr:=?_) | refine a_eqS (hr:=?_) | refine a_neS (hr:=?_) | refine a_call0 (hcall := q) (hr:=?_) | refine a_gT (hr:=?_) | refine a_gF (hr:=?_) | refine a_gU (hr:=?_))
 | (with_reducible refine a_gB (hT := ?_) (hF := ?_) <;> intro hb <;> (try simp at hb) <;> (try contradiction) <;> (try subst hb) <;> (try omega))
 | fail)
          all_goals first
            | (exfalso; omega)
            | ((refine zzr hQ ?_); exact zzd)
  · have wa : a = X := by rw [if_neg h1] at hX; omega
    by_cases h2 : b < 0
    · have wb : IntKind.wrap .u64 (-(IntKind.wrap .u64 b)) = Y := by rw [wrap_u64', wrap_u64']; rw [if_pos h2] at hY; omega
      rw [← wb] at q
      subst wa
      rw [if_neg (by simp [h1, h2])] at e
      rw [e]
      clear e wb hX hY
      by_cases hf : inR (-P)
      · have hf1 := hf
        unfold inR at hf1
        obtain rfl : hi = 0 := by omega
        rw [show decide (inR (-P)) = decide (lo ≤ 9223372036854775808) by rw [decide_eq_true hf, decide_eq_true (show lo ≤ 9223372036854775808 by omega)]]
        clear hf
        refine ⟨IntKind.wrap .i64 (IntKind.wrap .u64 (-lo)), ?_, fun _ => by rw [wrap_i64', wrap_u64']; split <;> omega⟩
        refine zzg (nt := 50) (rs := [.tmp 4, .tmp 5]) Tryd.func59 ?_; intro Q hQ hW
        repeat' (first
 | (with_reducible refine run_n ?_; with_reducible first | refine hK _ _ (by simp) ?_ | refine hK _ _ ?_; clear hK K)
 | (refine zzc ?_)
 | (with_reducible refine awp_regT (by kernel_rfl) ?_; intro K hK)
 | (with_reducible refine a_cond (ht := ?_) (hf := ?_) <;> intro hb <;> (try simp at hb) <;> (try contradiction) <;> (try subst hb) <;> (try omega))
 | (with_reducible first | refine a_move (hr:=?_) | refine a_assign (hr:=?_) | refine a_bin (hr:=?_) | refine a_extract (hr:=?_) | refine a_pick (hr:=?_) | refine a_un (hr:=?_) | refine a_eqB (hr:=?_) | refine a_neB (hr:=?_) | refine a_conv (hr:=?_) | refine a_bytesStr (hr:=?_) | refine a_strBytes (hr:=?_) | refine a_eqS (hr:=?_) | refine a_neS (hr:=?_) | refine a_call0 (hcall := q) (hr:=?_) | refine a_gT (hr:=?_) | refine a_gF (hr:=?_) | refine a_gU (hr:=?_))
 | (with_reducible refine a_gB (hT := ?_) (hF := ?_) <;> intro hb <;> (try simp at hb) <;> (try contradiction) <;> (try subst hb) <;> (try omega))
 | fail)
        all_goals first
          | (exfalso; omega)
          | ((refine zzr hQ ?_); exact zzd)
      · have hf1 := hf
        unfold inR at hf1
        refine ⟨IntKind.wrap .i64 (IntKind.wrap .u64 (-lo)), ?_, fun h => absurd h hf⟩
        by_cases h0 : hi = 0
        · subst h0
          rw [show decide (inR (-P)) = decide (lo ≤ 9223372036854775808) by rw [decide_eq_false hf, decide_eq_false (show ¬ lo ≤ 9223372036854775808 by omega)]]
          clear hf
          refine zzg (nt := 50) (rs := [.tmp 4, .tmp 5]) Tryd.func59 ?_; intro Q hQ hW
          repeat' (first
 | (with_reducible refine run_n ?_; with_reducible first | refine hK _ _ (by simp) ?_ | refine hK _ _ ?_; clear hK K)
 | (refine zzc ?_)
 | (with_reducible refine awp_regT (by kernel_rfl) ?_; intro K hK)
 | (with_reducible refine a_cond (ht := ?_) (hf := ?_) <;> intro hb <;> (try simp at hb) <;> (try contradiction) <;> (try subst hb) <;> (try omega))
 | (with_reducible first | refine a_move (hr:=?_) | refine a_assign (hr:=?_) | refine a_bin (hr:=?_) | refine a_extract (hr:=?_) | refine a_pick (hr:=?_) | refine a_un (hr:=?_) | refine a_eqB (hr:=?_) | refine a_neB (hr:=?_) | refine a_conv (hr:=?_) | refine a_bytesStr (hr:=?_) | refine a_strBytes (hr:=?_) | refine a_eqS (hr:=?_) | refine a_neS (hr:=?_) | refine a_call0 (hcall := q) (hr:=?_) | refine a_gT (hr:=?_) | refine a_gF (hr:=?_) | refine a_gU (hr:=?_))
 | (with_reducible refine a_gB (hT := ?_) (hF := ?_) <;> intro hb <;> (try simp at hb) <;> (try contradiction) <;> (try subst hb) <;> (try omega))
 | fail)
          all_goals first
            | (exfalso; omega)
            | ((refine zzr hQ ?_); exact zzd)
        · rw [decide_eq_false hf]
          clear hf
          refine zzg (nt := 50) (rs := [.tmp 4, .tmp 5]) Tryd.func59 ?_; intro Q hQ hW
          repeat' (first
 | (with_reducible refine run_n ?_; with_reducible first | refine hK _ _ (by simp) ?_ | refine hK _ _ ?_; clear hK K)
 | (refine zzc ?_)
 | (with_reducible refine awp_regT (by kernel_rfl) ?_; intro K hK)
 | (with_reducible refine a_cond (ht := ?_) (hf := ?_) <;> intro hb <;> (try simp at hb) <;> (try contradiction) <;> (try subst hb) <;> (try omega))
 | (with_reducible first | refine a_move (hr:=?_) | refine a_assign (hr:=?_) | refine a_bin (hr:=?_) | refine a_extract (hr:=?_) | refine a_pick (hr:=?_) | refine a_un (hr:=?_) | refine a_eqB (hr:=?_) | refine a_neB (hr:=?_) | refine a_conv (hr:=?_) | refine a_bytesStr (hr:=?_) | refine a_strBytes (hr:=?_) | refine a_eqS (hr:=?_) | refine a_neS (hr:=?_) | refine a_call0 (hcall := q) (hr:=?_) | refine a_gT (hr:=?_) | refine a_gF (hr:=?_) | refine a_gU (hr:=?_))
 | (with_reducible refine a_gB (hT := ?_) (hF := ?_) <;> intro hb <;> (try simp at hb) <;> (try contradiction) <;> (try subst hb) <;> (try omega))
 | fail)
          all_goals first
            | (exfalso; omega)
            | ((refine zzr hQ ?_); exact zzd)
    · have wb : b = Y := by rw [if_neg h2] at hY; omega
      subst wa
      subst wb
      rw [if_pos (by simp [h1, h2])] at e
      rw [e]
      clear e hX hY
      by_cases hf : inR P
      · have hf1 := hf
        unfold inR at hf1
        obtain rfl : hi = 0 := by omega
        rw [show decide (inR P) = decide (lo < 9223372036854775808) by rw [decide_eq_true hf, decide_eq_true (show lo < 9223372036854775808 by omega)]]
        refine ⟨lo, ?_, fun _ => by omega⟩
        clear hf
        refine zzg (nt := 50) (rs := [.tmp 4, .tmp 5]) Tryd.func59 ?_; intro Q hQ hW
        repeat' (first
 | (with_reducible refine run_n ?_; with_reducible first | refine hK _ _ (by simp) ?_ | refine hK _ _ ?_; clear hK K)
 | (refine zzc ?_)
 | (with_reducible refine awp_regT (by kernel_rfl) ?_; intro K hK)
 | (with_reducible refine a_cond (ht := ?_) (hf := ?_) <;> intro hb <;> (try simp at hb) <;> (try contradiction) <;> (try subst hb) <;> (try omega))
 | (with_reducible first | refine a_move (hr:=?_) | refine a_assign (hr:=?_) | refine a_bin (hr:=?_) | refine a_extract (hr:=?_) | refine a_pick (hr:=?_) | refine a_un (hr:=?_) | refine a_eqB (hr:=?_) | refine a_neB (hr:=?_) | refine a_conv (hr:=?_) | refine a_bytesStr (hr:=?_) | refine a_strBytes (hr:=?_) | refine a_eqS (hr:=?_) | refine a_neS (hr:=?_) | refine a_call0 (hcall := q) (hr:=?_) | refine a_gT (hr:=?_) | refine a_gF (hr:=?_) | refine a_gU (hr:=?_))
 | (with_reducible refine a_gB (hT := ?_) (hF := ?_) <;> intro hb <;> (try simp at hb) <;> (try contradiction) <;> (try subst hb) <;> (try omega))
 | fail)
        all_goals first
          | (exfalso; omega)
          | ((refine zzr hQ ?_); exact zzd)
      · have hf1 := hf
        unfold inR at hf1
        refine ⟨IntKind.wrap .i64 lo, ?_, fun h => absurd h hf⟩
        by_cases h0 : hi = 0
        · subst h0
          rw [show decide (inR P) = decide (lo < 9223372036854775808) by rw [decide_eq_false hf, decide_eq_false (show ¬ lo < 9223372036854775808 by omega)]]
          clear hf
          refine zzg (nt := 50) (rs := [.tmp 4, .tmp 5]) Tryd.func59 ?_; intro Q hQ hW
          repeat' (first
 | (with_reducible refine run_n ?_; with_reducible first | refine hK _ _ (by simp) ?_ | refine hK _ _ ?_; clear hK K)
 | (refine zzc ?_)
 | (with_reducible refine awp_regT (by kernel_rfl) ?_; intro K hK)
 | (with_reducible refine a_cond (ht := ?_) (hf := ?_) <;> intro hb <;> (try simp at hb) <;> (try contradiction) <;> (try subst hb) <;> (try omega))
 | (with_reducible first | refine a_move (hr:=?_) | refine a_assign (hr:=?_) | refine a_bin (hr:=?_) | refine a_extract (hr:=?_) | refine a_pick (hr:=?_) | refine a_un (hr:=?_) | refine a_eqB (hr:=?_) | refine a_neB (hr:=?_) | refine a_conv (hr:=?_) | refine a_bytesStr (hr:=?_) | refine a_strBytes (hr:=?_) | refine a_eqS (hr:=?_) | refine a_neS (hr:=?_) | refine a_call0 (hcall := q) (hr:=?_) | refine a_gT (hr:=?_) | refine a_gF (hr:=?_) | refine a_gU (hr:=?_))
 | (with_reducible refine a_gB (hT := ?_) (hF := ?_) <;> intro hb <;> (try simp at hb) <;> (try contradiction) <;> (try subst hb) <;> (try omega))
 | fail)
          all_goals first
            | (exfalso; omega)
            | ((refine zzr hQ ?_); exact zzd)
        · rw [decide_eq_false hf]
          clear hf
          refine zzg (nt := 50) (rs := [.tmp 4, .tmp 5]) Tryd.func59 ?_; intro Q hQ hW
          repeat' (first
 | (with_reducible refine run_n ?_; with_reducible first | refine hK _ _ (by simp) ?_ | refine hK _ _ ?_; clear hK K)
 | (refine zzc ?_)
 | (with_reducible refine awp_regT (by kernel_rfl) ?_; intro K hK)
 | (with_reducible refine a_cond (ht := ?_) (hf := ?_) <;> intro hb <;> (try simp at hb) <;> (try contradiction) <;> (try subst hb) <;> (try omega))
 | (with_reducible first | refine a_move (hr:=?_) | refine a_assign (hr:=?_) | refine a_bin (hr:=?_) | refine a_extract (hr:=?_) | refine a_pick (hr:=?_) | refine a_un (hr:=?_) | refine a_eqB (hr:=?_) | refine a_neB (hr:=?_) | refine a_conv (hr:=?_) | refine a_bytesStr (hr:=?_) | refine a_strBytes (hr:=?_) | refine a_eqS (hr:=?_) | refine a_neS (hr:=?_) | refine a_call0 (hcall := q) (hr:=?_) | refine a_gT (hr:=?_) | refine a_gF (hr:=?_) | refine a_gU (hr:=?_))
 | (with_reducible refine a_gB (hT := ?_) (hF := ?_) <;> intro hb <;> (try simp at hb) <;> (try contradiction) <;> (try subst hb) <;> (try omega))
 | fail)
          all_goals first
            | (exfalso; omega)
            | ((refine zzr hQ ?_); exact zzd)
end Go.Proofs.YtjbbnollidcagaaDoor.Asl

