/- Part 22 of what the row leans on: abstract values and states, their rules, and the contracts of the functions. -/
import Derived.Test.YtjbbnollidcagaaGreatDoorZgz21
namespace Go.Proofs.YtjbbnollidcagaaGreatDoor.Asl
open Go Go.RowKit
set_option linter.unusedVariables false
set_option linter.unusedSimpArgs false
set_option maxRecDepth 100000
set_option maxHeartbeats 4000000
theorem c_numbers (op m n : Int) (hop : 6 ≤ op ∧ op ≤ 10) (hm : inR m) (hn : inR n) : CallD Tryz.prog 50 [.raw (.int .i64 op), .raw (.int .i64 m), .raw (.int .i64 n)] noHeap (.tup [Val.av (numE op m n).1, .raw (.int .i64 (numE op m n).2)]) noHeap := by
  unfold numE
  have hm' := hm
  have hn' := hn
  unfold inR at hm' hn'
  rcases (show op = 6 ∨ op = 9 ∨ op = 10 ∨ op = 7 ∨ op = 8 by omega) with rfl | rfl | rfl | rfl | rfl
  · rw [if_pos rfl]
    obtain ⟨r, q, hr⟩ := c_product m n hm hn
    unfold outI
    by_cases hf : inR (m * n)
    · rw [if_pos hf]
      rw [decide_eq_true hf, hr hf] at q
      have q2 := c_rnumber6 (m * n)
      generalize m * n = p at q q2 ⊢
      refine zzg (nt := 83) (rs := [.cell 6 31, .tmp 7]) Tryz.func50 ?_; intro Q hQ hW
      repeat' (first
 | (with_reducible refine run_n ?_; with_reducible first | refine hK _ _ (by simp) ?_ | refine hK _ _ ?_; clear hK K)
 | (refine zzc ?_)
 | (with_reducible refine awp_regT (by kernel_rfl) ?_; intro K hK)
 | (with_reducible refine a_cond (ht := ?_) (hf := ?_) <;> intro hb <;> (try simp at hb) <;> (try contradiction) <;> (try subst hb) <;> (try omega))
 | (with_reducible first | refine a_move (hr:=?_) | refine a_assign (hr:=?_) | refine a_remU (hr:=?_) | refine a_quoU (hr:=?_) | refine a_bin (hr:=?_) | refine a_extract (hr:=?_) | refine a_un (hr:=?_) | refine a_store (hr:=?_) | refine a_alloc (hr:=?_) | refine a_eqB (hr:=?_) | refine a_neB (hr:=?_) | refine a_eqS (hr:=?_) | refine a_neS (hr:=?_) | refine a_build (hr:=?_) | refine a_call0 (hcall := q) (hr:=?_) | refine a_call0 (hcall := q2) (hr:=?_))
 | fail)
      all_goals first
        | (exfalso; omega)
        | ((refine zzr hQ ?_); exact zzd)
    · rw [if_neg hf]
      rw [decide_eq_false hf] at q
      unfold zV
      refine zzg (nt := 83) (rs := [.cell 6 31, .tmp 7]) Tryz.func50 ?_; intro Q hQ hW
      repeat' (first
 | (with_reducible refine run_n ?_; with_reducible first | refine hK _ _ (by simp) ?_ | refine hK _ _ ?_; clear hK K)
 | (refine zzc ?_)
 | (with_reducible refine awp_regT (by kernel_rfl) ?_; intro K hK)
 | (with_reducible refine a_cond (ht := ?_) (hf := ?_) <;> intro hb <;> (try simp at hb) <;> (try contradiction) <;> (try subst hb) <;> (try omega))
 | (with_reducible first | refine a_move (hr:=?_) | refine a_assign (hr:=?_) | refine a_remU (hr:=?_) | refine a_quoU (hr:=?_) | refine a_bin (hr:=?_) | refine a_extract (hr:=?_) | refine a_un (hr:=?_) | refine a_store (hr:=?_) | refine a_alloc (hr:=?_) | refine a_eqB (hr:=?_) | refine a_neB (hr:=?_) | refine a_eqS (hr:=?_) | refine a_neS (hr:=?_) | refine a_build (hr:=?_) | refine a_call0 (hcall := q) (hr:=?_))
 | fail)
      all_goals first
        | (exfalso; omega)
        | ((refine zzr hQ ?_); exact zzd)
  · rw [if_neg (by decide), if_pos rfl]
    obtain ⟨r, q, hr⟩ := c_sum m n hm hn
    unfold outI
    by_cases hf : inR (m + n)
    · rw [if_pos hf]
      rw [decide_eq_true hf, hr hf] at q
      have q2 := c_rnumber6 (m + n)
      generalize m + n = p at q q2 ⊢
      refine zzg (nt := 83) (rs := [.cell 6 31, .tmp 7]) Tryz.func50 ?_; intro Q hQ hW
      repeat' (first
 | (with_reducible refine run_n ?_; with_reducible first | refine hK _ _ (by simp) ?_ | refine hK _ _ ?_; clear hK K)
 | (refine zzc ?_)
 | (with_reducible refine awp_regT (by kernel_rfl) ?_; intro K hK)
 | (with_reducible refine a_cond (ht := ?_) (hf := ?_) <;> intro hb <;> (try simp at hb) <;> (try contradiction) <;> (try subst hb) <;> (try omega))
 | (with_reducible first | refine a_move (hr:=?_) | refine a_assign (hr:=?_) | refine a_remU (hr:=?_) | refine a_quoU (hr:=?_) | refine a_bin (hr:=?_) | refine a_extract (hr:=?_) | refine a_un (hr:=?_) | refine a_store (hr:=?_) | refine a_alloc (hr:=?_) | refine a_eqB (hr:=?_) | refine a_neB (hr:=?_) | refine a_eqS (hr:=?_) | refine a_neS (hr:=?_) | refine a_build (hr:=?_) | refine a_call0 (hcall := q) (hr:=?_) | refine a_call0 (hcall := q2) (hr:=?_))
 | fail)
      all_goals first
        | (exfalso; omega)
        | ((refine zzr hQ ?_); exact zzd)
    · rw [if_neg hf]
      rw [decide_eq_false hf] at q
      unfold zV
      refine zzg (nt := 83) (rs := [.cell 6 31, .tmp 7]) Tryz.func50 ?_; intro Q hQ hW
      repeat' (first
 | (with_reducible refine run_n ?_; with_reducible first | refine hK _ _ (by simp) ?_ | refine hK _ _ ?_; clear hK K)
 | (refine zzc ?_)
 | (with_reducible refine awp_regT (by kernel_rfl) ?_; intro K hK)
 | (with_reducible refine a_cond (ht := ?_) (hf := ?_) <;> intro hb <;> (try simp at hb) <;> (try contradiction) <;> (try subst hb) <;> (try omega))
 | (with_reducible first | refine a_move (hr:=?_) | refine a_assign (hr:=?_) | refine a_remU (hr:=?_) | refine a_quoU (hr:=?_) | refine a_bin (hr:=?_) | refine a_extract (hr:=?_) | refine a_un (hr:=?_) | refine a_store (hr:=?_) | refine a_alloc (hr:=?_) | refine a_eqB (hr:=?_) | refine a_neB (hr:=?_) | refine a_eqS (hr:=?_) | refine a_neS (hr:=?_) | refine a_build (hr:=?_) | refine a_call0 (hcall := q) (hr:=?_))
 | fail)
      all_goals first
        | (exfalso; omega)
        | ((refine zzr hQ ?_); exact zzd)
  · rw [if_neg (by decide), if_neg (by decide), if_pos rfl]
    unfold outI
    by_cases hx : n = -9223372036854775808
    · subst hx
      by_cases hf : m < 0
      · rw [if_pos (by unfold inR; omega)]
        have q2 := c_rnumber6 (m + 9223372036854775808)
        rw [show m - -9223372036854775808 = m + 9223372036854775808 by omega]
        refine zzg (nt := 83) (rs := [.cell 6 31, .tmp 7]) Tryz.func50 ?_; intro Q hQ hW
        repeat' (first
 | (with_reducible refine run_n ?_; with_reducible first | refine hK _ _ (by simp) ?_ | refine hK _ _ ?_; clear hK K)
 | (refine zzc ?_)
 | (with_reducible refine awp_regT (by kernel_rfl) ?_; intro K hK)
 | (with_reducible refine a_cond (ht := ?_) (hf := ?_) <;> intro hb <;> (try simp at hb) <;> (try contradiction) <;> (try subst hb) <;> (try omega))
 | (with_reducible first | refine a_move (hr:=?_) | refine a_assign (hr:=?_) | refine a_remU (hr:=?_) | refine a_quoU (hr:=?_) | refine a_bin (hr:=?_) | refine a_extract (hr:=?_) | refine a_un (hr:=?_) | refine a_store (hr:=?_) | refine a_alloc (hr:=?_) | refine a_eqB (hr:=?_) | refine a_neB (hr:=?_) | refine a_eqS (hr:=?_) | refine a_neS (hr:=?_) | refine a_build (hr:=?_) | refine a_call0 (hcall := q2) (hr:=?_))
 | fail)
        all_goals first
          | (exfalso; omega)
          | ((refine zzr hQ ?_); exact zzd)
      · rw [if_neg (by unfold inR; omega)]
        unfold zV
        refine zzg (nt := 83) (rs := [.cell 6 31, .tmp 7]) Tryz.func50 ?_; intro Q hQ hW
        repeat' (first
 | (with_reducible refine run_n ?_; with_reducible first | refine hK _ _ (by simp) ?_ | refine hK _ _ ?_; clear hK K)
 | (refine zzc ?_)
 | (with_reducible refine awp_regT (by kernel_rfl) ?_; intro K hK)
 | (with_reducible refine a_cond (ht := ?_) (hf := ?_) <;> intro hb <;> (try simp at hb) <;> (try contradiction) <;> (try subst hb) <;> (try omega))
 | (with_reducible first | refine a_move (hr:=?_) | refine a_assign (hr:=?_) | refine a_remU (hr:=?_) | refine a_quoU (hr:=?_) | refine a_bin (hr:=?_) | refine a_extract (hr:=?_) | refine a_un (hr:=?_) | refine a_store (hr:=?_) | refine a_alloc (hr:=?_) | refine a_eqB (hr:=?_) | refine a_neB (hr:=?_) | refine a_eqS (hr:=?_) | refine a_neS (hr:=?_) | refine a_build (hr:=?_))
 | fail)
        all_goals first
          | (exfalso; omega)
          | ((refine zzr hQ ?_); exact zzd)
    · obtain ⟨r, q, hr⟩ := c_sum m (-n) hm (by unfold inR; omega)
      rw [Int.sub_eq_add_neg]
      by_cases hf : inR (m + -n)
      · rw [if_pos hf]
        rw [decide_eq_true hf, hr hf] at q
        have q2 := c_rnumber6 (m + -n)
        generalize m + -n = p at q q2 ⊢
        refine zzg (nt := 83) (rs := [.cell 6 31, .tmp 7]) Tryz.func50 ?_; intro Q hQ hW
        repeat' (first
 | (with_reducible refine run_n ?_; with_reducible first | refine hK _ _ (by simp) ?_ | refine hK _ _ ?_; clear hK K)
 | (refine zzc ?_)
 | (with_reducible refine awp_regT (by kernel_rfl) ?_; intro K hK)
 | (with_reducible refine a_cond (ht := ?_) (hf := ?_) <;> intro hb <;> (try simp at hb) <;> (try contradiction) <;> (try subst hb) <;> (try omega))
 | (with_reducible first | refine a_move (hr:=?_) | refine a_assign (hr:=?_) | refine a_remU (hr:=?_) | refine a_quoU (hr:=?_) | refine a_bin (hr:=?_) | refine a_extract (hr:=?_) | refine a_un (hr:=?_) | refine a_store (hr:=?_) | refine a_alloc (hr:=?_) | refine a_eqB (hr:=?_) | refine a_neB (hr:=?_) | refine a_eqS (hr:=?_) | refine a_neS (hr:=?_) | refine a_build (hr:=?_) | refine a_call0 (hcall := q) (hr:=?_) | refine a_call0 (hcall := q2) (hr:=?_))
 | fail)
        all_goals first
          | (exfalso; omega)
          | ((refine zzr hQ ?_); exact zzd)
      · rw [if_neg hf]
        rw [decide_eq_false hf] at q
        unfold zV
        refine zzg (nt := 83) (rs := [.cell 6 31, .tmp 7]) Tryz.func50 ?_; intro Q hQ hW
        repeat' (first
 | (with_reducible refine run_n ?_; with_reducible first | refine hK _ _ (by simp) ?_ | refine hK _ _ ?_; clear hK K)
 | (refine zzc ?_)
 | (with_reducible refine awp_regT (by kernel_rfl) ?_; intro K hK)
 | (with_reducible refine a_cond (ht := ?_) (hf := ?_) <;> intro hb <;> (try simp at hb) <;> (try contradiction) <;> (try subst hb) <;> (try omega))
 | (with_reducible first | refine a_move (hr:=?_) | refine a_assign (hr:=?_) | refine a_remU (hr:=?_) | refine a_quoU (hr:=?_) | refine a_bin (hr:=?_) | refine a_extract (hr:=?_) | refine a_un (hr:=?_) | refine a_store (hr:=?_) | refine a_alloc (hr:=?_) | refine a_eqB (hr:=?_) | refine a_neB (hr:=?_) | refine a_eqS (hr:=?_) | refine a_neS (hr:=?_) | refine a_build (hr:=?_) | refine a_call0 (hcall := q) (hr:=?_))
 | fail)
        all_goals first
          | (exfalso; omega)
          | ((refine zzr hQ ?_); exact zzd)
  · rw [if_neg (by decide), if_neg (by decide), if_neg (by decide)]
    by_cases hn0 : n = 0
    · subst hn0
      rw [if_pos rfl]
      unfold zV
      refine zzg (nt := 83) (rs := [.cell 6 31, .tmp 7]) Tryz.func50 ?_; intro Q hQ hW
      repeat' (first
 | (with_reducible refine run_n ?_; with_reducible first | refine hK _ _ (by simp) ?_ | refine hK _ _ ?_; clear hK K)
 | (refine zzc ?_)
 | (with_reducible refine awp_regT (by kernel_rfl) ?_; intro K hK)
 | (with_reducible refine a_cond (ht := ?_) (hf := ?_) <;> intro hb <;> (try simp at hb) <;> (try contradiction) <;> (try subst hb) <;> (try omega))
 | (with_reducible first | refine a_move (hr:=?_) | refine a_assign (hr:=?_) | refine a_remU (hr:=?_) | refine a_quoU (hr:=?_) | refine a_bin (hr:=?_) | refine a_extract (hr:=?_) | refine a_un (hr:=?_) | refine a_store (hr:=?_) | refine a_alloc (hr:=?_) | refine a_eqB (hr:=?_) | refine a_neB (hr:=?_) | refine a_eqS (hr:=?_) | refine a_neS (hr:=?_) | refine a_build (hr:=?_))
 | fail)
      all_goals first
        | (exfalso; omega)
        | ((refine zzr hQ ?_); exact zzd)
    rw [if_neg hn0, if_neg (by decide), tdiv_sg]
    have q1 := c_half m hm
    have q2 := c_half n hn
    have bx := absV_b hm
    have bY := absV_b hn
    have hY0 : 0 < absV n := by unfold absV; split <;> omega
    have e1 : (if m < 0 then -m else m) = absV m := rfl
    have e2 : (if n < 0 then -n else n) = absV n := rfl
    rw [e1] at q1
    rw [e2] at q2
    generalize absV m = x at q1 bx ⊢
    generalize absV n = y at q2 bY hY0 ⊢
    have d1 : 0 ≤ x / y := Int.ediv_nonneg bx.1 bY.1
    have d2 : x / y ≤ x := Int.ediv_le_self _ bx.1
    clear e1 e2
    obtain ⟨r, q, hr⟩ := signed_at (decide (m < 0) != decide (n < 0)) (x / y) (by omega)
    unfold outI
    by_cases hf : inR (sgV (decide (m < 0) != decide (n < 0)) (x / y))
    · rw [if_pos hf]
      rw [decide_eq_true hf, hr hf] at q
      have q3 := c_rnumber6 (sgV (decide (m < 0) != decide (n < 0)) (x / y))
      clear hr
      generalize sgV (decide (m < 0) != decide (n < 0)) (x / y) = p at q q3 hf ⊢
      rw [show (decide (m < 0) != decide (n < 0)) = !(decide (m < 0) == decide (n < 0)) from rfl] at q
      refine zzg (nt := 83) (rs := [.cell 6 31, .tmp 7]) Tryz.func50 ?_; intro Q hQ hW
      repeat' (first
 | (with_reducible refine run_n ?_; with_reducible first | refine hK _ _ (by simp) ?_ | refine hK _ _ ?_; clear hK K)
 | (refine zzc ?_)
 | (with_reducible refine awp_regT (by kernel_rfl) ?_; intro K hK)
 | (with_reducible refine a_cond (ht := ?_) (hf := ?_) <;> intro hb <;> (try simp at hb) <;> (try contradiction) <;> (try subst hb) <;> (try omega))
 | (with_reducible first | refine a_move (hr:=?_) | refine a_assign (hr:=?_) | refine a_remU (hr:=?_) | refine a_quoU (hr:=?_) | refine a_bin (hr:=?_) | refine a_extract (hr:=?_) | refine a_un (hr:=?_) | refine a_store (hr:=?_) | refine a_alloc (hr:=?_) | refine a_eqB (hr:=?_) | refine a_neB (hr:=?_) | refine a_eqS (hr:=?_) | refine a_neS (hr:=?_) | refine a_build (hr:=?_) | refine a_call0 (hcall := q1) (hr:=?_) | refine a_call0 (hcall := q2) (hr:=?_) | refine a_call0 (hcall := q) (hr:=?_) | refine a_call0 (hcall := q3) (hr:=?_))
 | fail)
      all_goals first
        | (exfalso; omega)
        | ((refine zzr hQ ?_); exact zzd)
    · rw [if_neg hf]
      rw [decide_eq_false hf] at q
      clear hr hf
      rw [show (decide (m < 0) != decide (n < 0)) = !(decide (m < 0) == decide (n < 0)) from rfl] at q
      unfold zV
      refine zzg (nt := 83) (rs := [.cell 6 31, .tmp 7]) Tryz.func50 ?_; intro Q hQ hW
      repeat' (first
 | (with_reducible refine run_n ?_; with_reducible first | refine hK _ _ (by simp) ?_ | refine hK _ _ ?_; clear hK K)
 | (refine zzc ?_)
 | (with_reducible refine awp_regT (by kernel_rfl) ?_; intro K hK)
 | (with_reducible refine a_cond (ht := ?_) (hf := ?_) <;> intro hb <;> (try simp at hb) <;> (try contradiction) <;> (try subst hb) <;> (try omega))
 | (with_reducible first | refine a_move (hr:=?_) | refine a_assign (hr:=?_) | refine a_remU (hr:=?_) | refine a_quoU (hr:=?_) | refine a_bin (hr:=?_) | refine a_extract (hr:=?_) | refine a_un (hr:=?_) | refine a_store (hr:=?_) | refine a_alloc (hr:=?_) | refine a_eqB (hr:=?_) | refine a_neB (hr:=?_) | refine a_eqS (hr:=?_) | refine a_neS (hr:=?_) | refine a_build (hr:=?_) | refine a_call0 (hcall := q1) (hr:=?_) | refine a_call0 (hcall := q2) (hr:=?_) | refine a_call0 (hcall := q) (hr:=?_))
 | fail)
      all_goals first
        | (exfalso; omega)
        | ((refine zzr hQ ?_); exact zzd)
  · rw [if_neg (by decide), if_neg (by decide), if_neg (by decide)]
    by_cases hn0 : n = 0
    · subst hn0
      rw [if_pos rfl]
      unfold zV
      refine zzg (nt := 83) (rs := [.cell 6 31, .tmp 7]) Tryz.func50 ?_; intro Q hQ hW
      repeat' (first
 | (with_reducible refine run_n ?_; with_reducible first | refine hK _ _ (by simp) ?_ | refine hK _ _ ?_; clear hK K)
 | (refine zzc ?_)
 | (with_reducible refine awp_regT (by kernel_rfl) ?_; intro K hK)
 | (with_reducible refine a_cond (ht := ?_) (hf := ?_) <;> intro hb <;> (try simp at hb) <;> (try contradiction) <;> (try subst hb) <;> (try omega))
 | (with_reducible first | refine a_move (hr:=?_) | refine a_assign (hr:=?_) | refine a_remU (hr:=?_) | refine a_quoU (hr:=?_) | refine a_bin (hr:=?_) | refine a_extract (hr:=?_) | refine a_un (hr:=?_) | refine a_store (hr:=?_) | refine a_alloc (hr:=?_) | refine a_eqB (hr:=?_) | refine a_neB (hr:=?_) | refine a_eqS (hr:=?_) | refine a_neS (hr:=?_) | refine a_build (hr:=?_))
 | fail)
      all_goals first
        | (exfalso; omega)
        | ((refine zzr hQ ?_); exact zzd)
    rw [if_neg hn0, if_pos rfl, tmod_sg]
    have q1 := c_half m hm
    have q2 := c_half n hn
    have bx := absV_b hm
    have bY := absV_b hn
    have hY0 : 0 < absV n := by unfold absV; split <;> omega
    have e1 : (if m < 0 then -m else m) = absV m := rfl
    have e2 : (if n < 0 then -n else n) = absV n := rfl
    rw [e1] at q1
    rw [e2] at q2
    generalize absV m = x at q1 bx ⊢
    generalize absV n = y at q2 bY hY0 ⊢
    have d1 : 0 ≤ x % y := Int.emod_nonneg _ (by omega)
    have d2 : x % y < y := Int.emod_lt_of_pos _ hY0
    clear e1 e2
    obtain ⟨r, q, hr⟩ := signed_at (decide (m < 0)) (x % y) (by omega)
    have hf : inR (sgV (decide (m < 0)) (x % y)) := by unfold inR sgV; split <;> omega
    rw [decide_eq_true hf, hr hf] at q
    have q3 := c_rnumber6 (sgV (decide (m < 0)) (x % y))
    clear hr
    generalize sgV (decide (m < 0)) (x % y) = p at q q3 hf ⊢
    refine zzg (nt := 83) (rs := [.cell 6 31, .tmp 7]) Tryz.func50 ?_; intro Q hQ hW
    repeat' (first
 | (with_reducible refine run_n ?_; with_reducible first | refine hK _ _ (by simp) ?_ | refine hK _ _ ?_; clear hK K)
 | (refine zzc ?_)
 | (with_reducible refine awp_regT (by kernel_rfl) ?_; intro K hK)
 | (with_reducible refine a_cond (ht := ?_) (hf := ?_) <;> intro hb <;> (try simp at hb) <;> (try contradiction) <;> (try subst hb) <;> (try omega))
 | (with_reducible first | refine a_move (hr:=?_) | refine a_assign (hr:=?_) | refine a_remU (hr:=?_) | refine a_quoU (hr:=?_) | refine a_bin (hr:=?_) | refine a_extract (hr:=?_) | refine a_un (hr:=?_) | refine a_store (hr:=?_) | refine a_alloc (hr:=?_) | refine a_eqB (hr:=?_) | refine a_neB (hr:=?_) | refine a_eqS (hr:=?_) | refine a_neS (hr:=?_) | refine a_build (hr:=?_) | refine a_call0 (hcall := q1) (hr:=?_) | refine a_call0 (hcall := q2) (hr:=?_) | refine a_call0 (hcall := q) (hr:=?_) | refine a_call0 (hcall := q3) (hr:=?_))
 | fail)
    all_goals first
      | (exfalso; omega)
      | ((refine zzr hQ ?_); exact zzd)
theorem c_kind (a b : Val) : CallD Tryz.prog 48 [a.av, b.av] noHeap (.raw (.int .i64 (if a.1 = b.1 then a.1 else 0))) noHeap := by
  obtain ⟨k, n, s⟩ := a
  obtain ⟨k2, n2, s2⟩ := b
  simp only
  by_cases h : k = k2
  · subst h
    rw [if_pos rfl]
    refine zzg (nt := 12) (rs := [.tmp 4]) Tryz.func48 ?_; intro Q hQ hW
    repeat' (first
 | (with_reducible refine run_n ?_; with_reducible first | refine hK _ _ (by simp) ?_ | refine hK _ _ ?_; clear hK K)
 | (refine zzc ?_)
 | (with_reducible refine awp_regT (by kernel_rfl) ?_; intro K hK)
 | (with_reducible refine a_cond (ht := ?_) (hf := ?_) <;> intro hb <;> (try simp at hb) <;> (try contradiction) <;> (try subst hb) <;> (try omega))
 | (with_reducible first | refine a_assign (hr:=?_) | refine a_load (hr:=?_) | refine a_fieldAddr (hr:=?_) | refine a_bin (hr:=?_) | refine a_box (hr:=?_) | refine a_neB (hr:=?_) | refine a_neS (hr:=?_))
 | fail)
    all_goals first
      | (exfalso; omega)
      | ((refine zzr hQ ?_); exact zzd)
  · rw [if_neg h]
    refine zzg (nt := 12) (rs := [.tmp 4]) Tryz.func48 ?_; intro Q hQ hW
    repeat' (first
 | (with_reducible refine run_n ?_; with_reducible first | refine hK _ _ (by simp) ?_ | refine hK _ _ ?_; clear hK K)
 | (refine zzc ?_)
 | (with_reducible refine awp_regT (by kernel_rfl) ?_; intro K hK)
 | (with_reducible refine a_cond (ht := ?_) (hf := ?_) <;> intro hb <;> (try simp at hb) <;> (try contradiction) <;> (try subst hb) <;> (try omega))
 | (with_reducible first | refine a_assign (hr:=?_) | refine a_load (hr:=?_) | refine a_fieldAddr (hr:=?_) | refine a_bin (hr:=?_) | refine a_box (hr:=?_) | refine a_neB (hr:=?_) | refine a_neS (hr:=?_))
 | fail)
    all_goals first
      | (exfalso; omega)
      | ((refine zzr hQ ?_); exact zzd)
theorem c_stands (op : Int) (a b : Val) (hop : 11 ≤ op ∧ op ≤ 14) (hk : a.1 = 1 ∨ a.1 = 3) : CallD Tryz.prog 49 [.raw (.int .i64 op), a.av, b.av] noHeap (.raw (.bool (ordE op a b))) noHeap := by
  obtain ⟨k, n, s⟩ := a
  obtain ⟨k2, n2, s2⟩ := b
  simp only at hk
  rcases hk with rfl | rfl
  · have h1 : ordE op (1, n, s) (k2, n2, s2) = if op = 11 then decide (n < n2) else if op = 13 then decide (n2 < n) else if op = 12 then !decide (n2 < n) else !decide (n < n2) := rfl
    rw [h1]
    clear h1
    rcases (show op = 11 ∨ op = 12 ∨ op = 13 ∨ op = 14 by omega) with rfl | rfl | rfl | rfl
    · rw [if_pos rfl]
      refine zzg (nt := 45) (rs := [.tmp 6]) Tryz.func49 ?_; intro Q hQ hW
      repeat' (first
 | (with_reducible refine run_n ?_; with_reducible first | refine hK _ _ (by simp) ?_ | refine hK _ _ ?_; clear hK K)
 | (refine zzc ?_)
 | (with_reducible refine awp_regT (by kernel_rfl) ?_; intro K hK)
 | (with_reducible refine awp_regCM (id := 1) [] [(9, some 4), (11, some 5), (14, some 4), (16, some 5)] mixed (by kernel_rfl) (by kernel_rfl) (by kernel_rfl) ?_; intro K hK)
 | (with_reducible refine awp_regCM (id := 3) [] [(22, some 4), (24, some 5), (27, some 4), (29, some 5)] mixed (by kernel_rfl) (by kernel_rfl) (by kernel_rfl) ?_; intro K hK)
 | (with_reducible refine a_cond (ht := ?_) (hf := ?_) <;> intro hb <;> (try simp at hb) <;> (try contradiction) <;> (try subst hb) <;> (try omega))
 | (with_reducible first | refine a_move (hr:=?_) | refine a_assign (hr:=?_) | refine a_load (hr:=?_) | refine a_fieldAddr (hr:=?_) | refine a_bin (hr:=?_) | refine a_un (hr:=?_) | refine a_box (hr:=?_) | refine a_eqB (hr:=?_) | refine a_eqS (hr:=?_))
 | fail)
      all_goals first
        | (exfalso; omega)
        | ((refine zzr hQ ?_); exact zzd)
    · rw [if_neg (by decide), if_neg (by decide), if_pos rfl]
      refine zzg (nt := 45) (rs := [.tmp 6]) Tryz.func49 ?_; intro Q hQ hW
      repeat' (first
 | (with_reducible refine run_n ?_; with_reducible first | refine hK _ _ (by simp) ?_ | refine hK _ _ ?_; clear hK K)
 | (refine zzc ?_)
 | (with_reducible refine awp_regT (by kernel_rfl) ?_; intro K hK)
 | (with_reducible refine awp_regCM (id := 1) [] [(9, some 4), (11, some 5), (14, some 4), (16, some 5)] mixed (by kernel_rfl) (by kernel_rfl) (by kernel_rfl) ?_; intro K hK)
 | (with_reducible refine awp_regCM (id := 3) [] [(22, some 4), (24, some 5), (27, some 4), (29, some 5)] mixed (by kernel_rfl) (by kernel_rfl) (by kernel_rfl) ?_; intro K hK)
 | (with_reducible refine a_cond (ht := ?_) (hf := ?_) <;> intro hb <;> (try simp at hb) <;> (try contradiction) <;> (try subst hb) <;> (try omega))
 | (with_reducible first | refine a_move (hr:=?_) | refine a_assign (hr:=?_) | refine a_load (hr:=?_) | refine a_fieldAddr (hr:=?_) | refine a_bin (hr:=?_) | refine a_un (hr:=?_) | refine a_box (hr:=?_) | refine a_eqB (hr:=?_) | refine a_eqS (hr:=?_))
 | fail)
      all_goals first
        | (exfalso; omega)
        | ((refine zzr hQ ?_); exact zzd)
    · rw [if_neg (by decide), if_pos rfl]
      refine zzg (nt := 45) (rs := [.tmp 6]) Tryz.func49 ?_; intro Q hQ hW
      repeat' (first
 | (with_reducible refine run_n ?_; with_reducible first | refine hK _ _ (by simp) ?_ | refine hK _ _ ?_; clear hK K)
 | (refine zzc ?_)
 | (with_reducible refine awp_regT (by kernel_rfl) ?_; intro K hK)
 | (with_reducible refine awp_regCM (id := 1) [] [(9, some 4), (11, some 5), (14, some 4), (16, some 5)] mixed (by kernel_rfl) (by kernel_rfl) (by kernel_rfl) ?_; intro K hK)
 | (with_reducible refine awp_regCM (id := 3) [] [(22, some 4), (24, some 5), (27, some 4), (29, some 5)] mixed (by kernel_rfl) (by kernel_rfl) (by kernel_rfl) ?_; intro K hK)
 | (with_reducible refine a_cond (ht := ?_) (hf := ?_) <;> intro hb <;> (try simp at hb) <;> (try contradiction) <;> (try subst hb) <;> (try omega))
 | (with_reducible first | refine a_move (hr:=?_) | refine a_assign (hr:=?_) | refine a_load (hr:=?_) | refine a_fieldAddr (hr:=?_) | refine a_bin (hr:=?_) | refine a_un (hr:=?_) | refine a_box (hr:=?_) | refine a_eqB (hr:=?_) | refine a_eqS (hr:=?_))
 | fail)
      all_goals first
        | (exfalso; omega)
        | ((refine zzr hQ ?_); exact zzd)
    · rw [if_neg (by decide), if_neg (by decide), if_neg (by decide)]
      refine zzg (nt := 45) (rs := [.tmp 6]) Tryz.func49 ?_; intro Q hQ hW
      repeat' (first
 | (with_reducible refine run_n ?_; with_reducible first | refine hK _ _ (by simp) ?_ | refine hK _ _ ?_; clear hK K)
 | (refine zzc ?_)
 | (with_reducible refine awp_regT (by kernel_rfl) ?_; intro K hK)
 | (with_reducible refine awp_regCM (id := 1) [] [(9, some 4), (11, some 5), (14, some 4), (16, some 5)] mixed (by kernel_rfl) (by kernel_rfl) (by kernel_rfl) ?_; intro K hK)
 | (with_reducible refine awp_regCM (id := 3) [] [(22, some 4), (24, some 5), (27, some 4), (29, some 5)] mixed (by kernel_rfl) (by kernel_rfl) (by kernel_rfl) ?_; intro K hK)
 | (with_reducible refine a_cond (ht := ?_) (hf := ?_) <;> intro hb <;> (try simp at hb) <;> (try contradiction) <;> (try subst hb) <;> (try omega))
 | (with_reducible first | refine a_move (hr:=?_) | refine a_assign (hr:=?_) | refine a_load (hr:=?_) | refine a_fieldAddr (hr:=?_) | refine a_bin (hr:=?_) | refine a_un (hr:=?_) | refine a_box (hr:=?_) | refine a_eqB (hr:=?_) | refine a_eqS (hr:=?_))
 | fail)
      all_goals first
        | (exfalso; omega)
        | ((refine zzr hQ ?_); exact zzd)
  · have h1 : ordE op (3, n, s) (k2, n2, s2) = if op = 11 then sless s s2 else if op = 13 then sless s2 s else if op = 12 then !sless s2 s else !sless s s2 := rfl
    rw [h1]
    clear h1
    rcases (show op = 11 ∨ op = 12 ∨ op = 13 ∨ op = 14 by omega) with rfl | rfl | rfl | rfl
    · rw [if_pos rfl]
      refine zzg (nt := 45) (rs := [.tmp 6]) Tryz.func49 ?_; intro Q hQ hW
      repeat' (first
 | (with_reducible refine run_n ?_; with_reducible first | refine hK _ _ (by simp) ?_ | refine hK _ _ ?_; clear hK K)
 | (refine zzc ?_)
 | (with_reducible refine awp_regT (by kernel_rfl) ?_; intro K hK)
 | (with_reducible refine awp_regCM (id := 1) [] [(9, some 4), (11, some 5), (14, some 4), (16, some 5)] mixed (by kernel_rfl) (by kernel_rfl) (by kernel_rfl) ?_; intro K hK)
 | (with_reducible refine awp_regCM (id := 3) [] [(22, some 4), (24, some 5), (27, some 4), (29, some 5)] mixed (by kernel_rfl) (by kernel_rfl) (by kernel_rfl) ?_; intro K hK)
 | (with_reducible refine a_cond (ht := ?_) (hf := ?_) <;> intro hb <;> (try simp at hb) <;> (try contradiction) <;> (try subst hb) <;> (try omega))
 | (with_reducible first | refine a_move (hr:=?_) | refine a_assign (hr:=?_) | refine a_load (hr:=?_) | refine a_fieldAddr (hr:=?_) | refine a_bin (hr:=?_) | refine a_un (hr:=?_) | refine a_box (hr:=?_) | refine a_eqB (hr:=?_) | refine a_eqS (hr:=?_))
 | fail)
      all_goals first
        | (exfalso; omega)
        | ((refine zzr hQ ?_); exact zzd)
    · rw [if_neg (by decide), if_neg (by decide), if_pos rfl]
      refine zzg (nt := 45) (rs := [.tmp 6]) Tryz.func49 ?_; intro Q hQ hW
      repeat' (first
 | (with_reducible refine run_n ?_; with_reducible first | refine hK _ _ (by simp) ?_ | refine hK _ _ ?_; clear hK K)
 | (refine zzc ?_)
 | (with_reducible refine awp_regT (by kernel_rfl) ?_; intro K hK)
 | (with_reducible refine awp_regCM (id := 1) [] [(9, some 4), (11, some 5), (14, some 4), (16, some 5)] mixed (by kernel_rfl) (by kernel_rfl) (by kernel_rfl) ?_; intro K hK)
 | (with_reducible refine awp_regCM (id := 3) [] [(22, some 4), (24, some 5), (27, some 4), (29, some 5)] mixed (by kernel_rfl) (by kernel_rfl) (by kernel_rfl) ?_; intro K hK)
 | (with_reducible refine a_cond (ht := ?_) (hf := ?_) <;> intro hb <;> (try simp at hb) <;> (try contradiction) <;> (try subst hb) <;> (try omega))
 | (with_reducible first | refine a_move (hr:=?_) | refine a_assign (hr:=?_) | refine a_load (hr:=?_) | refine a_fieldAddr (hr:=?_) | refine a_bin (hr:=?_) | refine a_un (hr:=?_) | refine a_box (hr:=?_) | refine a_eqB (hr:=?_) | refine a_eqS (hr:=?_))
 | fail)
      all_goals first
        | (exfalso; omega)
        | ((refine zzr hQ ?_); exact zzd)
    · rw [if_neg (by decide), if_pos rfl]
      refine zzg (nt := 45) (rs := [.tmp 6]) Tryz.func49 ?_; intro Q hQ hW
      repeat' (first
 | (with_reducible refine run_n ?_; with_reducible first | refine hK _ _ (by simp) ?_ | refine hK _ _ ?_; clear hK K)
 | (refine zzc ?_)
 | (with_reducible refine awp_regT (by kernel_rfl) ?_; intro K hK)
 | (with_reducible refine awp_regCM (id := 1) [] [(9, some 4), (11, some 5), (14, some 4), (16, some 5)] mixed (by kernel_rfl) (by kernel_rfl) (by kernel_rfl) ?_; intro K hK)
 | (with_reducible refine awp_regCM (id := 3) [] [(22, some 4), (24, some 5), (27, some 4), (29, some 5)] mixed (by kernel_rfl) (by kernel_rfl) (by kernel_rfl) ?_; intro K hK)
 | (with_reducible refine a_cond (ht := ?_) (hf := ?_) <;> intro hb <;> (try simp at hb) <;> (try contradiction) <;> (try subst hb) <;> (try omega))
 | (with_reducible first | refine a_move (hr:=?_) | refine a_assign (hr:=?_) | refine a_load (hr:=?_) | refine a_fieldAddr (hr:=?_) | refine a_bin (hr:=?_) | refine a_un (hr:=?_) | refine a_box (hr:=?_) | refine a_eqB (hr:=?_) | refine a_eqS (hr:=?_))
 | fail)
      all_goals first
        | (exfalso; omega)
        | ((refine zzr hQ ?_); exact zzd)
    · rw [if_neg (by decide), if_neg (by decide), if_neg (by decide)]
      refine zzg (nt := 45) (rs := [.tmp 6]) Tryz.func49 ?_; intro Q hQ hW
      repeat' (first
 | (with_reducible refine run_n ?_; with_reducible first | refine hK _ _ (by simp) ?_ | refine hK _ _ ?_; clear hK K)
 | (refine zzc ?_)
 | (with_reducible refine awp_regT (by kernel_rfl) ?_; intro K hK)
 | (with_reducible refine awp_regCM (id := 1) [] [(9, some 4), (11, some 5), (14, some 4), (16, some 5)] mixed (by kernel_rfl) (by kernel_rfl) (by kernel_rfl) ?_; intro K hK)
 | (with_reducible refine awp_regCM (id := 3) [] [(22, some 4), (24, some 5), (27, some 4), (29, some 5)] mixed (by kernel_rfl) (by kernel_rfl) (by kernel_rfl) ?_; intro K hK)
 | (with_reducible refine a_cond (ht := ?_) (hf := ?_) <;> intro hb <;> (try simp at hb) <;> (try contradiction) <;> (try subst hb) <;> (try omega))
 | (with_reducible first | refine a_move (hr:=?_) | refine a_assign (hr:=?_) | refine a_load (hr:=?_) | refine a_fieldAddr (hr:=?_) | refine a_bin (hr:=?_) | refine a_un (hr:=?_) | refine a_box (hr:=?_) | refine a_eqB (hr:=?_) | refine a_eqS (hr:=?_))
 | fail)
      all_goals first
        | (exfalso; omega)
        | ((refine zzr hQ ?_); exact zzd)
end Go.Proofs.YtjbbnollidcagaaGreatDoor.Asl

