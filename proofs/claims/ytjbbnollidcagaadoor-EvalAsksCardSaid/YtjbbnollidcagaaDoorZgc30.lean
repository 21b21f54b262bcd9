/- Part 30 of what the row leans on: abstract values and states, their rules, and the contracts of the functions. -/
import Derived.Test.YtjbbnollidcagaaDoorZgc29
namespace Go.Proofs.YtjbbnollidcagaaDoor.Asl
open Go Go.RowKit
set_option linter.unusedVariables false
set_option linter.unusedSimpArgs false
set_option maxRecDepth 100000
set_option maxHeartbeats 4000000
theorem nat10_step {n : Int} (h0 : 10 ≤ n) (h1 : n < 18446744073709551616) : nat10 20 n = nat10 20 (n / 10) ++ [48 + n % 10] := by
  have h2 := nat10_fuel 18 (n / 10) (by omega) (by rw [show (10 : Int) ^ (18 + 1) = 10000000000000000000 by decide]; omega)
  conv => lhs; rw [nat10]
  rw [if_neg (by omega), h2]
theorem c_Natural : ∀ (k : Nat) (n : Int), n.toNat < k → 0 ≤ n → n < 18446744073709551616 → CallD Tryd.prog 88 [.raw (.int .u64 n)] noHeap (.raw (.string (strOfNums (nat10 20 n)))) noHeap
  | 0, n, hk, _, _ => absurd hk (by omega)
  | k + 1, n, hk, h0, h1 => by
    by_cases h10 : n < 10
    · have e : nat10 20 n = [48 + n % 10] := by rw [nat10, if_pos h10, Int.emod_eq_of_lt h0 (by omega)]
      rw [e]
      refine zzg (nt := 18) (rs := [.tmp 2]) Tryd.func88 ?_; intro Q hQ hW
      repeat' (first
 | (with_reducible refine run_n ?_; with_reducible first | refine hK _ _ (by simp) ?_ | refine hK _ _ ?_; clear hK K)
 | (refine zzc ?_)
 | (with_reducible refine awp_regT (by kernel_rfl) ?_; intro K hK)
 | (with_reducible refine a_cond (ht := ?_) (hf := ?_) <;> intro hb <;> (try simp at hb) <;> (try contradiction) <;> (try subst hb) <;> (try omega))
 | (with_reducible first | refine a_move (hr:=?_) | refine a_assign (hr:=?_) | refine a_remU (hr:=?_) | refine a_quoU (hr:=?_) | refine a_bin (hr:=?_) | refine a_conv (hr:=?_) | refine a_bytesStr (hr:=?_) | refine a_strBytes (hr:=?_) | refine a_buildSlice (hr:=?_))
 | fail)
      all_goals ((refine zzr hQ ?_))
      all_goals (exact zzd)
    · have ih := c_Natural k (n / 10) (by omega) (by omega) (by omega)
      rw [nat10_step (by omega) h1]
      have hB := nat10_isB 20 (n / 10) (by omega)
      have hl := nat10_len 20 (n / 10)
      generalize nat10 20 (n / 10) = q at ih hB hl ⊢
      have hz := size_of_nums q
      have ha := nums_app hB (show IsB [48 + n % 10] from isB_cons.2 ⟨by omega, isB_nil⟩)
      rw [← ha, show strOfNums [48 + n % 10] = ⟨#[UInt8.ofNat (48 + n % 10).toNat]⟩ from rfl]
      refine zzg (nt := 18) (rs := [.tmp 2]) Tryd.func88 ?_; intro Q hQ hW
      repeat' (first
 | (with_reducible refine run_n ?_; with_reducible first | refine hK _ _ (by simp) ?_ | refine hK _ _ ?_; clear hK K)
 | (refine zzc ?_)
 | (with_reducible refine awp_regT (by kernel_rfl) ?_; intro K hK)
 | (with_reducible refine a_cond (ht := ?_) (hf := ?_) <;> intro hb <;> (try simp at hb) <;> (try contradiction) <;> (try subst hb) <;> (try omega))
 | (with_reducible first | refine a_move (hr:=?_) | refine a_assign (hr:=?_) | refine a_remU (hr:=?_) | refine a_quoU (hr:=?_) | refine a_bin (hr:=?_) | refine a_conv (hr:=?_) | refine a_bytesStr (hr:=?_) | refine a_strBytes (hr:=?_) | refine a_buildSlice (hr:=?_) | refine a_call0 (hcall := ih) (hr:=?_))
 | fail)
      all_goals ((refine zzr hQ ?_))
      all_goals (exact zzd)
theorem c_rNum (n : Int) (h0 : -9223372036854775808 ≤ n) (h1 : n < 9223372036854775808) : CallD Tryd.prog 80 [.raw (.int .i64 n)] noHeap (.raw (.string (strOfNums (digs10 n)))) noHeap := by
  by_cases hneg : n < 0
  · have ih := c_Natural ((-n).toNat + 1) (-n) (by omega) (by omega) (by omega)
    have e : digs10 n = [45] ++ nat10 20 (-n) := by unfold digs10; rw [if_pos hneg]; rfl
    have hB := nat10_isB 20 (-n) (by omega)
    have hl := nat10_len 20 (-n)
    rw [e]
    generalize nat10 20 (-n) = q at ih hB hl ⊢
    have hz := size_of_nums q
    have ha := nums_app (show IsB [45] from isB_cons.2 ⟨by omega, isB_nil⟩) hB
    rw [← ha, show strOfNums [45] = ⟨#[45]⟩ from rfl]
    have hss : IntKind.wrap .u64 n = n + 18446744073709551616 := by rw [wrap_u64']; omega
    have hw : IntKind.wrap .u64 (-(n + 18446744073709551616)) = -n := by rw [wrap_u64']; omega
    rw [← hw] at ih
    refine zzg (nt := 13) (rs := [.tmp 2]) Tryd.func80 ?_; intro Q hQ hW
    repeat' (first
 | (with_reducible refine run_n ?_; with_reducible first | refine hK _ _ (by simp) ?_ | refine hK _ _ ?_; clear hK K)
 | (refine zzc ?_)
 | (with_reducible refine awp_regT (by kernel_rfl) ?_; intro K hK)
 | (with_reducible refine a_cond (ht := ?_) (hf := ?_) <;> intro hb <;> (try simp at hb) <;> (try contradiction) <;> (try subst hb) <;> (try omega))
 | (with_reducible first | refine a_move (hr:=?_) | refine a_assign (hr:=?_) | refine a_bin (hr:=?_) | refine a_conv (hr:=?_) | refine a_bytesStr (hr:=?_) | refine a_strBytes (hr:=?_) | refine a_call0 (hcall := ih) (hr:=?_))
 | fail)
    all_goals ((refine zzr hQ ?_))
    all_goals (exact zzd)
  · have ih := c_Natural (n.toNat + 1) n (by omega) (by omega) (by omega)
    have e : digs10 n = nat10 20 n := by unfold digs10; rw [if_neg hneg]
    rw [e]
    refine zzg (nt := 13) (rs := [.tmp 2]) Tryd.func80 ?_; intro Q hQ hW
    repeat' (first
 | (with_reducible refine run_n ?_; with_reducible first | refine hK _ _ (by simp) ?_ | refine hK _ _ ?_; clear hK K)
 | (refine zzc ?_)
 | (with_reducible refine awp_regT (by kernel_rfl) ?_; intro K hK)
 | (with_reducible refine a_cond (ht := ?_) (hf := ?_) <;> intro hb <;> (try simp at hb) <;> (try contradiction) <;> (try subst hb) <;> (try omega))
 | (with_reducible first | refine a_move (hr:=?_) | refine a_assign (hr:=?_) | refine a_bin (hr:=?_) | refine a_conv (hr:=?_) | refine a_bytesStr (hr:=?_) | refine a_strBytes (hr:=?_) | refine a_call0 (hcall := ih) (hr:=?_))
 | fail)
    all_goals ((refine zzr hQ ?_))
    all_goals (exact zzd)
def plainB (c : Int) : Bool := decide (32 ≤ c) && decide (c ≤ 126) && decide (c ≠ 34) && decide (c ≠ 92)
theorem c_plain (c : Int) : CallD Tryd.prog 89 [.raw (.int .u8 c)] noHeap (.raw (.bool (plainB c))) noHeap := by
  generalize hp : plainB c = b
  unfold plainB at hp
  by_cases h1 : 32 ≤ c
  · by_cases h2 : c ≤ 126
    · by_cases h3 : c = 34
      · obtain rfl : b = false := by simpa [h3] using hp.symm
        refine zzg (nt := 17) (rs := [.tmp 2]) Tryd.func89 ?_; intro Q hQ hW
        repeat' (first
 | (with_reducible refine run_n ?_; with_reducible first | refine hK _ _ (by simp) ?_ | refine hK _ _ ?_; clear hK K)
 | (refine zzc ?_)
 | (with_reducible refine awp_regT (by kernel_rfl) ?_; intro K hK)
 | (with_reducible refine a_cond (ht := ?_) (hf := ?_) <;> intro hb <;> (try simp at hb) <;> (try contradiction) <;> (try subst hb) <;> (try omega))
 | (with_reducible first | refine a_move (hr:=?_) | refine a_assign (hr:=?_) | refine a_bin (hr:=?_) | refine a_pick (hr:=?_) | refine a_neB (hr:=?_) | refine a_neS (hr:=?_) | refine a_gT (hr:=?_) | refine a_gF (hr:=?_) | refine a_gU (hr:=?_))
 | (with_reducible refine a_gB (hT := ?_) (hF := ?_) <;> intro hb <;> (try simp at hb) <;> (try contradiction) <;> (try subst hb) <;> (try omega))
 | fail)
        all_goals first
          | (exfalso; omega)
          | ((refine zzr hQ ?_); exact zzd)
      · by_cases h4 : c = 92
        · obtain rfl : b = false := by simpa [h4] using hp.symm
          subst h4
          refine zzg (nt := 17) (rs := [.tmp 2]) Tryd.func89 ?_; intro Q hQ hW
          repeat' (first
 | (with_reducible refine run_n ?_; with_reducible first | refine hK _ _ (by simp) ?_ | refine hK _ _ ?_; clear hK K)
 | (refine zzc ?_)
 | (with_reducible refine awp_regT (by kernel_rfl) ?_; intro K hK)
 | (with_reducible refine a_cond (ht := ?_) (hf := ?_) <;> intro hb <;> (try simp at hb) <;> (try contradiction) <;> (try subst hb) <;> (try omega))
 | (with_reducible first | refine a_move (hr:=?_) | refine a_assign (hr:=?_) | refine a_bin (hr:=?_) | refine a_pick (hr:=?_) | refine a_neB (hr:=?_) | refine a_neS (hr:=?_) | refine a_gT (hr:=?_) | refine a_gF (hr:=?_) | refine a_gU (hr:=?_))
 | (with_reducible refine a_gB (hT := ?_) (hF := ?_) <;> intro hb <;> (try simp at hb) <;> (try contradiction) <;> (try subst hb) <;> (try omega))
 | fail)
          all_goals first
            | (exfalso; omega)
            | ((refine zzr hQ ?_); exact zzd)
        · obtain rfl : b = !decide (c = 92) := by simpa [h1, h2, h3, h4] using hp.symm
          clear hp
          refine zzg (nt := 17) (rs := [.tmp 2]) Tryd.func89 ?_; intro Q hQ hW
          repeat' (first
 | (with_reducible refine run_n ?_; with_reducible first | refine hK _ _ (by simp) ?_ | refine hK _ _ ?_; clear hK K)
 | (refine zzc ?_)
 | (with_reducible refine awp_regT (by kernel_rfl) ?_; intro K hK)
 | (with_reducible refine a_cond (ht := ?_) (hf := ?_) <;> intro hb <;> (try simp at hb) <;> (try contradiction) <;> (try subst hb) <;> (try omega))
 | (with_reducible first | refine a_move (hr:=?_) | refine a_assign (hr:=?_) | refine a_bin (hr:=?_) | refine a_pick (hr:=?_) | refine a_neB (hr:=?_) | refine a_neS (hr:=?_) | refine a_gT (hr:=?_) | refine a_gF (hr:=?_) | refine a_gU (hr:=?_))
 | (with_reducible refine a_gB (hT := ?_) (hF := ?_) <;> intro hb <;> (try simp at hb) <;> (try contradiction) <;> (try subst hb) <;> (try omega))
 | fail)
          all_goals first
            | (exfalso; omega)
            | ((refine zzr hQ ?_); exact zzd)
    · obtain rfl : b = false := by simpa [h1, h2] using hp.symm
      refine zzg (nt := 17) (rs := [.tmp 2]) Tryd.func89 ?_; intro Q hQ hW
      repeat' (first
 | (with_reducible refine run_n ?_; with_reducible first | refine hK _ _ (by simp) ?_ | refine hK _ _ ?_; clear hK K)
 | (refine zzc ?_)
 | (with_reducible refine awp_regT (by kernel_rfl) ?_; intro K hK)
 | (with_reducible refine a_cond (ht := ?_) (hf := ?_) <;> intro hb <;> (try simp at hb) <;> (try contradiction) <;> (try subst hb) <;> (try omega))
 | (with_reducible first | refine a_move (hr:=?_) | refine a_assign (hr:=?_) | refine a_bin (hr:=?_) | refine a_pick (hr:=?_) | refine a_neB (hr:=?_) | refine a_neS (hr:=?_) | refine a_gT (hr:=?_) | refine a_gF (hr:=?_) | refine a_gU (hr:=?_))
 | (with_reducible refine a_gB (hT := ?_) (hF := ?_) <;> intro hb <;> (try simp at hb) <;> (try contradiction) <;> (try subst hb) <;> (try omega))
 | fail)
      all_goals first
        | (exfalso; omega)
        | ((refine zzr hQ ?_); exact zzd)
  · obtain rfl : b = false := by simpa [h1] using hp.symm
    refine zzg (nt := 17) (rs := [.tmp 2]) Tryd.func89 ?_; intro Q hQ hW
    repeat' (first
 | (with_reducible refine run_n ?_; with_reducible first | refine hK _ _ (by simp) ?_ | refine hK _ _ ?_; clear hK K)
 | (refine zzc ?_)
 | (with_reducible refine awp_regT (by kernel_rfl) ?_; intro K hK)
 | (with_reducible refine a_cond (ht := ?_) (hf := ?_) <;> intro hb <;> (try simp at hb) <;> (try contradiction) <;> (try subst hb) <;> (try omega))
 | (with_reducible first | refine a_move (hr:=?_) | refine a_assign (hr:=?_) | refine a_bin (hr:=?_) | refine a_pick (hr:=?_) | refine a_neB (hr:=?_) | refine a_neS (hr:=?_) | refine a_gT (hr:=?_) | refine a_gF (hr:=?_) | refine a_gU (hr:=?_))
 | (with_reducible refine a_gB (hT := ?_) (hF := ?_) <;> intro hb <;> (try simp at hb) <;> (try contradiction) <;> (try subst hb) <;> (try omega))
 | fail)
    all_goals first
      | (exfalso; omega)
      | ((refine zzr hQ ?_); exact zzd)
theorem hexs_cut {c : Int} (h0 : 0 ≤ c) (h1 : c ≤ 255) : (strOfNums (hexs c)).extract 14 16 = strOfNums [byteAt hexQ (c / 16), byteAt hexQ (c % 16)] := by
  have : ∀ m : _root_.Fin 256, (strOfNums (hexs (m.val : Int))).extract 14 16 = strOfNums [byteAt hexQ ((m.val : Int) / 16), byteAt hexQ ((m.val : Int) % 16)] := by decide +kernel
  obtain ⟨m, rfl⟩ := Int.eq_ofNat_of_zero_le h0
  exact this ⟨m, by omega⟩
theorem c_hex (c : Int) (h0 : 0 ≤ c) (h1 : c ≤ 255) : CallD Tryd.prog 90 [.raw (.int .u8 c)] noHeap (.raw (.string (strOfNums [byteAt hexQ (c / 16), byteAt hexQ (c % 16)]))) noHeap := by
  have q := c_rNumber c h0 (by omega)
  have hz := size_of_nums (hexs c)
  have hl : (hexs c).length = 16 := by simp [hexs]
  rw [hl] at hz
  rw [← hexs_cut h0 h1, show (strOfNums (hexs c)).extract 14 16 = (strOfNums (hexs c)).extract 14 (strOfNums (hexs c)).size by rw [hz]]
  generalize strOfNums (hexs c) = s at q hz ⊢
  refine zzg (nt := 9) (rs := [.tmp 2]) Tryd.func90 ?_; intro Q hQ hW
  repeat' (first
 | (with_reducible refine run_n ?_; with_reducible first | refine hK _ _ (by simp) ?_ | refine hK _ _ ?_; clear hK K)
 | (refine zzc ?_)
 | (with_reducible refine awp_regT (by kernel_rfl) ?_; intro K hK)
 | (with_reducible refine a_cond (ht := ?_) (hf := ?_) <;> intro hb <;> (try simp at hb) <;> (try contradiction) <;> (try subst hb) <;> (try omega))
 | (with_reducible first | refine a_move (hr:=?_) | refine a_assign (hr:=?_) | refine a_conv (hr:=?_) | refine a_bytesStr (hr:=?_) | refine a_strBytes (hr:=?_) | refine a_sliceArr (hr:=?_) | refine a_sliceS (hr:=?_) | refine a_sliceR (hr:=?_) | refine a_call0 (hcall := q) (hr:=?_))
 | fail)
  all_goals ((refine zzr hQ ?_))
  all_goals (exact zzd)
theorem plainB_iff (c : Int) : plainB c = true ↔ (32 ≤ c ∧ c ≤ 126) ∧ c ≠ 34 ∧ c ≠ 92 := by
  unfold plainB; simp only [Bool.and_eq_true, decide_eq_true_eq, and_assoc]
theorem c_inner (c : Int) (h0 : 0 ≤ c) (h1 : c ≤ 255) : CallD Tryd.prog 81 [.raw (.int .u8 c)] noHeap (.raw (.string (strOfNums (escQ c)))) noHeap := by
  have q1 := c_plain c
  have q2 := c_hex c h0 h1
  have hi := plainB_iff c
  unfold escQ
  cases hp : plainB c with
  | true =>
    obtain ⟨hr, hn1, hn2⟩ := hi.1 hp
    rw [hp] at q1
    rw [if_neg (by omega), if_neg (by omega), show strOfNums [c] = ⟨#[UInt8.ofNat c.toNat]⟩ from rfl]
    refine zzg (nt := 22) (rs := [.tmp 2]) Tryd.func81 ?_; intro Q hQ hW
    repeat' (first
 | (with_reducible refine run_n ?_; with_reducible first | refine hK _ _ (by simp) ?_ | refine hK _ _ ?_; clear hK K)
 | (refine zzc ?_)
 | (with_reducible refine awp_regT (by kernel_rfl) ?_; intro K hK)
 | (with_reducible refine a_cond (ht := ?_) (hf := ?_) <;> intro hb <;> (try simp at hb) <;> (try contradiction) <;> (try subst hb) <;> (try omega))
 | (with_reducible first | refine a_move (hr:=?_) | refine a_assign (hr:=?_) | refine a_bin (hr:=?_) | refine a_pick (hr:=?_) | refine a_eqB (hr:=?_) | refine a_conv (hr:=?_) | refine a_bytesStr (hr:=?_) | refine a_strBytes (hr:=?_) | refine a_eqS (hr:=?_) | refine a_buildSlice (hr:=?_) | refine a_call0 (hcall := q1) (hr:=?_) | refine a_call0 (hcall := q2) (hr:=?_) | refine a_gT (hr:=?_) | refine a_gF (hr:=?_) | refine a_gU (hr:=?_))
 | (with_reducible refine a_gB (hT := ?_) (hF := ?_) <;> intro hb <;> (try simp at hb) <;> (try contradiction) <;> (try subst hb) <;> (try omega))
 | fail)
    all_goals ((refine zzr hQ ?_))
    all_goals (exact zzd)
  | false =>
    rw [hp] at q1
    have hn : ¬ ((32 ≤ c ∧ c ≤ 126) ∧ c ≠ 34 ∧ c ≠ 92) := fun h => by rw [hi.2 h] at hp; cases hp
    by_cases h34 : c = 34
    · subst h34
      rw [if_pos (Or.inl rfl), show strOfNums [92, 34] = ⟨#[92, 34]⟩ from rfl]
      refine zzg (nt := 22) (rs := [.tmp 2]) Tryd.func81 ?_; intro Q hQ hW
      repeat' (first
 | (with_reducible refine run_n ?_; with_reducible first | refine hK _ _ (by simp) ?_ | refine hK _ _ ?_; clear hK K)
 | (refine zzc ?_)
 | (with_reducible refine awp_regT (by kernel_rfl) ?_; intro K hK)
 | (with_reducible refine a_cond (ht := ?_) (hf := ?_) <;> intro hb <;> (try simp at hb) <;> (try contradiction) <;> (try subst hb) <;> (try omega))
 | (with_reducible first | refine a_move (hr:=?_) | refine a_assign (hr:=?_) | refine a_bin (hr:=?_) | refine a_pick (hr:=?_) | refine a_eqB (hr:=?_) | refine a_conv (hr:=?_) | refine a_bytesStr (hr:=?_) | refine a_strBytes (hr:=?_) | refine a_eqS (hr:=?_) | refine a_buildSlice (hr:=?_) | refine a_call0 (hcall := q1) (hr:=?_) | refine a_call0 (hcall := q2) (hr:=?_) | refine a_gT (hr:=?_) | refine a_gF (hr:=?_) | refine a_gU (hr:=?_))
 | (with_reducible refine a_gB (hT := ?_) (hF := ?_) <;> intro hb <;> (try simp at hb) <;> (try contradiction) <;> (try subst hb) <;> (try omega))
 | fail)
      all_goals ((refine zzr hQ ?_))
      all_goals (exact zzd)
    by_cases h92 : c = 92
    · subst h92
      rw [if_pos (Or.inr rfl), show strOfNums [92, 92] = ⟨#[92, 92]⟩ from rfl]
      refine zzg (nt := 22) (rs := [.tmp 2]) Tryd.func81 ?_; intro Q hQ hW
      repeat' (first
 | (with_reducible refine run_n ?_; with_reducible first | refine hK _ _ (by simp) ?_ | refine hK _ _ ?_; clear hK K)
 | (refine zzc ?_)
 | (with_reducible refine awp_regT (by kernel_rfl) ?_; intro K hK)
 | (with_reducible refine a_cond (ht := ?_) (hf := ?_) <;> intro hb <;> (try simp at hb) <;> (try contradiction) <;> (try subst hb) <;> (try omega))
 | (with_reducible first | refine a_move (hr:=?_) | refine a_assign (hr:=?_) | refine a_bin (hr:=?_) | refine a_pick (hr:=?_) | refine a_eqB (hr:=?_) | refine a_conv (hr:=?_) | refine a_bytesStr (hr:=?_) | refine a_strBytes (hr:=?_) | refine a_eqS (hr:=?_) | refine a_buildSlice (hr:=?_) | refine a_call0 (hcall := q1) (hr:=?_) | refine a_call0 (hcall := q2) (hr:=?_) | refine a_gT (hr:=?_) | refine a_gF (hr:=?_) | refine a_gU (hr:=?_))
 | (with_reducible refine a_gB (hT := ?_) (hF := ?_) <;> intro hb <;> (try simp at hb) <;> (try contradiction) <;> (try subst hb) <;> (try omega))
 | fail)
      all_goals ((refine zzr hQ ?_))
      all_goals (exact zzd)
    rw [if_neg (by omega), if_pos (by omega)]
    have b1 := byteAt_range hexQ (c / 16)
    have b2 := byteAt_range hexQ (c % 16)
    have ha := nums_app (show IsB [92] from isB_cons.2 ⟨by omega, isB_nil⟩) (show IsB [byteAt hexQ (c / 16), byteAt hexQ (c % 16)] from isB_cons.2 ⟨b1, isB_cons.2 ⟨b2, isB_nil⟩⟩)
    have hz := size_of_nums [byteAt hexQ (c / 16), byteAt hexQ (c % 16)]
    rw [show [92, byteAt hexQ (c / 16), byteAt hexQ (c % 16)] = [92] ++ [byteAt hexQ (c / 16), byteAt hexQ (c % 16)] from rfl, ← ha, show strOfNums [92] = ⟨#[92]⟩ from rfl]
    generalize strOfNums [byteAt hexQ (c / 16), byteAt hexQ (c % 16)] = s at q2 hz ⊢
    simp only [List.length_cons, List.length_nil] at hz
    refine zzg (nt := 22) (rs := [.tmp 2]) Tryd.func81 ?_; intro Q hQ hW
    repeat' (first
 | (with_reducible refine run_n ?_; with_reducible first | refine hK _ _ (by simp) ?_ | refine hK _ _ ?_; clear hK K)
 | (refine zzc ?_)
 | (with_reducible refine awp_regT (by kernel_rfl) ?_; intro K hK)
 | (with_reducible refine a_cond (ht := ?_) (hf := ?_) <;> intro hb <;> (try simp at hb) <;> (try contradiction) <;> (try subst hb) <;> (try omega))
 | (with_reducible first | refine a_move (hr:=?_) | refine a_assign (hr:=?_) | refine a_bin (hr:=?_) | refine a_pick (hr:=?_) | refine a_eqB (hr:=?_) | refine a_conv (hr:=?_) | refine a_bytesStr (hr:=?_) | refine a_strBytes (hr:=?_) | refine a_eqS (hr:=?_) | refine a_buildSlice (hr:=?_) | refine a_call0 (hcall := q1) (hr:=?_) | refine a_call0 (hcall := q2) (hr:=?_) | refine a_gT (hr:=?_) | refine a_gF (hr:=?_) | refine a_gU (hr:=?_))
 | (with_reducible refine a_gB (hT := ?_) (hF := ?_) <;> intro hb <;> (try simp at hb) <;> (try contradiction) <;> (try subst hb) <;> (try omega))
 | fail)
    all_goals ((refine zzr hQ ?_))
    all_goals (exact zzd)
theorem escQ_isB {c : Int} (h0 : 0 ≤ c) (h1 : c ≤ 255) : IsB (escQ c) := by
  have b1 := byteAt_range hexQ (c / 16)
  have b2 := byteAt_range hexQ (c % 16)
  unfold escQ
  split
  · exact isB_cons.2 ⟨by omega, isB_cons.2 ⟨⟨h0, h1⟩, isB_nil⟩⟩
  · split
    · exact isB_cons.2 ⟨by omega, isB_cons.2 ⟨b1, isB_cons.2 ⟨b2, isB_nil⟩⟩⟩
    · exact isB_cons.2 ⟨⟨h0, h1⟩, isB_nil⟩
theorem flat_isB {l : List Int} (h : IsB l) : IsB (l.flatMap escQ) := fun b hb => by
  obtain ⟨c, hc, hb⟩ := List.mem_flatMap.1 hb
  exact escQ_isB (h c hc).1 (h c hc).2 b hb
theorem c_rPrint (k n : Int) (s : ByteArray) (hn : -9223372036854775808 ≤ n ∧ n < 9223372036854775808) (hs : s.size ≤ 1000000) : CallD Tryd.prog 67 [valAV k n s] noHeap (.raw (.string (prtS k n s))) noHeap := by
  have h1 := c_rNum n hn.1 hn.2
  unfold prtS prtL
  by_cases k1 : k = 1
  · subst k1
    rw [if_pos rfl]
    refine zzg (nt := 45) (rs := [.tmp 2]) Tryd.func67 ?_; intro Q hQ hW
    repeat' (first
 | (with_reducible refine run_n ?_; with_reducible first | refine hK _ _ (by simp) ?_ | refine hK _ _ ?_; clear hK K)
 | (refine zzc ?_)
 | (with_reducible refine awp_regT (by kernel_rfl) ?_; intro K hK)
 | (with_reducible refine a_cond (ht := ?_) (hf := ?_) <;> intro hb <;> (try simp at hb) <;> (try contradiction) <;> (try subst hb) <;> (try omega))
 | (with_reducible first | refine a_move (hr:=?_) | refine a_assign (hr:=?_) | refine a_load (hr:=?_) | refine a_fieldAddr (hr:=?_) | refine a_bin (hr:=?_) | refine a_lenS (hr:=?_) | refine a_lenR (hr:=?_) | refine a_pick (hr:=?_) | refine a_box (hr:=?_) | refine a_eqB (hr:=?_) | refine a_neB (hr:=?_) | refine a_eqS (hr:=?_) | refine a_neS (hr:=?_) | refine a_index (hr:=?_) | refine a_call0 (hcall := h1) (hr:=?_) | refine a_gT (hr:=?_) | refine a_gF (hr:=?_) | refine a_gU (hr:=?_))
 | (with_reducible refine a_gB (hT := ?_) (hF := ?_) <;> intro hb <;> (try simp at hb) <;> (try contradiction) <;> (try subst hb) <;> (try omega))
 | fail)
    all_goals ((refine zzr hQ ?_))
    all_goals (exact zzd)
  rw [if_neg k1]
  by_cases k2 : k = 2
  · subst k2
    rw [if_pos rfl]
    have e1 : strOfNums [102, 97, 108, 115, 101] = ⟨#[102, 97, 108, 115, 101]⟩ := rfl
    have e2 : strOfNums [116, 114, 117, 101] = ⟨#[116, 114, 117, 101]⟩ := rfl
    by_cases n0 : n = 0
    · subst n0
      rw [if_pos rfl, e1]
      refine zzg (nt := 45) (rs := [.tmp 2]) Tryd.func67 ?_; intro Q hQ hW
      repeat' (first
 | (with_reducible refine run_n ?_; with_reducible first | refine hK _ _ (by simp) ?_ | refine hK _ _ ?_; clear hK K)
 | (refine zzc ?_)
 | (with_reducible refine awp_regT (by kernel_rfl) ?_; intro K hK)
 | (with_reducible refine a_cond (ht := ?_) (hf := ?_) <;> intro hb <;> (try simp at hb) <;> (try contradiction) <;> (try subst hb) <;> (try omega))
 | (with_reducible first | refine a_move (hr:=?_) | refine a_assign (hr:=?_) | refine a_load (hr:=?_) | refine a_fieldAddr (hr:=?_) | refine a_bin (hr:=?_) | refine a_lenS (hr:=?_) | refine a_lenR (hr:=?_) | refine a_pick (hr:=?_) | refine a_box (hr:=?_) | refine a_eqB (hr:=?_) | refine a_neB (hr:=?_) | refine a_eqS (hr:=?_) | refine a_neS (hr:=?_) | refine a_index (hr:=?_) | refine a_call0 (hcall := h1) (hr:=?_) | refine a_gT (hr:=?_) | refine a_gF (hr:=?_) | refine a_gU (hr:=?_))
 | (with_reducible refine a_gB (hT := ?_) (hF := ?_) <;> intro hb <;> (try simp at hb) <;> (try contradiction) <;> (try subst hb) <;> (try omega))
 | fail)
      all_goals ((refine zzr hQ ?_))
      all_goals (exact zzd)
    · rw [if_neg n0, e2]
      refine zzg (nt := 45) (rs := [.tmp 2]) Tryd.func67 ?_; intro Q hQ hW
      repeat' (first
 | (with_reducible refine run_n ?_; with_reducible first | refine hK _ _ (by simp) ?_ | refine hK _ _ ?_; clear hK K)
 | (refine zzc ?_)
 | (with_reducible refine awp_regT (by kernel_rfl) ?_; intro K hK)
 | (with_reducible refine a_cond (ht := ?_) (hf := ?_) <;> intro hb <;> (try simp at hb) <;> (try contradiction) <;> (try subst hb) <;> (try omega))
 | (with_reducible first | refine a_move (hr:=?_) | refine a_assign (hr:=?_) | refine a_load (hr:=?_) | refine a_fieldAddr (hr:=?_) | refine a_bin (hr:=?_) | refine a_lenS (hr:=?_) | refine a_lenR (hr:=?_) | refine a_pick (hr:=?_) | refine a_box (hr:=?_) | refine a_eqB (hr:=?_) | refine a_neB (hr:=?_) | refine a_eqS (hr:=?_) | refine a_neS (hr:=?_) | refine a_index (hr:=?_) | refine a_call0 (hcall := h1) (hr:=?_) | refine a_gT (hr:=?_) | refine a_gF (hr:=?_) | refine a_gU (hr:=?_))
 | (with_reducible refine a_gB (hT := ?_) (hF := ?_) <;> intro hb <;> (try simp at hb) <;> (try contradiction) <;> (try subst hb) <;> (try omega))
 | fail)
      all_goals ((refine zzr hQ ?_))
      all_goals (exact zzd)
  rw [if_neg k2]
  by_cases k3 : k = 3
  · subst k3
    rw [if_pos rfl]
    have hl := len_bytes s
    have hBs := isB_bytes s
    clear h1
    refine zzg (nt := 45) (rs := [.tmp 2]) Tryd.func67 ?_; intro Q hQ hW
    repeat' (first
 | (with_reducible refine run_n ?_; with_reducible first | refine hK _ _ (by simp) ?_ | refine hK _ _ ?_; clear hK K)
 | (refine zzc ?_)
 | (with_reducible refine awp_regT (by kernel_rfl) ?_; intro K hK)
 | (with_reducible refine a_cond (ht := ?_) (hf := ?_) <;> intro hb <;> (try simp at hb) <;> (try contradiction) <;> (try subst hb) <;> (try omega))
 | (with_reducible first | refine a_move (hr:=?_) | refine a_assign (hr:=?_) | refine a_load (hr:=?_) | refine a_fieldAddr (hr:=?_) | refine a_bin (hr:=?_) | refine a_lenS (hr:=?_) | refine a_lenR (hr:=?_) | refine a_pick (hr:=?_) | refine a_box (hr:=?_) | refine a_eqB (hr:=?_) | refine a_neB (hr:=?_) | refine a_eqS (hr:=?_) | refine a_neS (hr:=?_) | refine a_index (hr:=?_) | refine a_gT (hr:=?_) | refine a_gF (hr:=?_) | refine a_gU (hr:=?_))
 | (with_reducible refine a_gB (hT := ?_) (hF := ?_) <;> intro hb <;> (try simp at hb) <;> (try contradiction) <;> (try subst hb) <;> (try omega))
 | fail)
    refine awp_inv (α := Nat) (fun i => [(1, .ptr 1 0), (3, .raw (.string (strOfNums (34 :: ((bytesOf s).take i).flatMap escQ)))), (31, .raw (.int .i64 s.size)), (32, .raw (.int .i64 i))]) (fun i => hpL [(1, .box (valAV 3 n s))]) (fun i => i ≤ s.size) (fun i => s.size - i) 0 (by simp) (by simp only [List.take_zero, List.flatMap_nil, show strOfNums [34] = ⟨#[34]⟩ from rfl]; exact zzw) ?_
    intro i hi
    have hfl := flat_esc ((bytesOf s).take i)
    rw [List.length_take] at hfl
    have hB : IsB (34 :: ((bytesOf s).take i).flatMap escQ) := isB_cons.2 ⟨by omega, flat_isB (isB_take hBs i)⟩
    have hz := size_of_nums (34 :: ((bytesOf s).take i).flatMap escQ)
    rw [List.length_cons] at hz
    rcases Nat.lt_or_ge i s.size with hlt | hge
    · have hb1 := drop_byte s i hlt
      have ht : (bytesOf s).take (i + 1) = (bytesOf s).take i ++ [byteAt s i] := by
        have e1 := List.take_add (l := bytesOf s) (i := i) (j := 1)
        rw [e1, hb1]; rfl
      have hr := byteAt_range s i
      generalize hby : byteAt s i = c at ht hr
      have q := c_inner c hr.1 hr.2
      have hzc := size_of_nums (escQ c)
      have hlc := escQ_len c
      have ha := nums_app hB (escQ_isB hr.1 hr.2)
      have ht2 : strOfNums (34 :: ((bytesOf s).take (i + 1)).flatMap escQ) = strOfNums (34 :: ((bytesOf s).take i).flatMap escQ) ++ strOfNums (escQ c) := by rw [ha, ht, List.flatMap_append]; simp
      generalize strOfNums (34 :: ((bytesOf s).take i).flatMap escQ) = acc at hz ht2 ⊢
      generalize strOfNums (escQ c) = ec at q hzc ht2
      clear ha hb1 ht hB
      repeat' (first
 | (with_reducible refine run_n ?_; with_reducible first | refine hK _ _ (by simp) ?_ | refine hK _ _ ?_; clear hK K)
 | (refine zzc ?_)
 | (with_reducible refine awp_regT (by kernel_rfl) ?_; intro K hK)
 | (with_reducible refine a_cond (ht := ?_) (hf := ?_) <;> intro hb <;> (try simp at hb) <;> (try contradiction) <;> (try subst hb) <;> (try omega))
 | (with_reducible first | refine a_move (hr:=?_) | refine a_assign (hr:=?_) | refine a_load (hr:=?_) | refine a_fieldAddr (hr:=?_) | refine a_bin (hr:=?_) | refine a_lenS (hr:=?_) | refine a_lenR (hr:=?_) | refine a_pick (hr:=?_) | refine a_box (hr:=?_) | refine a_eqB (hr:=?_) | refine a_neB (hr:=?_) | refine a_eqS (hr:=?_) | refine a_neS (hr:=?_) | refine a_index (hr:=?_) | refine a_call0 (hcall := q) (hr:=?_) | refine a_gT (hr:=?_) | refine a_gF (hr:=?_) | refine a_gU (hr:=?_))
 | (with_reducible refine a_gB (hT := ?_) (hF := ?_) <;> intro hb <;> (try simp at hb) <;> (try contradiction) <;> (try subst hb) <;> (try omega))
 | fail)
      exact ⟨i + 1, by omega, by omega, by rw [ht2]; exact zzw⟩
    · obtain rfl : i = s.size := by omega
      rw [List.take_of_length_le (by omega)] at hz hB hfl ⊢
      have ha := nums_app hB (show IsB [34] from isB_cons.2 ⟨by omega, isB_nil⟩)
      have e : quoQ (bytesOf s) = 34 :: (bytesOf s).flatMap escQ ++ [34] := rfl
      rw [e, ← ha, show strOfNums [34] = ⟨#[34]⟩ from rfl] at hQ
      generalize strOfNums (34 :: (bytesOf s).flatMap escQ) = acc at hz hQ ⊢
      repeat' (first
 | (with_reducible refine run_n ?_; with_reducible first | refine hK _ _ (by simp) ?_ | refine hK _ _ ?_; clear hK K)
 | (refine zzc ?_)
 | (with_reducible refine awp_regT (by kernel_rfl) ?_; intro K hK)
 | (with_reducible refine a_cond (ht := ?_) (hf := ?_) <;> intro hb <;> (try simp at hb) <;> (try contradiction) <;> (try subst hb) <;> (try omega))
 | (with_reducible first | refine a_move (hr:=?_) | refine a_assign (hr:=?_) | refine a_load (hr:=?_) | refine a_fieldAddr (hr:=?_) | refine a_bin (hr:=?_) | refine a_lenS (hr:=?_) | refine a_lenR (hr:=?_) | refine a_pick (hr:=?_) | refine a_box (hr:=?_) | refine a_eqB (hr:=?_) | refine a_neB (hr:=?_) | refine a_eqS (hr:=?_) | refine a_neS (hr:=?_) | refine a_index (hr:=?_) | refine a_gT (hr:=?_) | refine a_gF (hr:=?_) | refine a_gU (hr:=?_))
 | (with_reducible refine a_gB (hT := ?_) (hF := ?_) <;> intro hb <;> (try simp at hb) <;> (try contradiction) <;> (try subst hb) <;> (try omega))
 | fail)
      all_goals ((refine zzr hQ ?_))
      all_goals (exact zzd)
  rw [if_neg k3, show strOfNums [110, 111, 110, 101] = ⟨#[110, 111, 110, 101]⟩ from rfl]
  refine zzg (nt := 45) (rs := [.tmp 2]) Tryd.func67 ?_; intro Q hQ hW
  repeat' (first
 | (with_reducible refine run_n ?_; with_reducible first | refine hK _ _ (by simp) ?_ | refine hK _ _ ?_; clear hK K)
 | (refine zzc ?_)
 | (with_reducible refine awp_regT (by kernel_rfl) ?_; intro K hK)
 | (with_reducible refine a_cond (ht := ?_) (hf := ?_) <;> intro hb <;> (try simp at hb) <;> (try contradiction) <;> (try subst hb) <;> (try omega))
 | (with_reducible first | refine a_move (hr:=?_) | refine a_assign (hr:=?_) | refine a_load (hr:=?_) | refine a_fieldAddr (hr:=?_) | refine a_bin (hr:=?_) | refine a_lenS (hr:=?_) | refine a_lenR (hr:=?_) | refine a_pick (hr:=?_) | refine a_box (hr:=?_) | refine a_eqB (hr:=?_) | refine a_neB (hr:=?_) | refine a_eqS (hr:=?_) | refine a_neS (hr:=?_) | refine a_index (hr:=?_) | refine a_call0 (hcall := h1) (hr:=?_) | refine a_gT (hr:=?_) | refine a_gF (hr:=?_) | refine a_gU (hr:=?_))
 | (with_reducible refine a_gB (hT := ?_) (hF := ?_) <;> intro hb <;> (try simp at hb) <;> (try contradiction) <;> (try subst hb) <;> (try omega))
 | fail)
  all_goals ((refine zzr hQ ?_))
  all_goals (exact zzd)
end Go.Proofs.YtjbbnollidcagaaDoor.Asl

