/- Part 25 of what the row leans on: abstract values and states, their rules, and the contracts of the functions. -/
import Derived.Test.YtjbbnollidcagaaDoorZgc24
namespace Go.Proofs.YtjbbnollidcagaaDoor.Asl
open Go Go.RowKit
set_option linter.unusedVariables false
set_option linter.unusedSimpArgs false
set_option maxRecDepth 100000
set_option maxHeartbeats 4000000
theorem c_VNumber (n : Int) (h0 : -9223372036854775808 ≤ n) (h1 : n < 9223372036854775808) : CallD Tryd.prog 100 [.raw (.int .i64 n)] noHeap (.raw (.string (strOfNums (digs10 n)))) noHeap := by
  obtain ⟨N, hN⟩ : ∃ N : Int, N = if n < 0 then -n else n := ⟨_, rfl⟩
  have hN0 : 0 ≤ N ∧ N ≤ 9223372036854775808 := by split at hN <;> omega
  have hd : digs10 n = if n < 0 then 45 :: nat10 20 N else nat10 20 N := by
    unfold digs10
    split
    · rename_i h; rw [if_pos h] at hN; rw [hN]
    · rename_i h; rw [if_neg h] at hN; rw [hN]
  rw [hd]
  clear hd
  have hz : (u8s (fill [])) = [AV.raw (.int .u8 0), AV.raw (.int .u8 0), AV.raw (.int .u8 0), AV.raw (.int .u8 0), AV.raw (.int .u8 0), AV.raw (.int .u8 0), AV.raw (.int .u8 0), AV.raw (.int .u8 0), AV.raw (.int .u8 0), AV.raw (.int .u8 0), AV.raw (.int .u8 0), AV.raw (.int .u8 0), AV.raw (.int .u8 0), AV.raw (.int .u8 0), AV.raw (.int .u8 0), AV.raw (.int .u8 0), AV.raw (.int .u8 0), AV.raw (.int .u8 0), AV.raw (.int .u8 0), AV.raw (.int .u8 0)] := rfl
  by_cases hneg : n < 0
  · rw [if_pos hneg] at hN ⊢
    have hss : IntKind.wrap .u64 n = n + 18446744073709551616 := by rw [wrap_u64']; omega
    refine zzg (nt := 37) (rs := [.tmp 2]) Tryd.func100 ?_; intro Q hQ hW
    repeat' (first
 | (with_reducible refine run_n ?_; with_reducible first | refine hK _ _ (by simp) ?_ | refine hK _ _ ?_; clear hK K)
 | (refine zzc ?_)
 | (with_reducible refine awp_regT (by kernel_rfl) ?_; intro K hK)
 | (with_reducible refine a_cond (ht := ?_) (hf := ?_) <;> intro hb <;> (try simp at hb) <;> (try contradiction) <;> (try subst hb) <;> (try omega))
 | (with_reducible first | refine a_move (hr:=?_) | refine a_assign (hr:=?_) | refine a_remU (hr:=?_) | refine a_quoU (hr:=?_) | refine a_bin (hr:=?_) | refine a_pick (hr:=?_) | refine a_un (hr:=?_) | refine a_store (hr:=?_) | refine a_alloc (hr:=?_) | refine a_eqB (hr:=?_) | refine a_conv (hr:=?_) | refine a_bytesStr (hr:=?_) | refine a_strBytes (hr:=?_) | refine a_idxArr (hr:=?_) | refine a_sliceArr (hr:=?_) | refine a_eqS (hr:=?_) | refine a_sliceS (hr:=?_) | refine a_sliceR (hr:=?_) | refine a_indexAddr (hr:=?_) | refine a_gT (hr:=?_) | refine a_gF (hr:=?_) | refine a_gU (hr:=?_))
 | (with_reducible refine a_gB (hT := ?_) (hF := ?_) <;> intro hb <;> (try simp at hb) <;> (try contradiction) <;> (try subst hb) <;> (try omega))
 | fail)
    clear hss
    have hss : IntKind.wrap .u64 (-(n + 18446744073709551616)) = N := by rw [wrap_u64']; omega
    repeat' (first
 | (with_reducible refine run_n ?_; with_reducible first | refine hK _ _ (by simp) ?_ | refine hK _ _ ?_; clear hK K)
 | (refine zzc ?_)
 | (with_reducible refine awp_regT (by kernel_rfl) ?_; intro K hK)
 | (with_reducible refine a_cond (ht := ?_) (hf := ?_) <;> intro hb <;> (try simp at hb) <;> (try contradiction) <;> (try subst hb) <;> (try omega))
 | (with_reducible first | refine a_move (hr:=?_) | refine a_assign (hr:=?_) | refine a_remU (hr:=?_) | refine a_quoU (hr:=?_) | refine a_bin (hr:=?_) | refine a_pick (hr:=?_) | refine a_un (hr:=?_) | refine a_store (hr:=?_) | refine a_alloc (hr:=?_) | refine a_eqB (hr:=?_) | refine a_conv (hr:=?_) | refine a_bytesStr (hr:=?_) | refine a_strBytes (hr:=?_) | refine a_idxArr (hr:=?_) | refine a_sliceArr (hr:=?_) | refine a_eqS (hr:=?_) | refine a_sliceS (hr:=?_) | refine a_sliceR (hr:=?_) | refine a_indexAddr (hr:=?_) | refine a_gT (hr:=?_) | refine a_gF (hr:=?_) | refine a_gU (hr:=?_))
 | (with_reducible refine a_gB (hT := ?_) (hF := ?_) <;> intro hb <;> (try simp at hb) <;> (try contradiction) <;> (try subst hb) <;> (try omega))
 | fail)
    refine awp_inv (α := Int × List Int) (fun a => [(0, .raw (.int .i64 n)), (3, .ptr 3 0), (4, .raw (.int .i64 (20 - a.2.length))), (5, .raw (.int .u64 a.1))]) (fun a => hpL [(3, .box (.agg (u8s (fill a.2))))])
      (fun a => 0 ≤ a.1 ∧ a.1 * 10 ^ a.2.length ≤ N ∧ a.2.length ≤ 19 ∧ (if a.2 ≠ [] ∧ a.1 = 0 then a.2 else nat10 (20 - a.2.length) a.1 ++ a.2) = nat10 20 N) (fun a => 20 - a.2.length) (N, []) ⟨hN0.1, by simp, by simp, by simp⟩ (by
        rw [← hz]
        exact zzw) ?_
    rintro ⟨M, s⟩ ⟨g1, g2, g3, g4⟩
    simp only at g1 g2 g3 g4 ⊢
    clear hss
    have hM : M ≤ 9223372036854775808 := by
      have h1 : (1 : Int) ≤ 10 ^ s.length := by
        have := Int.pow_pos (n := 10) (m := s.length) (by decide)
        omega
      have : M * 1 ≤ M * 10 ^ s.length := Int.mul_le_mul_of_nonneg_left h1 g1
      omega
    have hla := fill_len (s := s) (by omega)
    by_cases hst : s ≠ [] ∧ M = 0
    · rw [if_pos hst] at g4
      obtain ⟨hs0, rfl⟩ := hst
      have hsl : s.length ≠ 0 := by simpa using hs0
      rw [← g4] at hQ
      have hdr := fill_drop (s := 45 :: s) (by simp; omega)
      have hset := fill_set (s := s) (by omega) 45
      rw [show 19 - s.length = 20 - s.length - 1 by omega] at hset
      have hla0 := fill_len (s := 45 :: s) (by simp; omega)
      have hla : ((fill s).set (20 - s.length - 1) 45).length = 20 := by rw [hset]; exact hla0
      have htn : (20 - (s.length : Int) - 1).toNat = 20 - s.length - 1 := by omega
      clear hN hz g2 hM g4
      repeat' (first
 | (with_reducible refine run_n ?_; with_reducible first | refine hK _ _ (by simp) ?_ | refine hK _ _ ?_; clear hK K)
 | (refine zzc ?_)
 | (with_reducible refine awp_regT (by kernel_rfl) ?_; intro K hK)
 | (with_reducible refine a_cond (ht := ?_) (hf := ?_) <;> intro hb <;> (try simp at hb) <;> (try contradiction) <;> (try subst hb) <;> (try omega))
 | (with_reducible first | refine a_move (hr:=?_) | refine a_assign (hr:=?_) | refine a_remU (hr:=?_) | refine a_quoU (hr:=?_) | refine a_bin (hr:=?_) | refine a_pick (hr:=?_) | refine a_un (hr:=?_) | refine a_store (hr:=?_) | refine a_alloc (hr:=?_) | refine a_eqB (hr:=?_) | refine a_conv (hr:=?_) | refine a_bytesStr (hr:=?_) | refine a_strBytes (hr:=?_) | refine a_idxArr (hr:=?_) | refine a_sliceArr (hr:=?_) | refine a_eqS (hr:=?_) | refine a_sliceS (hr:=?_) | refine a_sliceR (hr:=?_) | refine a_indexAddr (hr:=?_) | refine a_gT (hr:=?_) | refine a_gF (hr:=?_) | refine a_gU (hr:=?_))
 | (with_reducible refine a_gB (hT := ?_) (hF := ?_) <;> intro hb <;> (try simp at hb) <;> (try contradiction) <;> (try subst hb) <;> (try omega))
 | fail)
      simp only [hset]
      rw [List.length_cons, show 20 - (s.length + 1) = 20 - s.length - 1 by omega] at hdr
      generalize fill (45 :: s) = F at hla0 hdr ⊢
      have htl : 20 - (20 - s.length - 1) = s.length + 1 := by omega
      have hml : 20 - s.length - 1 + (s.length + 1) ≤ 20 := by omega
      clear hset hla
      repeat' (first
 | (with_reducible refine run_n ?_; with_reducible first | refine hK _ _ (by simp) ?_ | refine hK _ _ ?_; clear hK K)
 | (refine zzc ?_)
 | (with_reducible refine awp_regT (by kernel_rfl) ?_; intro K hK)
 | (with_reducible refine a_cond (ht := ?_) (hf := ?_) <;> intro hb <;> (try simp at hb) <;> (try contradiction) <;> (try subst hb) <;> (try omega))
 | (with_reducible first | refine a_move (hr:=?_) | refine a_assign (hr:=?_) | refine a_remU (hr:=?_) | refine a_quoU (hr:=?_) | refine a_bin (hr:=?_) | refine a_pick (hr:=?_) | refine a_un (hr:=?_) | refine a_store (hr:=?_) | refine a_alloc (hr:=?_) | refine a_eqB (hr:=?_) | refine a_conv (hr:=?_) | refine a_bytesStr (hr:=?_) | refine a_strBytes (hr:=?_) | refine a_idxArr (hr:=?_) | refine a_sliceArr (hr:=?_) | refine a_eqS (hr:=?_) | refine a_sliceS (hr:=?_) | refine a_sliceR (hr:=?_) | refine a_indexAddr (hr:=?_) | refine a_gT (hr:=?_) | refine a_gF (hr:=?_) | refine a_gU (hr:=?_))
 | (with_reducible refine a_gB (hT := ?_) (hF := ?_) <;> intro hb <;> (try simp at hb) <;> (try contradiction) <;> (try subst hb) <;> (try omega))
 | fail)
      (refine zzr hQ ?_)
      exact zzd
    · rw [if_neg hst] at g4
      obtain ⟨q, hq⟩ : ∃ q, M / 10 = q := ⟨_, rfl⟩
      obtain ⟨d, hd⟩ : ∃ d, M % 10 = d := ⟨_, rfl⟩
      have hM2 : M = 10 * q + d := by omega
      have hd2 : 0 ≤ d ∧ d < 10 := by omega
      have hq2 : 0 ≤ q := by omega
      have hset := fill_set (s := s) (by omega) (48 + d)
      rw [show 19 - s.length = 20 - s.length - 1 by omega] at hset
      have hlen : s.length ≤ 18 := by
        rcases Nat.lt_or_ge s.length 19 with h | h
        · omega
        · have h19 : s.length = 19 := by omega
          rw [h19, pow10] at g2
          exact absurd ⟨fun e => by simp [e] at h19, by omega⟩ hst
      have hnx : (if (48 + d) :: s ≠ [] ∧ q = 0 then (48 + d) :: s else nat10 (20 - ((48 + d) :: s).length) q ++ (48 + d) :: s) = nat10 20 N := by
        rw [← g4, show 20 - s.length = (19 - s.length) + 1 by omega, nat10]
        by_cases hq0 : q = 0
        · rw [if_pos ⟨by simp, hq0⟩, if_pos (by omega), show M = d by omega]; simp
        · rw [if_neg (fun h => hq0 h.2), if_neg (by omega), hq, hd, List.length_cons, show 20 - (s.length + 1) = 19 - s.length by omega]; simp
      have hpw : q * 10 ^ (s.length + 1) ≤ N := by
        rw [Int.pow_succ, Int.mul_comm (10 ^ s.length) 10, ← Int.mul_assoc]
        have h1 : (0 : Int) ≤ 10 ^ s.length := Int.le_of_lt (Int.pow_pos (by decide))
        have : q * 10 * 10 ^ s.length ≤ M * 10 ^ s.length := Int.mul_le_mul_of_nonneg_right (by omega) h1
        omega
      have hgo : (s.length : Int) = 0 ∨ ¬ M = 0 := by
        by_cases e : s = []
        · left; simp [e]
        · right; exact fun h => hst ⟨e, h⟩
      clear g4 hst g2
      repeat' (first
 | (with_reducible refine run_n ?_; with_reducible first | refine hK _ _ (by simp) ?_ | refine hK _ _ ?_; clear hK K)
 | (refine zzc ?_)
 | (with_reducible refine awp_regT (by kernel_rfl) ?_; intro K hK)
 | (with_reducible refine a_cond (ht := ?_) (hf := ?_) <;> intro hb <;> (try simp at hb) <;> (try contradiction) <;> (try subst hb) <;> (try omega))
 | (with_reducible first | refine a_move (hr:=?_) | refine a_assign (hr:=?_) | refine a_remU (hr:=?_) | refine a_quoU (hr:=?_) | refine a_bin (hr:=?_) | refine a_pick (hr:=?_) | refine a_un (hr:=?_) | refine a_store (hr:=?_) | refine a_alloc (hr:=?_) | refine a_eqB (hr:=?_) | refine a_conv (hr:=?_) | refine a_bytesStr (hr:=?_) | refine a_strBytes (hr:=?_) | refine a_idxArr (hr:=?_) | refine a_sliceArr (hr:=?_) | refine a_eqS (hr:=?_) | refine a_sliceS (hr:=?_) | refine a_sliceR (hr:=?_) | refine a_indexAddr (hr:=?_) | refine a_gT (hr:=?_) | refine a_gF (hr:=?_) | refine a_gU (hr:=?_))
 | (with_reducible refine a_gB (hT := ?_) (hF := ?_) <;> intro hb <;> (try simp at hb) <;> (try contradiction) <;> (try subst hb) <;> (try omega))
 | fail)
      all_goals first
        | (exfalso; omega)
        | exact ⟨(q, (48 + d) :: s), by simp; omega, ⟨hq2, hpw, by simp; omega, hnx⟩, weak_o (by rw [hd, hset]; repeat' (first | refine sub_ohp (by first | (simp; done) | (intro hne; simp at hne; simp [hne])) (by simp) ?_ | exact sub_hpL (by simp))) (by simp) (by simp [hd, hq]; omega)⟩
  · rw [if_neg hneg] at hN ⊢
    refine zzg (nt := 37) (rs := [.tmp 2]) Tryd.func100 ?_; intro Q hQ hW
    repeat' (first
 | (with_reducible refine run_n ?_; with_reducible first | refine hK _ _ (by simp) ?_ | refine hK _ _ ?_; clear hK K)
 | (refine zzc ?_)
 | (with_reducible refine awp_regT (by kernel_rfl) ?_; intro K hK)
 | (with_reducible refine a_cond (ht := ?_) (hf := ?_) <;> intro hb <;> (try simp at hb) <;> (try contradiction) <;> (try subst hb) <;> (try omega))
 | (with_reducible first | refine a_move (hr:=?_) | refine a_assign (hr:=?_) | refine a_remU (hr:=?_) | refine a_quoU (hr:=?_) | refine a_bin (hr:=?_) | refine a_pick (hr:=?_) | refine a_un (hr:=?_) | refine a_store (hr:=?_) | refine a_alloc (hr:=?_) | refine a_eqB (hr:=?_) | refine a_conv (hr:=?_) | refine a_bytesStr (hr:=?_) | refine a_strBytes (hr:=?_) | refine a_idxArr (hr:=?_) | refine a_sliceArr (hr:=?_) | refine a_eqS (hr:=?_) | refine a_sliceS (hr:=?_) | refine a_sliceR (hr:=?_) | refine a_indexAddr (hr:=?_) | refine a_gT (hr:=?_) | refine a_gF (hr:=?_) | refine a_gU (hr:=?_))
 | (with_reducible refine a_gB (hT := ?_) (hF := ?_) <;> intro hb <;> (try simp at hb) <;> (try contradiction) <;> (try subst hb) <;> (try omega))
 | fail)
    refine awp_inv (α := Int × List Int) (fun a => [(0, .raw (.int .i64 n)), (3, .ptr 3 0), (4, .raw (.int .i64 (20 - a.2.length))), (5, .raw (.int .u64 a.1))]) (fun a => hpL [(3, .box (.agg (u8s (fill a.2))))])
      (fun a => 0 ≤ a.1 ∧ a.1 * 10 ^ a.2.length ≤ N ∧ a.2.length ≤ 19 ∧ (if a.2 ≠ [] ∧ a.1 = 0 then a.2 else nat10 (20 - a.2.length) a.1 ++ a.2) = nat10 20 N) (fun a => 20 - a.2.length) (N, []) ⟨hN0.1, by simp, by simp, by simp⟩ (by
        rw [← hz]
        exact zzw) ?_
    rintro ⟨M, s⟩ ⟨g1, g2, g3, g4⟩
    simp only at g1 g2 g3 g4 ⊢
    have hM : M ≤ 9223372036854775808 := by
      have h1 : (1 : Int) ≤ 10 ^ s.length := by
        have := Int.pow_pos (n := 10) (m := s.length) (by decide)
        omega
      have : M * 1 ≤ M * 10 ^ s.length := Int.mul_le_mul_of_nonneg_left h1 g1
      omega
    have hla := fill_len (s := s) (by omega)
    by_cases hst : s ≠ [] ∧ M = 0
    · rw [if_pos hst] at g4
      obtain ⟨hs0, rfl⟩ := hst
      have hsl : s.length ≠ 0 := by simpa using hs0
      rw [← g4] at hQ
      have hdr := fill_drop (s := s) (by omega)
      have htn : (20 - (s.length : Int)).toNat = 20 - s.length := by omega
      have htl : 20 - (20 - s.length) = s.length := by omega
      generalize fill s = F at hla hdr ⊢
      have hdl : F.drop (20 - s.length) = s := hdr
      have hml : (20 - s.length) + s.length ≤ 20 := by omega
      clear hN hz g2 hM g4
      repeat' (first
 | (with_reducible refine run_n ?_; with_reducible first | refine hK _ _ (by simp) ?_ | refine hK _ _ ?_; clear hK K)
 | (refine zzc ?_)
 | (with_reducible refine awp_regT (by kernel_rfl) ?_; intro K hK)
 | (with_reducible refine a_cond (ht := ?_) (hf := ?_) <;> intro hb <;> (try simp at hb) <;> (try contradiction) <;> (try subst hb) <;> (try omega))
 | (with_reducible first | refine a_move (hr:=?_) | refine a_assign (hr:=?_) | refine a_remU (hr:=?_) | refine a_quoU (hr:=?_) | refine a_bin (hr:=?_) | refine a_pick (hr:=?_) | refine a_un (hr:=?_) | refine a_store (hr:=?_) | refine a_alloc (hr:=?_) | refine a_eqB (hr:=?_) | refine a_conv (hr:=?_) | refine a_bytesStr (hr:=?_) | refine a_strBytes (hr:=?_) | refine a_idxArr (hr:=?_) | refine a_sliceArr (hr:=?_) | refine a_eqS (hr:=?_) | refine a_sliceS (hr:=?_) | refine a_sliceR (hr:=?_) | refine a_indexAddr (hr:=?_) | refine a_gT (hr:=?_) | refine a_gF (hr:=?_) | refine a_gU (hr:=?_))
 | (with_reducible refine a_gB (hT := ?_) (hF := ?_) <;> intro hb <;> (try simp at hb) <;> (try contradiction) <;> (try subst hb) <;> (try omega))
 | fail)
      (refine zzr hQ ?_)
      exact zzd
    · rw [if_neg hst] at g4
      obtain ⟨q, hq⟩ : ∃ q, M / 10 = q := ⟨_, rfl⟩
      obtain ⟨d, hd⟩ : ∃ d, M % 10 = d := ⟨_, rfl⟩
      have hM2 : M = 10 * q + d := by omega
      have hd2 : 0 ≤ d ∧ d < 10 := by omega
      have hq2 : 0 ≤ q := by omega
      have hset := fill_set (s := s) (by omega) (48 + d)
      rw [show 19 - s.length = 20 - s.length - 1 by omega] at hset
      have hlen : s.length ≤ 18 := by
        rcases Nat.lt_or_ge s.length 19 with h | h
        · omega
        · have h19 : s.length = 19 := by omega
          rw [h19, pow10] at g2
          exact absurd ⟨fun e => by simp [e] at h19, by omega⟩ hst
      have hnx : (if (48 + d) :: s ≠ [] ∧ q = 0 then (48 + d) :: s else nat10 (20 - ((48 + d) :: s).length) q ++ (48 + d) :: s) = nat10 20 N := by
        rw [← g4, show 20 - s.length = (19 - s.length) + 1 by omega, nat10]
        by_cases hq0 : q = 0
        · rw [if_pos ⟨by simp, hq0⟩, if_pos (by omega), show M = d by omega]; simp
        · rw [if_neg (fun h => hq0 h.2), if_neg (by omega), hq, hd, List.length_cons, show 20 - (s.length + 1) = 19 - s.length by omega]; simp
      have hpw : q * 10 ^ (s.length + 1) ≤ N := by
        rw [Int.pow_succ, Int.mul_comm (10 ^ s.length) 10, ← Int.mul_assoc]
        have h1 : (0 : Int) ≤ 10 ^ s.length := Int.le_of_lt (Int.pow_pos (by decide))
        have : q * 10 * 10 ^ s.length ≤ M * 10 ^ s.length := Int.mul_le_mul_of_nonneg_right (by omega) h1
        omega
      have hgo : (s.length : Int) = 0 ∨ ¬ M = 0 := by
        by_cases e : s = []
        · left; simp [e]
        · right; exact fun h => hst ⟨e, h⟩
      clear g4 hst g2
      repeat' (first
 | (with_reducible refine run_n ?_; with_reducible first | refine hK _ _ (by simp) ?_ | refine hK _ _ ?_; clear hK K)
 | (refine zzc ?_)
 | (with_reducible refine awp_regT (by kernel_rfl) ?_; intro K hK)
 | (with_reducible refine a_cond (ht := ?_) (hf := ?_) <;> intro hb <;> (try simp at hb) <;> (try contradiction) <;> (try subst hb) <;> (try omega))
 | (with_reducible first | refine a_move (hr:=?_) | refine a_assign (hr:=?_) | refine a_remU (hr:=?_) | refine a_quoU (hr:=?_) | refine a_bin (hr:=?_) | refine a_pick (hr:=?_) | refine a_un (hr:=?_) | refine a_store (hr:=?_) | refine a_alloc (hr:=?_) | refine a_eqB (hr:=?_) | refine a_conv (hr:=?_) | refine a_bytesStr (hr:=?_) | refine a_strBytes (hr:=?_) | refine a_idxArr (hr:=?_) | refine a_sliceArr (hr:=?_) | refine a_eqS (hr:=?_) | refine a_sliceS (hr:=?_) | refine a_sliceR (hr:=?_) | refine a_indexAddr (hr:=?_) | refine a_gT (hr:=?_) | refine a_gF (hr:=?_) | refine a_gU (hr:=?_))
 | (with_reducible refine a_gB (hT := ?_) (hF := ?_) <;> intro hb <;> (try simp at hb) <;> (try contradiction) <;> (try subst hb) <;> (try omega))
 | fail)
      all_goals first
        | (exfalso; omega)
        | exact ⟨(q, (48 + d) :: s), by simp; omega, ⟨hq2, hpw, by simp; omega, hnx⟩, weak_o (by rw [hd, hset]; repeat' (first | refine sub_ohp (by first | (simp; done) | (intro hne; simp at hne; simp [hne])) (by simp) ?_ | exact sub_hpL (by simp))) (by simp) (by simp [hd, hq]; omega)⟩
/-- Texts between quotes. -/
abbrev hexQ : ByteArray := ⟨#[48, 49, 50, 51, 52, 53, 54, 55, 56, 57, 97, 98, 99, 100, 101, 102]⟩
def escQ (c : Int) : List Int := if c = 34 ∨ c = 92 then [92, c] else if c < 32 ∨ 126 < c then [92, byteAt hexQ (c / 16), byteAt hexQ (c % 16)] else [c]
def quoQ (l : List Int) : List Int := 34 :: (l.flatMap escQ ++ [34])
theorem escQ_len (c : Int) : (escQ c).length ≤ 3 := by
  unfold escQ
  split
  · simp
  · split <;> simp
theorem u8s_one (x : Int) : [AV.raw (.int .u8 x)] = u8s [x] := rfl
theorem u8s_app3 (l : List Int) (x y z : Int) : u8s l ++ [.raw (.int .u8 x), .raw (.int .u8 y), .raw (.int .u8 z)] = u8s (l ++ [x, y, z]) := by simp [u8s]
theorem flat_esc (l : List Int) : (l.flatMap escQ).length ≤ 3 * l.length := by
  induction l with
  | nil => simp
  | cons c l ih => have := escQ_len c; rw [List.flatMap_cons, List.length_append, List.length_cons]; omega
theorem u8_and15 {c : Int} (h0 : 0 ≤ c) (h1 : c ≤ 255) : andI .u8 c 15 = c % 16 := by
  have : ∀ n : _root_.Fin 256, andI .u8 (n.val : Int) 15 = (n.val : Int) % 16 := by decide +kernel
  obtain ⟨m, rfl⟩ := Int.eq_ofNat_of_zero_le h0
  exact this ⟨m, by omega⟩
theorem u8_shr4 {c : Int} (h0 : 0 ≤ c) (h1 : c ≤ 255) : shrI .u8 c 4 = c / 16 := by
  have : ∀ n : _root_.Fin 256, shrI .u8 (n.val : Int) 4 = (n.val : Int) / 16 := by decide +kernel
  obtain ⟨m, rfl⟩ := Int.eq_ofNat_of_zero_le h0
  exact this ⟨m, by omega⟩
attribute [local simp] u8s_app3
theorem c_quote (s : ByteArray) (hs : s.size ≤ 1000000) : CallD Tryd.prog 101 [.raw (.string s)] noHeap (.raw (.string (strOfNums (quoQ (bytesOf s))))) noHeap := by
  have hl := len_bytes s
  refine zzg (nt := 51) (rs := [.tmp 2]) Tryd.func101 ?_; intro Q hQ hW
  repeat' (first
 | (with_reducible refine run_n ?_; with_reducible first | refine hK _ _ (by simp) ?_ | refine hK _ _ ?_; clear hK K)
 | (refine zzc ?_)
 | (with_reducible refine awp_regT (by kernel_rfl) ?_; intro K hK)
 | (with_reducible refine awp_regAM (id := 10) [] mixed (by kernel_rfl) (by kernel_rfl) ?_; intro K hK)
 | (with_reducible refine a_cond (ht := ?_) (hf := ?_) <;> intro hb <;> (try simp at hb) <;> (try contradiction) <;> (try subst hb) <;> (try omega))
 | (with_reducible first | refine a_move (hr:=?_) | refine a_assign (hr:=?_) | refine a_and (hr:=?_) | refine a_shr (hr:=?_) | refine a_bin (hr:=?_) | refine a_lenS (hr:=?_) | refine a_lenR (hr:=?_) | refine a_pick (hr:=?_) | refine a_eqB (hr:=?_) | refine a_conv (hr:=?_) | refine a_bytesStr (hr:=?_) | refine a_strBytes (hr:=?_) | refine a_eqS (hr:=?_) | refine a_index (hr:=?_) | refine a_buildSlice (hr:=?_) | refine a_append (hr:=?_) | refine a_append0 (hr:=?_) | refine a_appendX (hr:=?_) | refine a_gT (hr:=?_) | refine a_gF (hr:=?_) | refine a_gU (hr:=?_))
 | (with_reducible refine a_gB (hT := ?_) (hF := ?_) <;> intro hb <;> (try simp at hb) <;> (try contradiction) <;> (try subst hb) <;> (try omega))
 | fail)
  refine awp_inv (α := Nat) (fun i => [(0, .raw (.string s)), (3, .ow 60 1 0 (34 :: ((bytesOf s).take i).flatMap escQ).length), (8, .raw (.int .i64 s.size)), (9, .raw (.int .i64 i))]) (fun i => hpL [(60, .arr 1 (u8s (34 :: ((bytesOf s).take i).flatMap escQ)))]) (fun i => i ≤ s.size) (fun i => s.size - i) 0 (by simp) (by simp only [List.take_zero, List.flatMap_nil, ← u8s_one]; exact zzx 60 6) ?_
  intro i hi
  have hfl := flat_esc ((bytesOf s).take i)
  rw [List.length_take] at hfl
  rcases Nat.lt_or_ge i s.size with hlt | hge
  · have hb1 := drop_byte s i hlt
    have ht : (bytesOf s).take (i + 1) = (bytesOf s).take i ++ [byteAt s i] := by
      have e1 := List.take_add (l := bytesOf s) (i := i) (j := 1)
      rw [e1, hb1]; rfl
    have hr := byteAt_range s i
    generalize hby : byteAt s i = c at ht hr
    have ht2 : 34 :: ((bytesOf s).take (i + 1)).flatMap escQ = 34 :: (((bytesOf s).take i).flatMap escQ ++ escQ c) := by rw [ht, List.flatMap_append]; simp
    generalize ((bytesOf s).take i).flatMap escQ = acc at ht2 hfl ⊢
    have hE : escQ c = if c = 34 ∨ c = 92 then [92, c] else if c < 32 ∨ 126 < c then [92, byteAt hexQ (c / 16), byteAt hexQ (c % 16)] else [c] := rfl
    clear hb1 ht
    have q1 : shrI .u8 c 4 = c / 16 := u8_shr4 hr.1 hr.2
    have q2 : andI .u8 c 15 = c % 16 := u8_and15 hr.1 hr.2
    by_cases h1 : c = 34 ∨ c = 92
    · rw [if_pos h1] at hE
      rw [hE] at ht2
      repeat' (first
 | (with_reducible refine run_n ?_; with_reducible first | refine hK _ _ (by simp) ?_ | refine hK _ _ ?_; clear hK K)
 | (refine zzc ?_)
 | (with_reducible refine awp_regT (by kernel_rfl) ?_; intro K hK)
 | (with_reducible refine awp_regAM (id := 10) [] mixed (by kernel_rfl) (by kernel_rfl) ?_; intro K hK)
 | (with_reducible refine a_cond (ht := ?_) (hf := ?_) <;> intro hb <;> (try simp at hb) <;> (try contradiction) <;> (try subst hb) <;> (try omega))
 | (with_reducible first | refine a_move (hr:=?_) | refine a_assign (hr:=?_) | refine a_and (hr:=?_) | refine a_shr (hr:=?_) | refine a_bin (hr:=?_) | refine a_lenS (hr:=?_) | refine a_lenR (hr:=?_) | refine a_pick (hr:=?_) | refine a_eqB (hr:=?_) | refine a_conv (hr:=?_) | refine a_bytesStr (hr:=?_) | refine a_strBytes (hr:=?_) | refine a_eqS (hr:=?_) | refine a_index (hr:=?_) | refine a_buildSlice (hr:=?_) | refine a_append (hr:=?_) | refine a_append0 (hr:=?_) | refine a_appendX (hr:=?_) | refine a_gT (hr:=?_) | refine a_gF (hr:=?_) | refine a_gU (hr:=?_))
 | (with_reducible refine a_gB (hT := ?_) (hF := ?_) <;> intro hb <;> (try simp at hb) <;> (try contradiction) <;> (try subst hb) <;> (try omega))
 | fail)
      all_goals first
        | (exfalso; omega)
        | exact ⟨i + 1, by omega, by omega, by rw [ht2, ← List.cons_append]; exact zzx 60 29⟩
    · rw [if_neg h1] at hE
      by_cases h2 : c < 32 ∨ 126 < c
      · rw [if_pos h2] at hE
        rw [hE] at ht2
        repeat' (first
 | (with_reducible refine run_n ?_; with_reducible first | refine hK _ _ (by simp) ?_ | refine hK _ _ ?_; clear hK K)
 | (refine zzc ?_)
 | (with_reducible refine awp_regT (by kernel_rfl) ?_; intro K hK)
 | (with_reducible refine awp_regAM (id := 10) [] mixed (by kernel_rfl) (by kernel_rfl) ?_; intro K hK)
 | (with_reducible refine a_cond (ht := ?_) (hf := ?_) <;> intro hb <;> (try simp at hb) <;> (try contradiction) <;> (try subst hb) <;> (try omega))
 | (with_reducible first | refine a_move (hr:=?_) | refine a_assign (hr:=?_) | refine a_and (hr:=?_) | refine a_shr (hr:=?_) | refine a_bin (hr:=?_) | refine a_lenS (hr:=?_) | refine a_lenR (hr:=?_) | refine a_pick (hr:=?_) | refine a_eqB (hr:=?_) | refine a_conv (hr:=?_) | refine a_bytesStr (hr:=?_) | refine a_strBytes (hr:=?_) | refine a_eqS (hr:=?_) | refine a_index (hr:=?_) | refine a_buildSlice (hr:=?_) | refine a_append (hr:=?_) | refine a_append0 (hr:=?_) | refine a_appendX (hr:=?_) | refine a_gT (hr:=?_) | refine a_gF (hr:=?_) | refine a_gU (hr:=?_))
 | (with_reducible refine a_gB (hT := ?_) (hF := ?_) <;> intro hb <;> (try simp at hb) <;> (try contradiction) <;> (try subst hb) <;> (try omega))
 | fail)
        all_goals first
          | (exfalso; omega)
          | exact ⟨i + 1, by omega, by omega, by rw [ht2, ← List.cons_append, ← q1, ← q2]; exact zzx 60 45⟩
      · rw [if_neg h2] at hE
        rw [hE] at ht2
        repeat' (first
 | (with_reducible refine run_n ?_; with_reducible first | refine hK _ _ (by simp) ?_ | refine hK _ _ ?_; clear hK K)
 | (refine zzc ?_)
 | (with_reducible refine awp_regT (by kernel_rfl) ?_; intro K hK)
 | (with_reducible refine awp_regAM (id := 10) [] mixed (by kernel_rfl) (by kernel_rfl) ?_; intro K hK)
 | (with_reducible refine a_cond (ht := ?_) (hf := ?_) <;> intro hb <;> (try simp at hb) <;> (try contradiction) <;> (try subst hb) <;> (try omega))
 | (with_reducible first | refine a_move (hr:=?_) | refine a_assign (hr:=?_) | refine a_and (hr:=?_) | refine a_shr (hr:=?_) | refine a_bin (hr:=?_) | refine a_lenS (hr:=?_) | refine a_lenR (hr:=?_) | refine a_pick (hr:=?_) | refine a_eqB (hr:=?_) | refine a_conv (hr:=?_) | refine a_bytesStr (hr:=?_) | refine a_strBytes (hr:=?_) | refine a_eqS (hr:=?_) | refine a_index (hr:=?_) | refine a_buildSlice (hr:=?_) | refine a_append (hr:=?_) | refine a_append0 (hr:=?_) | refine a_appendX (hr:=?_) | refine a_gT (hr:=?_) | refine a_gF (hr:=?_) | refine a_gU (hr:=?_))
 | (with_reducible refine a_gB (hT := ?_) (hF := ?_) <;> intro hb <;> (try simp at hb) <;> (try contradiction) <;> (try subst hb) <;> (try omega))
 | fail)
        all_goals first
          | (exfalso; omega)
          | exact ⟨i + 1, by omega, by omega, by rw [ht2, ← List.cons_append]; exact zzx 60 18⟩
  · obtain rfl : i = s.size := by omega
    rw [List.take_of_length_le (by omega)] at hfl ⊢
    unfold quoQ at hQ
    generalize (bytesOf s).flatMap escQ = acc at hQ hfl ⊢
    have e1 : strOfNums (34 :: (acc ++ [34])) = ⟨(34 :: (List.map (fun n : Int => UInt8.ofNat n.toNat) acc ++ [34])).toArray⟩ := by simp [strOfNums]
    rw [e1] at hQ
    repeat' (first
 | (with_reducible refine run_n ?_; with_reducible first | refine hK _ _ (by simp) ?_ | refine hK _ _ ?_; clear hK K)
 | (refine zzc ?_)
 | (with_reducible refine awp_regT (by kernel_rfl) ?_; intro K hK)
 | (with_reducible refine awp_regAM (id := 10) [] mixed (by kernel_rfl) (by kernel_rfl) ?_; intro K hK)
 | (with_reducible refine a_cond (ht := ?_) (hf := ?_) <;> intro hb <;> (try simp at hb) <;> (try contradiction) <;> (try subst hb) <;> (try omega))
 | (with_reducible first | refine a_move (hr:=?_) | refine a_assign (hr:=?_) | refine a_and (hr:=?_) | refine a_shr (hr:=?_) | refine a_bin (hr:=?_) | refine a_lenS (hr:=?_) | refine a_lenR (hr:=?_) | refine a_pick (hr:=?_) | refine a_eqB (hr:=?_) | refine a_conv (hr:=?_) | refine a_bytesStr (hr:=?_) | refine a_strBytes (hr:=?_) | refine a_eqS (hr:=?_) | refine a_index (hr:=?_) | refine a_buildSlice (hr:=?_) | refine a_append (hr:=?_) | refine a_append0 (hr:=?_) | refine a_appendX (hr:=?_) | refine a_gT (hr:=?_) | refine a_gF (hr:=?_) | refine a_gU (hr:=?_))
 | (with_reducible refine a_gB (hT := ?_) (hF := ?_) <;> intro hb <;> (try simp at hb) <;> (try contradiction) <;> (try subst hb) <;> (try omega))
 | fail)
    all_goals ((refine zzr hQ ?_))
    all_goals (exact zzd)
/-- A value as a text. -/
def prtL (k n : Int) (s : ByteArray) : List Int := if k = 1 then digs10 n else if k = 2 then (if n = 0 then [102, 97, 108, 115, 101] else [116, 114, 117, 101]) else if k = 3 then quoQ (bytesOf s) else [110, 111, 110, 101]
def prtS (k n : Int) (s : ByteArray) : ByteArray := strOfNums (prtL k n s)
theorem c_Print (k n : Int) (s : ByteArray) (hn : -9223372036854775808 ≤ n ∧ n < 9223372036854775808) (hs : s.size ≤ 1000000) : CallD Tryd.prog 96 [valAV k n s] noHeap (.raw (.string (prtS k n s))) noHeap := by
  have h1 := c_VNumber n hn.1 hn.2
  have h2 := c_quote s hs
  unfold prtS prtL
  by_cases k1 : k = 1
  · subst k1
    rw [if_pos rfl]
    refine zzg (nt := 20) (rs := [.tmp 2]) Tryd.func96 ?_; intro Q hQ hW
    repeat' (first
 | (with_reducible refine run_n ?_; with_reducible first | refine hK _ _ (by simp) ?_ | refine hK _ _ ?_; clear hK K)
 | (refine zzc ?_)
 | (with_reducible refine awp_regT (by kernel_rfl) ?_; intro K hK)
 | (with_reducible refine a_cond (ht := ?_) (hf := ?_) <;> intro hb <;> (try simp at hb) <;> (try contradiction) <;> (try subst hb) <;> (try omega))
 | (with_reducible first | refine a_assign (hr:=?_) | refine a_load (hr:=?_) | refine a_fieldAddr (hr:=?_) | refine a_bin (hr:=?_) | refine a_box (hr:=?_) | refine a_eqB (hr:=?_) | refine a_neB (hr:=?_) | refine a_eqS (hr:=?_) | refine a_neS (hr:=?_) | refine a_call0 (hcall := h1) (hr:=?_) | refine a_call0 (hcall := h2) (hr:=?_))
 | fail)
    all_goals ((refine zzr hQ ?_))
    all_goals (exact zzd)
  rw [if_neg k1]
  by_cases k2 : k = 2
  · subst k2
    rw [if_pos rfl]
    have e1 : strOfNums [102, 97, 108, 115, 101] = ⟨#[102, 97, 108, 115, 101]⟩ := rfl
    have e2 : strOfNums [116, 114, 117, 101] = ⟨#[116, 114, 117, 101]⟩ := rfl
    by_cases n0 : n = 0
    · subst n0
      rw [if_pos rfl, e1]
      refine zzg (nt := 20) (rs := [.tmp 2]) Tryd.func96 ?_; intro Q hQ hW
      repeat' (first
 | (with_reducible refine run_n ?_; with_reducible first | refine hK _ _ (by simp) ?_ | refine hK _ _ ?_; clear hK K)
 | (refine zzc ?_)
 | (with_reducible refine awp_regT (by kernel_rfl) ?_; intro K hK)
 | (with_reducible refine a_cond (ht := ?_) (hf := ?_) <;> intro hb <;> (try simp at hb) <;> (try contradiction) <;> (try subst hb) <;> (try omega))
 | (with_reducible first | refine a_assign (hr:=?_) | refine a_load (hr:=?_) | refine a_fieldAddr (hr:=?_) | refine a_bin (hr:=?_) | refine a_box (hr:=?_) | refine a_eqB (hr:=?_) | refine a_neB (hr:=?_) | refine a_eqS (hr:=?_) | refine a_neS (hr:=?_) | refine a_call0 (hcall := h1) (hr:=?_) | refine a_call0 (hcall := h2) (hr:=?_))
 | fail)
      all_goals ((refine zzr hQ ?_))
      all_goals (exact zzd)
    · rw [if_neg n0, e2]
      refine zzg (nt := 20) (rs := [.tmp 2]) Tryd.func96 ?_; intro Q hQ hW
      repeat' (first
 | (with_reducible refine run_n ?_; with_reducible first | refine hK _ _ (by simp) ?_ | refine hK _ _ ?_; clear hK K)
 | (refine zzc ?_)
 | (with_reducible refine awp_regT (by kernel_rfl) ?_; intro K hK)
 | (with_reducible refine a_cond (ht := ?_) (hf := ?_) <;> intro hb <;> (try simp at hb) <;> (try contradiction) <;> (try subst hb) <;> (try omega))
 | (with_reducible first | refine a_assign (hr:=?_) | refine a_load (hr:=?_) | refine a_fieldAddr (hr:=?_) | refine a_bin (hr:=?_) | refine a_box (hr:=?_) | refine a_eqB (hr:=?_) | refine a_neB (hr:=?_) | refine a_eqS (hr:=?_) | refine a_neS (hr:=?_) | refine a_call0 (hcall := h1) (hr:=?_) | refine a_call0 (hcall := h2) (hr:=?_))
 | fail)
      all_goals ((refine zzr hQ ?_))
      all_goals (exact zzd)
  rw [if_neg k2]
  by_cases k3 : k = 3
  · subst k3
    rw [if_pos rfl]
    refine zzg (nt := 20) (rs := [.tmp 2]) Tryd.func96 ?_; intro Q hQ hW
    repeat' (first
 | (with_reducible refine run_n ?_; with_reducible first | refine hK _ _ (by simp) ?_ | refine hK _ _ ?_; clear hK K)
 | (refine zzc ?_)
 | (with_reducible refine awp_regT (by kernel_rfl) ?_; intro K hK)
 | (with_reducible refine a_cond (ht := ?_) (hf := ?_) <;> intro hb <;> (try simp at hb) <;> (try contradiction) <;> (try subst hb) <;> (try omega))
 | (with_reducible first | refine a_assign (hr:=?_) | refine a_load (hr:=?_) | refine a_fieldAddr (hr:=?_) | refine a_bin (hr:=?_) | refine a_box (hr:=?_) | refine a_eqB (hr:=?_) | refine a_neB (hr:=?_) | refine a_eqS (hr:=?_) | refine a_neS (hr:=?_) | refine a_call0 (hcall := h1) (hr:=?_) | refine a_call0 (hcall := h2) (hr:=?_))
 | fail)
    all_goals ((refine zzr hQ ?_))
    all_goals (exact zzd)
  rw [if_neg k3, show strOfNums [110, 111, 110, 101] = ⟨#[110, 111, 110, 101]⟩ from rfl]
  refine zzg (nt := 20) (rs := [.tmp 2]) Tryd.func96 ?_; intro Q hQ hW
  repeat' (first
 | (with_reducible refine run_n ?_; with_reducible first | refine hK _ _ (by simp) ?_ | refine hK _ _ ?_; clear hK K)
 | (refine zzc ?_)
 | (with_reducible refine awp_regT (by kernel_rfl) ?_; intro K hK)
 | (with_reducible refine a_cond (ht := ?_) (hf := ?_) <;> intro hb <;> (try simp at hb) <;> (try contradiction) <;> (try subst hb) <;> (try omega))
 | (with_reducible first | refine a_assign (hr:=?_) | refine a_load (hr:=?_) | refine a_fieldAddr (hr:=?_) | refine a_bin (hr:=?_) | refine a_box (hr:=?_) | refine a_eqB (hr:=?_) | refine a_neB (hr:=?_) | refine a_eqS (hr:=?_) | refine a_neS (hr:=?_) | refine a_call0 (hcall := h1) (hr:=?_) | refine a_call0 (hcall := h2) (hr:=?_))
 | fail)
  all_goals ((refine zzr hQ ?_))
  all_goals (exact zzd)
end Go.Proofs.YtjbbnollidcagaaDoor.Asl

