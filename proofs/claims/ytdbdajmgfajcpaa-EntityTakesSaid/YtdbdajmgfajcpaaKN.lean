/- key.Number -/
import Derived.Test.YtdbdajmgfajcpaaAY
namespace Go.Proofs.Ytdbdajmgfajcpaa.Asl
open Go Go.RowKit
set_option linter.unusedVariables false
set_option linter.unusedSimpArgs false
set_option maxRecDepth 100000
set_option maxHeartbeats 1000000
def hexd (d : Int) : Int := if d < 10 then 48 + d else 87 + d
def hexAt (n : Int) (i : Nat) : Int := hexd (n / 2 ^ (60 - 4 * i) % 16)
def hexs (n : Int) : List Int := (List.range 16).map (hexAt n)
def hexZ (n : Int) (i : Nat) : List Int := (List.range i).map (hexAt n) ++ List.replicate (16 - i) 0
theorem hexZ_len (n : Int) {i : Nat} (hi : i ≤ 16) : (hexZ n i).length = 16 := by simp [hexZ]; omega
theorem hexZ_set (n : Int) {i : Nat} (hi : i < 16) : (hexZ n i).set i (hexAt n i) = hexZ n (i + 1) := by
  unfold hexZ
  rw [List.set_append_right _ _ (by simp)]
  simp only [List.length_map, List.length_range, Nat.sub_self]
  rw [show 16 - i = (16 - (i + 1)) + 1 by omega, List.replicate_succ, List.set_cons_zero, List.range_succ, List.map_append]
  simp
theorem hexB : ∀ d : Nat, d < 16 → byteAt ⟨#[48, 49, 50, 51, 52, 53, 54, 55, 56, 57, 97, 98, 99, 100, 101, 102]⟩ (d : Int) = hexd d := by decide
theorem hex_byte (n : Int) (i : Nat) (hi : i < 16) : byteAt ⟨#[48, 49, 50, 51, 52, 53, 54, 55, 56, 57, 97, 98, 99, 100, 101, 102]⟩ (shrI .u64 n (60 - 4 * (i : Int)) % 16) = hexAt n i := by
  have e : shrI .u64 n (60 - 4 * (i : Int)) = n / 2 ^ (60 - 4 * i) := by
    unfold shrI
    rw [show min (60 - 4 * (i : Int)).toNat (IntKind.bits .u64) = 60 - 4 * i by simp [IntKind.bits]; omega]
  rw [e]
  unfold hexAt
  have h0 := Int.emod_nonneg (n / 2 ^ (60 - 4 * i)) (b := 16) (by decide)
  have h1 := Int.emod_lt_of_pos (n / 2 ^ (60 - 4 * i)) (b := 16) (by decide)
  have := hexB (n / 2 ^ (60 - 4 * i) % 16).toNat (by omega)
  rw [Int.toNat_of_nonneg h0] at this
  exact this
theorem c_Number (n : Int) (h0 : 0 ≤ n) (h1 : n < 18446744073709551616) : CallD Try.prog 95 [.raw (.int .u64 n)] noHeap (.raw (.string (strOfNums (hexs n)))) noHeap := by
  refine calls_go (nt := 21) (rs := [.tmp 2]) Try.func95 rfl rfl rfl (by simp) (by intro id h; simp at h <;> omega) ?_; intro Q hQ hW
  repeat' (first
    | (with_reducible refine run_n ?_; with_reducible first | refine hK _ _ (by simp) ?_ | refine hK _ _ ?_; clear hK K)
    | (with_reducible first | refine awp_seq ?_ | refine then_n ?_ | refine then_r ?_ | refine then_e ?_ | refine awp_skip ?_ | refine awp_label ?_ | refine awp_ret ?_ | refine awp_exit ?_ | refine awp_block ?_ | refine awp_scope ?_ | refine in_n ?_ | refine in_r ?_ | refine in_e ?_ | refine in_ne (by decide) ?_ | refine ng_n ?_ | refine ng_r ?_ | refine ng_e ?_)
    | (with_reducible refine awp_regT (by kernel_rfl) ?_; intro K hK)
    | (with_reducible refine a_cond (ht := ?_) (hf := ?_) <;> intro hb <;> (try simp at hb) <;> (try contradiction) <;> (try subst hb) <;> (try omega))
    | (with_reducible first | refine a_move (hr := ?_) | refine a_assign (hr := ?_) | refine a_and (hr := ?_) | refine a_shr (hr := ?_) | refine a_bin (hr := ?_) | refine a_store (hr := ?_) | refine a_alloc (hr := ?_) | refine a_conv (hr := ?_) | refine a_bytesStr (hr := ?_) | refine a_strBytes (hr := ?_) | refine a_idxArr (hr := ?_) | refine a_sliceArr (hr := ?_) | refine a_index (hr := ?_) | refine a_sliceS (hr := ?_) | refine a_sliceR (hr := ?_) | refine a_indexAddr (hr := ?_))
    | fail)
  refine awp_inv (α := Nat) (fun i => [(0, .raw (.int .u64 n)), (3, .ptr 3 0), (5, .raw (.int .i64 i))]) (fun i => hpL [(3, .box (.agg (u8s (hexZ n i))))]) (fun i => i ≤ 16) (fun i => 16 - i) 0 (by decide) (weak_env (by simp) (by rfl)) ?_
  intro i hi
  have hl := hexZ_len n hi
  repeat' (first
    | (with_reducible refine run_n ?_; with_reducible first | refine hK _ _ (by simp) ?_ | refine hK _ _ ?_; clear hK K)
    | (with_reducible first | refine awp_seq ?_ | refine then_n ?_ | refine then_r ?_ | refine then_e ?_ | refine awp_skip ?_ | refine awp_label ?_ | refine awp_ret ?_ | refine awp_exit ?_ | refine awp_block ?_ | refine awp_scope ?_ | refine in_n ?_ | refine in_r ?_ | refine in_e ?_ | refine in_ne (by decide) ?_ | refine ng_n ?_ | refine ng_r ?_ | refine ng_e ?_)
    | (with_reducible refine awp_regT (by kernel_rfl) ?_; intro K hK)
    | (with_reducible refine a_cond (ht := ?_) (hf := ?_) <;> intro hb <;> (try simp at hb) <;> (try contradiction) <;> (try subst hb) <;> (try omega))
    | (with_reducible first | refine a_move (hr := ?_) | refine a_assign (hr := ?_) | refine a_and (hr := ?_) | refine a_shr (hr := ?_) | refine a_bin (hr := ?_) | refine a_store (hr := ?_) | refine a_alloc (hr := ?_) | refine a_conv (hr := ?_) | refine a_bytesStr (hr := ?_) | refine a_strBytes (hr := ?_) | refine a_idxArr (hr := ?_) | refine a_sliceArr (hr := ?_) | refine a_index (hr := ?_) | refine a_sliceS (hr := ?_) | refine a_sliceR (hr := ?_) | refine a_indexAddr (hr := ?_))
    | fail)
  · have hi' : i < 16 := by omega
    have hs := hexZ_set n hi'
    rw [← hex_byte n i hi'] at hs
    exact ⟨i + 1, by omega, by omega, weak_sub (by simp [hs]) (by simp) (by simp)⟩
  · obtain rfl : i = 16 := by omega
    (refine hQ _ _ _ _ (by first | exact .inr rfl | exact .inl rfl) (by simp; exact .r) (by simp; exact .r) ?_)
    exact Fin.drop (by simp; exact .r) (by simp)
end Go.Proofs.Ytdbdajmgfajcpaa.Asl
