/- key.Number -/
import Derived.Test.YtdbdajmgfajcpaaAW
namespace Go.Proofs.Ytdbdajmgfajcpaa.Asl
open Go Go.RowKit
set_option linter.unusedVariables false
set_option linter.unusedSimpArgs false
set_option maxRecDepth 100000
set_option maxHeartbeats 1000000
def hexd (d : Int) : Int := if d < 10 then 48 + d else 87 + d
def hexAt (n : Int) (i : Nat) : Int := hexd (n / 2 ^ (60 - 4 * i) % 16)
def hexs (n : Int) : List Int := (List.range 16).map (hexAt n)
def hexZ (n : Int) (i : Nat) : List Int := (List.range i).map (hexAt n) ++ List.replicate (16 - i) 0
theorem hexZ_len (n : Int) {i : Nat} (hi : i ≤ 16) : (hexZ n i).length = 16 := by simp [hexZ]; omega
theorem hexZ_set (n : Int) {i : Nat} (hi : i < 16) : (hexZ n i).set i (hexAt n i) = hexZ n (i + 1) := by
  unfold hexZ
  rw [List.set_append_right _ _ (by simp)]
  simp only [List.length_map, List.length_range, Nat.sub_self]
  rw [show 16 - i = (16 - (i + 1)) + 1 by omega, List.replicate_succ, List.set_cons_zero, List.range_succ, List.map_append]
  simp
theorem hexB : ∀ d : Nat, d < 16 → byteAt ⟨#[48, 49, 50, 51, 52, 53, 54, 55, 56, 57, 97, 98, 99, 100, 101, 102]⟩ (d : Int) = hexd d := by decide
theorem hex_byte (n : Int) (i : Nat) (hi : i < 16) : byteAt ⟨#[48, 49, 50, 51, 52, 53, 54, 55, 56, 57, 97, 98, 99, 100, 101, 102]⟩ (shrI .u64 n (60 - 4 * (i : Int)) % 16) = hexAt n i := by
  have e : shrI .u64 n (60 - 4 * (i : Int)) = n / 2 ^ (60 - 4 * i) := by
    unfold shrI
    rw [show min (60 - 4 * (i : Int)).toNat (IntKind.bits .u64) = 60 - 4 * i by simp [IntKind.bits]; omega]
  rw [e]
  unfold hexAt
  have h0 := Int.emod_nonneg (n / 2 ^ (60 - 4 * i)) (b := 16) (by decide)
  have h1 := Int.emod_lt_of_pos (n / 2 ^ (60 - 4 * i)) (b := 16) (by decide)
  have := hexB (n / 2 ^ (60 - 4 * i) % 16).toNat (by omega)
  rw [Int.toNat_of_nonneg h0] at this
  exact this
theorem c_Number (n : Int) (h0 : 0 ≤ n) (h1 : n < 18446744073709551616) : CallD Try.prog 95 [.raw (.int .u64 n)] noHeap (.raw (.string (strOfNums (hexs n)))) noHeap := by
  refine calls_go (nt := 21) (rs := [.tmp 2]) Try.func95 rfl rfl rfl (by simp) (by intro id h; simp at h <;> omega) ?_; intro Q hQ hW
  repeat' (first
    | (with_reducible refine run_n ?_; first | with_reducible refine hK _ _ (by simp) ?_ | with_reducible refine hK _ _ ?_; clear hK K)
    | with_reducible refine awp_seq ?_
    | (with_reducible refine awp_regL 8 mixed (by kernel_rfl) ?_; intro K hK)
    | with_reducible refine then_n ?_
    | with_reducible refine then_r ?_
    | with_reducible refine then_e ?_
    | (with_reducible refine w_cond (by simp; exact .r) ?_ ?_ <;> intro hb <;> (try simp at hb) <;> (try subst hb) <;> (try omega))
    | with_reducible refine awp_skip ?_
    | with_reducible refine awp_ret ?_
    | with_reducible refine awp_exit ?_
    | with_reducible refine awp_block ?_
    | with_reducible refine awp_scope ?_
    | with_reducible refine in_n ?_
    | with_reducible refine in_r ?_
    | with_reducible refine in_e ?_
    | with_reducible refine in_ne (by decide) ?_
    | with_reducible refine ng_n ?_
    | with_reducible refine ng_r ?_
    | with_reducible refine ng_e ?_
    | with_reducible refine w_move (by simp; exact .r) ?_
    | with_reducible refine w_assign (by simp; exact .r) ?_
    | with_reducible refine w_and (by simp; exact .r) (by simp; exact .r) (by (try simp); exact .r) ?_
    | with_reducible refine w_shr (by simp; exact .r) (by simp; exact .r) (by first | omega | (simp <;> omega)) (by (try simp); exact .r) ?_
    | with_reducible refine w_bin (by simp; exact .r) (by simp; exact .r) (by simp; first | (rw [if_pos (by omega)]; exact .r) | (rw [wrap_i64 (by omega) (by omega)]; exact .r) | (rw [wrap_u8 (by omega) (by omega)]; exact .r) | (rw [wrap_u64 (by omega) (by omega)]; exact .r) | (rw [wrap_i32 (by omega) (by omega)]; exact .r) | exact .r) ?_
    | with_reducible refine w_store (by simp; exact .r) (by simp; exact .r) (by simp; exact .r) (by simp; exact .r) (by simp; exact .r) (by simp; first | exact .r | (rw [if_pos (by omega)]; (try simp); exact .r)) ?_
    | with_reducible refine w_alloc (by simp; exact .r) (by simp; exact .r) (by simp) ?_
    | with_reducible refine w_conv (by simp; exact .r) (by simp; exact .r) (by simp; exact .r) (by simp; exact .r) (by simp; first | (rw [if_pos (by omega)]; exact .r) | (rw [wrap_i64 (by omega) (by omega)]; exact .r) | (rw [wrap_u8 (by omega) (by omega)]; exact .r) | (rw [wrap_u64 (by omega) (by omega)]; exact .r) | (rw [wrap_i32 (by omega) (by omega)]; exact .r) | exact .r) ?_
    | with_reducible refine w_bytesStr (by simp; exact .r) (by simp; exact .r) (by simp; exact .r) (by simp; exact .r) (by simp; exact .r) (by simp [*]; exact .r) (by (try simp); exact .r) ?_
    | with_reducible refine w_strBytes (by simp; exact .r) (by simp; exact .r) (by simp; exact .r) (by simp; exact .r) (by simp; exact .r) (by simp; exact .r) (by simp; exact .r) ?_
    | with_reducible refine w_idxArr (by simp; exact .r) (by simp; exact .r) (by simp; exact .r) (by first | omega | (simp <;> omega)) (by first | omega | (simp <;> omega)) (by (try simp); exact .r) ?_
    | with_reducible refine w_sliceArr (by simp; exact .r) (by simp; exact .r) (by simp; exact .r) (by simp [*]; exact .r) (by first | exact u8s_size1 _ | simp) (by simp; exact .r) ?_
    | with_reducible refine w_index (by simp; exact .r) (by simp; exact .r) (by simp; exact .r) (by first | omega | (simp <;> omega)) (by first | omega | (simp <;> omega)) (by first | (simp [hby]; exact .r) | ((try simp); exact .r)) ?_
    | with_reducible refine w_sliceS (by simp; exact .r) (by simp; exact .r) (by simp; exact .r) (by simp; exact .r) (by simp; exact .r) (by first | omega | (simp <;> omega)) (by first | omega | (simp <;> omega)) (by first | omega | (simp <;> omega)) (by (try simp); exact .r) ?_
    | with_reducible refine w_sliceR (by simp; exact .r) (by simp; exact .r) (by simp; exact .r) (by simp; exact .r) (by simp; exact .r) (by simp; exact .r) (by first | omega | (simp <;> omega)) (by first | omega | (simp <;> omega)) (by (try simp); exact .r) ?_
    | with_reducible refine w_indexAddr (by simp; exact .r) (by simp; exact .r) (by simp; exact .r) (by first | omega | (simp <;> omega)) (by first | (simp [hx]; exact .r) | (simp [*]; exact .r)) ?_)
  refine awp_inv (α := Nat) (fun i => [(0, .raw (.int .u64 n)), (3, .ptr 3 0), (5, .raw (.int .i64 i))]) (fun i => hpL [(3, .box (.agg (u8s (hexZ n i))))]) (fun i => i ≤ 16) (fun i => 16 - i) 0 (by decide) (weak_env (by simp) (by rfl)) ?_
  intro i hi
  have hl := hexZ_len n hi
  repeat' (first
    | (with_reducible refine run_n ?_; first | with_reducible refine hK _ _ (by simp) ?_ | with_reducible refine hK _ _ ?_; clear hK K)
    | with_reducible refine awp_seq ?_
    | (with_reducible refine awp_regL 8 mixed (by kernel_rfl) ?_; intro K hK)
    | with_reducible refine then_n ?_
    | with_reducible refine then_r ?_
    | with_reducible refine then_e ?_
    | (with_reducible refine w_cond (by simp; exact .r) ?_ ?_ <;> intro hb <;> (try simp at hb) <;> (try subst hb) <;> (try omega))
    | with_reducible refine awp_skip ?_
    | with_reducible refine awp_ret ?_
    | with_reducible refine awp_exit ?_
    | with_reducible refine awp_block ?_
    | with_reducible refine awp_scope ?_
    | with_reducible refine in_n ?_
    | with_reducible refine in_r ?_
    | with_reducible refine in_e ?_
    | with_reducible refine in_ne (by decide) ?_
    | with_reducible refine ng_n ?_
    | with_reducible refine ng_r ?_
    | with_reducible refine ng_e ?_
    | with_reducible refine w_move (by simp; exact .r) ?_
    | with_reducible refine w_assign (by simp; exact .r) ?_
    | with_reducible refine w_and (by simp; exact .r) (by simp; exact .r) (by (try simp); exact .r) ?_
    | with_reducible refine w_shr (by simp; exact .r) (by simp; exact .r) (by first | omega | (simp <;> omega)) (by (try simp); exact .r) ?_
    | with_reducible refine w_bin (by simp; exact .r) (by simp; exact .r) (by simp; first | (rw [if_pos (by omega)]; exact .r) | (rw [wrap_i64 (by omega) (by omega)]; exact .r) | (rw [wrap_u8 (by omega) (by omega)]; exact .r) | (rw [wrap_u64 (by omega) (by omega)]; exact .r) | (rw [wrap_i32 (by omega) (by omega)]; exact .r) | exact .r) ?_
    | with_reducible refine w_store (by simp; exact .r) (by simp; exact .r) (by simp; exact .r) (by simp; exact .r) (by simp; exact .r) (by simp; first | exact .r | (rw [if_pos (by omega)]; (try simp); exact .r)) ?_
    | with_reducible refine w_alloc (by simp; exact .r) (by simp; exact .r) (by simp) ?_
    | with_reducible refine w_conv (by simp; exact .r) (by simp; exact .r) (by simp; exact .r) (by simp; exact .r) (by simp; first | (rw [if_pos (by omega)]; exact .r) | (rw [wrap_i64 (by omega) (by omega)]; exact .r) | (rw [wrap_u8 (by omega) (by omega)]; exact .r) | (rw [wrap_u64 (by omega) (by omega)]; exact .r) | (rw [wrap_i32 (by omega) (by omega)]; exact .r) | exact .r) ?_
    | with_reducible refine w_bytesStr (by simp; exact .r) (by simp; exact .r) (by simp; exact .r) (by simp; exact .r) (by simp; exact .r) (by simp [*]; exact .r) (by (try simp); exact .r) ?_
    | with_reducible refine w_strBytes (by simp; exact .r) (by simp; exact .r) (by simp; exact .r) (by simp; exact .r) (by simp; exact .r) (by simp; exact .r) (by simp; exact .r) ?_
    | with_reducible refine w_idxArr (by simp; exact .r) (by simp; exact .r) (by simp; exact .r) (by first | omega | (simp <;> omega)) (by first | omega | (simp <;> omega)) (by (try simp); exact .r) ?_
    | with_reducible refine w_sliceArr (by simp; exact .r) (by simp; exact .r) (by simp; exact .r) (by simp [*]; exact .r) (by first | exact u8s_size1 _ | simp) (by simp; exact .r) ?_
    | with_reducible refine w_index (by simp; exact .r) (by simp; exact .r) (by simp; exact .r) (by first | omega | (simp <;> omega)) (by first | omega | (simp <;> omega)) (by first | (simp [hby]; exact .r) | ((try simp); exact .r)) ?_
    | with_reducible refine w_sliceS (by simp; exact .r) (by simp; exact .r) (by simp; exact .r) (by simp; exact .r) (by simp; exact .r) (by first | omega | (simp <;> omega)) (by first | omega | (simp <;> omega)) (by first | omega | (simp <;> omega)) (by (try simp); exact .r) ?_
    | with_reducible refine w_sliceR (by simp; exact .r) (by simp; exact .r) (by simp; exact .r) (by simp; exact .r) (by simp; exact .r) (by simp; exact .r) (by first | omega | (simp <;> omega)) (by first | omega | (simp <;> omega)) (by (try simp); exact .r) ?_
    | with_reducible refine w_indexAddr (by simp; exact .r) (by simp; exact .r) (by simp; exact .r) (by first | omega | (simp <;> omega)) (by first | (simp [hx]; exact .r) | (simp [*]; exact .r)) ?_)
  · have hi' : i < 16 := by omega
    have hs := hexZ_set n hi'
    rw [← hex_byte n i hi'] at hs
    exact ⟨i + 1, by omega, by omega, weak_sub (by simp [hs]) (by simp) (by simp)⟩
  · obtain rfl : i = 16 := by omega
    (refine hQ _ _ _ _ (by first | exact .inr rfl | exact .inl rfl) (by simp; exact .r) (by simp; exact .r) ?_)
    exact Fin.drop (by simp; exact .r) (by simp)
end Go.Proofs.Ytdbdajmgfajcpaa.Asl
