/- Chapter 15: tokens. -/
import Derived.Test.YtdbdajmgfajcpaaPK
namespace Go.Proofs.Ytdbdajmgfajcpaa.Asl
open Go Go.RowKit
set_option linter.unusedVariables false
set_option linter.unusedSimpArgs false
set_option maxRecDepth 100000
set_option maxHeartbeats 1000000
abbrev tokAV (a s f : Int) : AV := .agg [.raw (.int .i64 a), .raw (.int .u64 s), .raw (.int .i64 f)]
def mayTok (a f : Int) : Prop := 0 ≤ a ∧ a < 40 ∧ -1 ≤ f ∧ f < 80
instance (a f : Int) : Decidable (mayTok a f) := by unfold mayTok; infer_instance
theorem c_mayToken (a s f : Int) : CallD Try.prog 68 [tokAV a s f] noHeap (.raw (.int .i64 (if mayTok a f then 0 else 1))) noHeap := by
  by_cases hc : mayTok a f
  · rw [if_pos hc]
    unfold mayTok at hc
    refine calls_go (nt := 21) (rs := [.tmp 2]) Try.func68 rfl rfl rfl (by simp) (by intro id h; simp at h <;> omega) ?_; intro Q hQ hW
    repeat' (first
    | (with_reducible refine run_n ?_; first | with_reducible refine hK _ _ (by simp) ?_ | with_reducible refine hK _ _ ?_; clear hK K)
    | with_reducible refine awp_seq ?_
    | (with_reducible refine awp_regL 8 mixed (by kernel_rfl) ?_; intro K hK)
    | with_reducible refine then_n ?_
    | with_reducible refine then_r ?_
    | with_reducible refine then_e ?_
    | (with_reducible refine w_cond (by simp; exact .r) ?_ ?_ <;> intro hb <;> (try simp at hb) <;> (try subst hb) <;> (try omega))
    | with_reducible refine awp_skip ?_
    | with_reducible refine awp_ret ?_
    | with_reducible refine awp_exit ?_
    | with_reducible refine awp_block ?_
    | with_reducible refine awp_scope ?_
    | with_reducible refine in_n ?_
    | with_reducible refine in_r ?_
    | with_reducible refine in_e ?_
    | with_reducible refine in_ne (by decide) ?_
    | with_reducible refine ng_n ?_
    | with_reducible refine ng_r ?_
    | with_reducible refine ng_e ?_
    | with_reducible refine w_move (by simp; exact .r) ?_
    | with_reducible refine w_assign (by simp; exact .r) ?_
    | with_reducible refine w_load (by simp; exact .r) (by simp; exact .r) (by simp; exact .r) ?_
    | with_reducible refine w_fieldAddr (by simp; exact .r) (by simp; exact .r) (by simp; exact .r) ?_
    | with_reducible refine w_bin (by simp; exact .r) (by simp; exact .r) (by simp; first | (rw [if_pos (by omega)]; exact .r) | (rw [wrap_i64 (by omega) (by omega)]; exact .r) | (rw [wrap_u8 (by omega) (by omega)]; exact .r) | (rw [wrap_u64 (by omega) (by omega)]; exact .r) | (rw [wrap_i32 (by omega) (by omega)]; exact .r) | exact .r) ?_
    | with_reducible refine w_pick (by simp; exact .r) (by simp [*]; exact .r) ?_
    | with_reducible refine w_box (by simp; exact .r) (by simp; exact .r) (by simp; exact .r) ?_
    | with_reducible refine w_gT (by with_unfolding_all exact rfl) (by simp; exact .r) ?_
    | with_reducible refine w_gF (by with_unfolding_all exact rfl) (by simp; exact .r) ?_
    | (with_reducible refine w_gB (by with_unfolding_all exact rfl) (by simp; exact .r) ?_ ?_ <;> intro hb <;> (try simp at hb) <;> (try subst hb) <;> (try omega)))
    all_goals (try (refine hQ _ _ _ _ (by first | exact .inr rfl | exact .inl rfl) (by simp; exact .r) (by simp; exact .r) ?_))
    all_goals (first | exact Fin.drop (by simp; exact .r) (by simp) | omega)
  · rw [if_neg hc]
    unfold mayTok at hc
    refine calls_go (nt := 21) (rs := [.tmp 2]) Try.func68 rfl rfl rfl (by simp) (by intro id h; simp at h <;> omega) ?_; intro Q hQ hW
    repeat' (first
    | (with_reducible refine run_n ?_; first | with_reducible refine hK _ _ (by simp) ?_ | with_reducible refine hK _ _ ?_; clear hK K)
    | with_reducible refine awp_seq ?_
    | (with_reducible refine awp_regL 8 mixed (by kernel_rfl) ?_; intro K hK)
    | with_reducible refine then_n ?_
    | with_reducible refine then_r ?_
    | with_reducible refine then_e ?_
    | (with_reducible refine w_cond (by simp; exact .r) ?_ ?_ <;> intro hb <;> (try simp at hb) <;> (try subst hb) <;> (try omega))
    | with_reducible refine awp_skip ?_
    | with_reducible refine awp_ret ?_
    | with_reducible refine awp_exit ?_
    | with_reducible refine awp_block ?_
    | with_reducible refine awp_scope ?_
    | with_reducible refine in_n ?_
    | with_reducible refine in_r ?_
    | with_reducible refine in_e ?_
    | with_reducible refine in_ne (by decide) ?_
    | with_reducible refine ng_n ?_
    | with_reducible refine ng_r ?_
    | with_reducible refine ng_e ?_
    | with_reducible refine w_move (by simp; exact .r) ?_
    | with_reducible refine w_assign (by simp; exact .r) ?_
    | with_reducible refine w_load (by simp; exact .r) (by simp; exact .r) (by simp; exact .r) ?_
    | with_reducible refine w_fieldAddr (by simp; exact .r) (by simp; exact .r) (by simp; exact .r) ?_
    | with_reducible refine w_bin (by simp; exact .r) (by simp; exact .r) (by simp; first | (rw [if_pos (by omega)]; exact .r) | (rw [wrap_i64 (by omega) (by omega)]; exact .r) | (rw [wrap_u8 (by omega) (by omega)]; exact .r) | (rw [wrap_u64 (by omega) (by omega)]; exact .r) | (rw [wrap_i32 (by omega) (by omega)]; exact .r) | exact .r) ?_
    | with_reducible refine w_pick (by simp; exact .r) (by simp [*]; exact .r) ?_
    | with_reducible refine w_box (by simp; exact .r) (by simp; exact .r) (by simp; exact .r) ?_
    | with_reducible refine w_gT (by with_unfolding_all exact rfl) (by simp; exact .r) ?_
    | with_reducible refine w_gF (by with_unfolding_all exact rfl) (by simp; exact .r) ?_
    | (with_reducible refine w_gB (by with_unfolding_all exact rfl) (by simp; exact .r) ?_ ?_ <;> intro hb <;> (try simp at hb) <;> (try subst hb) <;> (try omega)))
    all_goals (try (refine hQ _ _ _ _ (by first | exact .inr rfl | exact .inl rfl) (by simp; exact .r) (by simp; exact .r) ?_))
    all_goals (first | exact Fin.drop (by simp; exact .r) (by simp) | omega)
def putTok (a s f : Int) : List Int := if mayTok a f then enc 9 a ++ (enc 9 s ++ enc 9 (f + 1)) else []
theorem enc_small (f : Nat) (n : Int) : (enc f n).length ≤ f + 1 := (enc_len f n).1
theorem c_PutToken (a s f : Int) (h0 : 0 ≤ s) (h1 : s < 18446744073709551616) : CallD Try.prog 27 [tokAV a s f] noHeap (.sl 1 (u8s (putTok a s f))) noHeap := by
  have hm := c_mayToken a s f
  by_cases hc : mayTok a f
  · rw [if_pos hc] at hm
    rw [putTok, if_pos hc]
    unfold mayTok at hc
    refine calls_go (nt := 20) (rs := [.tmp 2]) Try.func27 rfl rfl rfl (by simp) (by intro id h; simp at h <;> omega) ?_; intro Q hQ hW
    have b1 := enc_small 9 a
    have b2 := enc_small 9 s
    have b3 := enc_small 9 (f + 1)
    repeat' (first
    | (with_reducible refine run_n ?_; first | with_reducible refine hK _ _ (by simp) ?_ | with_reducible refine hK _ _ ?_; clear hK K)
    | with_reducible refine awp_seq ?_
    | (with_reducible refine awp_regL 8 mixed (by kernel_rfl) ?_; intro K hK)
    | with_reducible refine then_n ?_
    | with_reducible refine then_r ?_
    | with_reducible refine then_e ?_
    | (with_reducible refine w_cond (by simp; exact .r) ?_ ?_ <;> intro hb <;> (try simp at hb) <;> (try subst hb) <;> (try omega))
    | with_reducible refine awp_skip ?_
    | with_reducible refine awp_ret ?_
    | with_reducible refine awp_exit ?_
    | with_reducible refine awp_block ?_
    | with_reducible refine awp_scope ?_
    | with_reducible refine in_n ?_
    | with_reducible refine in_r ?_
    | with_reducible refine in_e ?_
    | with_reducible refine in_ne (by decide) ?_
    | with_reducible refine ng_n ?_
    | with_reducible refine ng_r ?_
    | with_reducible refine ng_e ?_
    | (with_reducible refine awp_regAL (id := 3) [(6, some 1), (10, some 1), (13, some 1)] 8 mixed (by kernel_rfl) (by kernel_rfl) ?_; intro K hK)
    | with_reducible refine w_assign (by simp; exact .r) ?_
    | with_reducible refine w_load (by simp; exact .r) (by simp; exact .r) (by simp; exact .r) ?_
    | with_reducible refine w_fieldAddr (by simp; exact .r) (by simp; exact .r) (by simp; exact .r) ?_
    | with_reducible refine w_bin (by simp; exact .r) (by simp; exact .r) (by simp; first | (rw [if_pos (by omega)]; exact .r) | (rw [wrap_i64 (by omega) (by omega)]; exact .r) | (rw [wrap_u8 (by omega) (by omega)]; exact .r) | (rw [wrap_u64 (by omega) (by omega)]; exact .r) | (rw [wrap_i32 (by omega) (by omega)]; exact .r) | exact .r) ?_
    | with_reducible refine w_box (by simp; exact .r) (by simp; exact .r) (by simp; exact .r) ?_
    | with_reducible refine w_neB (by simp; exact .r) (by simp; exact .r) (by simp; exact .r) (by (try simp); exact .r) ?_
    | with_reducible refine w_conv (by simp; exact .r) (by simp; exact .r) (by simp; exact .r) (by simp; exact .r) (by simp; first | (rw [if_pos (by omega)]; exact .r) | (rw [wrap_i64 (by omega) (by omega)]; exact .r) | (rw [wrap_u8 (by omega) (by omega)]; exact .r) | (rw [wrap_u64 (by omega) (by omega)]; exact .r) | (rw [wrap_i32 (by omega) (by omega)]; exact .r) | exact .r) ?_
    | with_reducible refine w_bytesStr (by simp; exact .r) (by simp; exact .r) (by simp; exact .r) (by simp; exact .r) (by simp; exact .r) (by simp [*]; exact .r) (by (try simp); exact .r) ?_
    | with_reducible refine w_strBytes (by simp; exact .r) (by simp; exact .r) (by simp; exact .r) (by simp; exact .r) (by simp; exact .r) (by simp; exact .r) (by simp; exact .r) ?_
    | with_reducible refine w_neS (by simp; exact .r) (by simp; exact .r) (by simp; exact .r) (by simp; exact .r) (by (try simp); exact .r) (by (try simp); exact .r) ?_
    | with_reducible refine w_buildSlice (by simp; exact .r) (by simp; exact .r) (by simp) (by simp; exact .r) (by decide) (by simp; exact .r) (by simp; exact .r) ?_
    | with_reducible refine w_call0 (by simp; exact .r) (by simp; exact .r) (by simp; exact .r) (by simp; exact .r) (by (try simp); exact .r) (hm) ?_
    | with_reducible refine w_callN (by simp; exact .r) (by simp; exact .r) (by simp; exact .r) (by simp; exact .r) (by (try simp); exact .r) (by simp; exact .r) (c_UintT _ (by omega) (by omega)) ?_
    | with_reducible refine w_callR (by simp; exact .r) (by simp; exact .r) (by simp; exact .r) (by (try simp); exact .r) (by (try simp); exact .r) (by (try simp); exact .r) (by simp; exact .r) (c_Join [enc 9 a, enc 9 s, enc 9 (f + 1)] (by simp; omega) (by simp)) (by simp; exact .r) ?_)
    all_goals (try (refine hQ _ _ _ _ (by first | exact .inr rfl | exact .inl rfl) (by simp; exact .r) (by simp; exact .r) ?_))
    all_goals (refine Fin.frzR (by simp; exact .r) (by simp [List.take_of_length_le]; exact .r) (by simp; exact .r) (by simp))
  · rw [if_neg hc] at hm
    rw [putTok, if_neg hc]
    refine calls_go (nt := 20) (rs := [.tmp 2]) Try.func27 rfl rfl rfl (by simp) (by intro id h; simp at h <;> omega) ?_; intro Q hQ hW
    repeat' (first
    | (with_reducible refine run_n ?_; first | with_reducible refine hK _ _ (by simp) ?_ | with_reducible refine hK _ _ ?_; clear hK K)
    | with_reducible refine awp_seq ?_
    | (with_reducible refine awp_regL 8 mixed (by kernel_rfl) ?_; intro K hK)
    | with_reducible refine then_n ?_
    | with_reducible refine then_r ?_
    | with_reducible refine then_e ?_
    | (with_reducible refine w_cond (by simp; exact .r) ?_ ?_ <;> intro hb <;> (try simp at hb) <;> (try subst hb) <;> (try omega))
    | with_reducible refine awp_skip ?_
    | with_reducible refine awp_ret ?_
    | with_reducible refine awp_exit ?_
    | with_reducible refine awp_block ?_
    | with_reducible refine awp_scope ?_
    | with_reducible refine in_n ?_
    | with_reducible refine in_r ?_
    | with_reducible refine in_e ?_
    | with_reducible refine in_ne (by decide) ?_
    | with_reducible refine ng_n ?_
    | with_reducible refine ng_r ?_
    | with_reducible refine ng_e ?_
    | (with_reducible refine awp_regAL (id := 3) [(6, some 1), (10, some 1), (13, some 1)] 8 mixed (by kernel_rfl) (by kernel_rfl) ?_; intro K hK)
    | with_reducible refine w_assign (by simp; exact .r) ?_
    | with_reducible refine w_load (by simp; exact .r) (by simp; exact .r) (by simp; exact .r) ?_
    | with_reducible refine w_fieldAddr (by simp; exact .r) (by simp; exact .r) (by simp; exact .r) ?_
    | with_reducible refine w_bin (by simp; exact .r) (by simp; exact .r) (by simp; first | (rw [if_pos (by omega)]; exact .r) | (rw [wrap_i64 (by omega) (by omega)]; exact .r) | (rw [wrap_u8 (by omega) (by omega)]; exact .r) | (rw [wrap_u64 (by omega) (by omega)]; exact .r) | (rw [wrap_i32 (by omega) (by omega)]; exact .r) | exact .r) ?_
    | with_reducible refine w_box (by simp; exact .r) (by simp; exact .r) (by simp; exact .r) ?_
    | with_reducible refine w_neB (by simp; exact .r) (by simp; exact .r) (by simp; exact .r) (by (try simp); exact .r) ?_
    | with_reducible refine w_conv (by simp; exact .r) (by simp; exact .r) (by simp; exact .r) (by simp; exact .r) (by simp; first | (rw [if_pos (by omega)]; exact .r) | (rw [wrap_i64 (by omega) (by omega)]; exact .r) | (rw [wrap_u8 (by omega) (by omega)]; exact .r) | (rw [wrap_u64 (by omega) (by omega)]; exact .r) | (rw [wrap_i32 (by omega) (by omega)]; exact .r) | exact .r) ?_
    | with_reducible refine w_bytesStr (by simp; exact .r) (by simp; exact .r) (by simp; exact .r) (by simp; exact .r) (by simp; exact .r) (by simp [*]; exact .r) (by (try simp); exact .r) ?_
    | with_reducible refine w_strBytes (by simp; exact .r) (by simp; exact .r) (by simp; exact .r) (by simp; exact .r) (by simp; exact .r) (by simp; exact .r) (by simp; exact .r) ?_
    | with_reducible refine w_neS (by simp; exact .r) (by simp; exact .r) (by simp; exact .r) (by simp; exact .r) (by (try simp); exact .r) (by (try simp); exact .r) ?_
    | with_reducible refine w_buildSlice (by simp; exact .r) (by simp; exact .r) (by simp) (by simp; exact .r) (by decide) (by simp; exact .r) (by simp; exact .r) ?_
    | with_reducible refine w_call0 (by simp; exact .r) (by simp; exact .r) (by simp; exact .r) (by simp; exact .r) (by (try simp); exact .r) (hm) ?_)
    all_goals (try (refine hQ _ _ _ _ (by first | exact .inr rfl | exact .inl rfl) (by simp; exact .r) (by simp; exact .r) ?_))
    all_goals (exact Fin.nil (by simp))
end Go.Proofs.Ytdbdajmgfajcpaa.Asl
