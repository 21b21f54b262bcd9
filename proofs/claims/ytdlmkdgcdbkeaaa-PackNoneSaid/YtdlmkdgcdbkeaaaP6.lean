/- PackNone: a Reader that no call made. -/
import Derived.Test.YtdlmkdgcdbkeaaaP3
namespace Go.Proofs.Ytdlmkdgcdbkeaaa.Asl
open Go Go.RowKit
set_option linter.unusedVariables false
set_option linter.unusedSimpArgs false
set_option maxRecDepth 100000
set_option maxHeartbeats 4000000
abbrev nilR : AV := .raw (.pointer none)
abbrev zeroR : Hp := setH noHeap 100000 (.box (.agg [.raw (.bool false), .raw (.slice none 0 0), .raw (.int .i64 0), .raw (.int .i64 0)]))
theorem n_Err : CallD Try.prog 24 [nilR] noHeap (.raw (.int .i64 2)) noHeap := by
  refine calls_go (nt := 16) (rs := [.tmp 2]) Try.func24 rfl rfl rfl (by simp) (by intro id h; simp at h <;> omega) ?_; intro Q hQ hW
  repeat' (first
    | (with_reducible refine run_n ?_; with_reducible first | refine hK _ _ (by simp) ?_ | refine hK _ _ ?_; clear hK K)
    | (with_reducible first | refine awp_seq ?_ | refine then_n ?_ | refine then_r ?_ | refine then_e ?_ | refine awp_skip ?_ | refine awp_label ?_ | refine awp_ret ?_ | refine awp_exit ?_ | refine awp_block ?_ | refine awp_scope ?_ | refine in_n ?_ | refine in_r ?_ | refine in_e ?_ | refine in_ne (by decide) ?_ | refine ng_n ?_ | refine ng_r ?_ | refine ng_e ?_)
    | (with_reducible refine awp_regM mixed (by kernel_rfl) ?_; intro K hK)
    | (with_reducible refine a_cond (ht := ?_) (hf := ?_) <;> intro hb <;> (try simp at hb) <;> (try contradiction) <;> (try subst hb) <;> (try omega))
    | (with_reducible first | refine a_move (hr := ?_) | refine a_assign (hr := ?_) | refine a_load (hr := ?_) | refine a_fieldAddr (hr := ?_) | refine a_nilCheck (hr := ?_) | refine a_bin (hr := ?_) | refine a_pick (hr := ?_) | refine a_un (hr := ?_) | refine a_eqP (hr := ?_) | refine a_neP (hr := ?_) | refine a_eqB (hr := ?_) | refine a_eqS (hr := ?_) | refine a_gT (hr := ?_) | refine a_gF (hr := ?_) | refine a_gU (hr := ?_))
    | (with_reducible refine a_gB (hT := ?_) (hF := ?_) <;> intro hb <;> (try simp at hb) <;> (try contradiction) <;> (try subst hb) <;> (try omega))
    | fail)
  all_goals ((refine hQ _ _ _ _ (by first | exact .inr rfl | exact .inl rfl) (by simp; exact .r) (by simp; exact .r) ?_))
  all_goals (exact Fin.refl _ _)
theorem n_Left : CallD Try.prog 25 [nilR] noHeap (.raw (.int .i64 0)) noHeap := by
  refine calls_go (nt := 15) (rs := [.tmp 2]) Try.func25 rfl rfl rfl (by simp) (by intro id h; simp at h <;> omega) ?_; intro Q hQ hW
  repeat' (first
    | (with_reducible refine run_n ?_; with_reducible first | refine hK _ _ (by simp) ?_ | refine hK _ _ ?_; clear hK K)
    | (with_reducible first | refine awp_seq ?_ | refine then_n ?_ | refine then_r ?_ | refine then_e ?_ | refine awp_skip ?_ | refine awp_label ?_ | refine awp_ret ?_ | refine awp_exit ?_ | refine awp_block ?_ | refine awp_scope ?_ | refine in_n ?_ | refine in_r ?_ | refine in_e ?_ | refine in_ne (by decide) ?_ | refine ng_n ?_ | refine ng_r ?_ | refine ng_e ?_)
    | (with_reducible refine awp_regM mixed (by kernel_rfl) ?_; intro K hK)
    | (with_reducible refine awp_regAM (id := 3) [] mixed (by kernel_rfl) (by kernel_rfl) ?_; intro K hK)
    | (with_reducible refine a_cond (ht := ?_) (hf := ?_) <;> intro hb <;> (try simp at hb) <;> (try contradiction) <;> (try subst hb) <;> (try omega))
    | (with_reducible first | refine a_move (hr := ?_) | refine a_assign (hr := ?_) | refine a_load (hr := ?_) | refine a_fieldAddr (hr := ?_) | refine a_nilCheck (hr := ?_) | refine a_bin (hr := ?_) | refine a_lenS (hr := ?_) | refine a_lenR (hr := ?_) | refine a_eqP (hr := ?_) | refine a_neP (hr := ?_) | refine a_eqB (hr := ?_) | refine a_eqS (hr := ?_))
    | fail)
  all_goals ((refine hQ _ _ _ _ (by first | exact .inr rfl | exact .inl rfl) (by simp; exact .r) (by simp; exact .r) ?_))
  all_goals (exact Fin.refl _ _)
theorem n_End : CallD Try.prog 26 [nilR] noHeap (.raw (.int .i64 2)) noHeap := by
  have h1 := n_Err
  refine calls_go (nt := 14) (rs := [.tmp 2]) Try.func26 rfl rfl rfl (by simp) (by intro id h; simp at h <;> omega) ?_; intro Q hQ hW
  repeat' (first
    | (with_reducible refine run_n ?_; with_reducible first | refine hK _ _ (by simp) ?_ | refine hK _ _ ?_; clear hK K)
    | (with_reducible first | refine awp_seq ?_ | refine then_n ?_ | refine then_r ?_ | refine then_e ?_ | refine awp_skip ?_ | refine awp_label ?_ | refine awp_ret ?_ | refine awp_exit ?_ | refine awp_block ?_ | refine awp_scope ?_ | refine in_n ?_ | refine in_r ?_ | refine in_e ?_ | refine in_ne (by decide) ?_ | refine ng_n ?_ | refine ng_r ?_ | refine ng_e ?_)
    | (with_reducible refine awp_regM mixed (by kernel_rfl) ?_; intro K hK)
    | (with_reducible refine a_cond (ht := ?_) (hf := ?_) <;> intro hb <;> (try simp at hb) <;> (try contradiction) <;> (try subst hb) <;> (try omega))
    | (with_reducible first | refine a_move (hr := ?_) | refine a_assign (hr := ?_) | refine a_bin (hr := ?_) | refine a_pick (hr := ?_) | refine a_eqB (hr := ?_) | refine a_neB (hr := ?_) | refine a_eqS (hr := ?_) | refine a_neS (hr := ?_) | refine a_callF (hcall := h1) (hr := ?_) | refine a_gT (hr := ?_) | refine a_gF (hr := ?_) | refine a_gU (hr := ?_))
    | (with_reducible refine a_gB (hT := ?_) (hF := ?_) <;> intro hb <;> (try simp at hb) <;> (try contradiction) <;> (try subst hb) <;> (try omega))
    | fail)
  all_goals ((refine hQ _ _ _ _ (by first | exact .inr rfl | exact .inl rfl) (by simp; exact .r) (by simp; exact .r) ?_))
  all_goals (exact Fin.refl _ _)
theorem n_Uint (n : Int) : CallD Try.prog 21 [nilR, .raw (.int .u64 n)] noHeap (.raw (.int .u64 0)) noHeap := by
  have h1 := n_Err
  refine calls_go (nt := 39) (rs := [.tmp 4]) Try.func21 rfl rfl rfl (by simp) (by intro id h; simp at h <;> omega) ?_; intro Q hQ hW
  repeat' (first
    | (with_reducible refine run_n ?_; with_reducible first | refine hK _ _ (by simp) ?_ | refine hK _ _ ?_; clear hK K)
    | (with_reducible first | refine awp_seq ?_ | refine then_n ?_ | refine then_r ?_ | refine then_e ?_ | refine awp_skip ?_ | refine awp_label ?_ | refine awp_ret ?_ | refine awp_exit ?_ | refine awp_block ?_ | refine awp_scope ?_ | refine in_n ?_ | refine in_r ?_ | refine in_e ?_ | refine in_ne (by decide) ?_ | refine ng_n ?_ | refine ng_r ?_ | refine ng_e ?_)
    | (with_reducible refine awp_regM mixed (by kernel_rfl) ?_; intro K hK)
    | (with_reducible refine a_cond (ht := ?_) (hf := ?_) <;> intro hb <;> (try simp at hb) <;> (try contradiction) <;> (try subst hb) <;> (try omega))
    | (with_reducible first | refine a_move (hr := ?_) | refine a_assign (hr := ?_) | refine a_load (hr := ?_) | refine a_fieldAddr (hr := ?_) | refine a_nilCheck (hr := ?_) | refine a_bin (hr := ?_) | refine a_extract (hr := ?_) | refine a_pick (hr := ?_) | refine a_store (hr := ?_) | refine a_eqB (hr := ?_) | refine a_neB (hr := ?_) | refine a_eqS (hr := ?_) | refine a_neS (hr := ?_) | refine a_callF (hcall := h1) (hr := ?_) | refine a_gT (hr := ?_) | refine a_gF (hr := ?_) | refine a_gU (hr := ?_))
    | (with_reducible refine a_gB (hT := ?_) (hF := ?_) <;> intro hb <;> (try simp at hb) <;> (try contradiction) <;> (try subst hb) <;> (try omega))
    | fail)
  all_goals ((refine hQ _ _ _ _ (by first | exact .inr rfl | exact .inl rfl) (by simp; exact .r) (by simp; exact .r) ?_))
  all_goals (exact Fin.refl _ _)
theorem n_Int : CallD Try.prog 22 [nilR] noHeap (.raw (.int .i64 0)) noHeap := by
  have h1 := n_Uint 18446744073709551615
  refine calls_go (nt := 14) (rs := [.tmp 2]) Try.func22 rfl rfl rfl (by simp) (by intro id h; simp at h <;> omega) ?_; intro Q hQ hW
  repeat' (first
    | (with_reducible refine run_n ?_; with_reducible first | refine hK _ _ (by simp) ?_ | refine hK _ _ ?_; clear hK K)
    | (with_reducible first | refine awp_seq ?_ | refine then_n ?_ | refine then_r ?_ | refine then_e ?_ | refine awp_skip ?_ | refine awp_label ?_ | refine awp_ret ?_ | refine awp_exit ?_ | refine awp_block ?_ | refine awp_scope ?_ | refine in_n ?_ | refine in_r ?_ | refine in_e ?_ | refine in_ne (by decide) ?_ | refine ng_n ?_ | refine ng_r ?_ | refine ng_e ?_)
    | (with_reducible refine awp_regM mixed (by kernel_rfl) ?_; intro K hK)
    | (with_reducible refine a_cond (ht := ?_) (hf := ?_) <;> intro hb <;> (try simp at hb) <;> (try contradiction) <;> (try subst hb) <;> (try omega))
    | (with_reducible first | refine a_move (hr := ?_) | refine a_assign (hr := ?_) | refine a_and (hr := ?_) | refine a_xor (hr := ?_) | refine a_shr (hr := ?_) | refine a_bin (hr := ?_) | refine a_un (hr := ?_) | refine a_conv (hr := ?_) | refine a_bytesStr (hr := ?_) | refine a_strBytes (hr := ?_) | refine a_callF (hcall := h1) (hr := ?_))
    | fail)
  all_goals ((refine hQ _ _ _ _ (by first | exact .inr rfl | exact .inl rfl) (by simp; exact .r) (by simp; exact .r) ?_))
  all_goals (exact Fin.refl _ _)
theorem n_Byte : CallD Try.prog 27 [nilR] noHeap (.raw (.int .u8 0)) noHeap := by
  have h1 := n_Err
  refine calls_go (nt := 30) (rs := [.tmp 2]) Try.func27 rfl rfl rfl (by simp) (by intro id h; simp at h <;> omega) ?_; intro Q hQ hW
  repeat' (first
    | (with_reducible refine run_n ?_; with_reducible first | refine hK _ _ (by simp) ?_ | refine hK _ _ ?_; clear hK K)
    | (with_reducible first | refine awp_seq ?_ | refine then_n ?_ | refine then_r ?_ | refine then_e ?_ | refine awp_skip ?_ | refine awp_label ?_ | refine awp_ret ?_ | refine awp_exit ?_ | refine awp_block ?_ | refine awp_scope ?_ | refine in_n ?_ | refine in_r ?_ | refine in_e ?_ | refine in_ne (by decide) ?_ | refine ng_n ?_ | refine ng_r ?_ | refine ng_e ?_)
    | (with_reducible refine awp_regM mixed (by kernel_rfl) ?_; intro K hK)
    | (with_reducible refine awp_regAM (id := 7) [] mixed (by kernel_rfl) (by kernel_rfl) ?_; intro K hK)
    | (with_reducible refine a_cond (ht := ?_) (hf := ?_) <;> intro hb <;> (try simp at hb) <;> (try contradiction) <;> (try subst hb) <;> (try omega))
    | (with_reducible first | refine a_move (hr := ?_) | refine a_assign (hr := ?_) | refine a_load (hr := ?_) | refine a_fieldAddr (hr := ?_) | refine a_nilCheck (hr := ?_) | refine a_bin (hr := ?_) | refine a_store (hr := ?_) | refine a_eqB (hr := ?_) | refine a_neB (hr := ?_) | refine a_idxArr (hr := ?_) | refine a_eqS (hr := ?_) | refine a_neS (hr := ?_) | refine a_indexAddr (hr := ?_) | refine a_callF (hcall := h1) (hr := ?_))
    | fail)
  all_goals ((refine hQ _ _ _ _ (by first | exact .inr rfl | exact .inl rfl) (by simp; exact .r) (by simp; exact .r) ?_))
  all_goals (exact Fin.refl _ _)
theorem n_Text (n : Int) : CallD Try.prog 23 [nilR, .raw (.int .i64 n)] noHeap (.raw (.string ⟨#[]⟩)) noHeap := by
  have h1 := n_Err
  refine calls_go (nt := 71) (rs := [.tmp 4]) Try.func23 rfl rfl rfl (by simp) (by intro id h; simp at h <;> omega) ?_; intro Q hQ hW
  repeat' (first
    | (with_reducible refine run_n ?_; with_reducible first | refine hK _ _ (by simp) ?_ | refine hK _ _ ?_; clear hK K)
    | (with_reducible first | refine awp_seq ?_ | refine then_n ?_ | refine then_r ?_ | refine then_e ?_ | refine awp_skip ?_ | refine awp_label ?_ | refine awp_ret ?_ | refine awp_exit ?_ | refine awp_block ?_ | refine awp_scope ?_ | refine in_n ?_ | refine in_r ?_ | refine in_e ?_ | refine in_ne (by decide) ?_ | refine ng_n ?_ | refine ng_r ?_ | refine ng_e ?_)
    | (with_reducible refine awp_regM mixed (by kernel_rfl) ?_; intro K hK)
    | (with_reducible refine awp_regAM (id := 13) [] mixed (by kernel_rfl) (by kernel_rfl) ?_; intro K hK)
    | (with_reducible refine a_cond (ht := ?_) (hf := ?_) <;> intro hb <;> (try simp at hb) <;> (try contradiction) <;> (try subst hb) <;> (try omega))
    | (with_reducible first | refine a_move (hr := ?_) | refine a_assign (hr := ?_) | refine a_load (hr := ?_) | refine a_fieldAddr (hr := ?_) | refine a_nilCheck (hr := ?_) | refine a_bin (hr := ?_) | refine a_extract (hr := ?_) | refine a_pick (hr := ?_) | refine a_store (hr := ?_) | refine a_neB (hr := ?_) | refine a_conv (hr := ?_) | refine a_bytesStr (hr := ?_) | refine a_strBytes (hr := ?_) | refine a_sliceArr (hr := ?_) | refine a_neS (hr := ?_) | refine a_sliceS (hr := ?_) | refine a_sliceR (hr := ?_) | refine a_callF (hcall := h1) (hr := ?_) | refine a_gT (hr := ?_) | refine a_gF (hr := ?_) | refine a_gU (hr := ?_))
    | (with_reducible refine a_gB (hT := ?_) (hF := ?_) <;> intro hb <;> (try simp at hb) <;> (try contradiction) <;> (try subst hb) <;> (try omega))
    | fail)
  all_goals ((refine hQ _ _ _ _ (by first | exact .inr rfl | exact .inl rfl) (by simp; exact .r) (by simp; exact .r) ?_))
  all_goals (exact Fin.refl _ _)
theorem z_Err : CallD Try.prog 24 [.ptr 100000 0] zeroR (.raw (.int .i64 2)) zeroR := by
  refine calls_go (nt := 16) (rs := [.tmp 2]) Try.func24 rfl rfl rfl (by simp) (by intro id h; simp at h <;> omega) ?_; intro Q hQ hW
  repeat' (first
    | (with_reducible refine run_n ?_; with_reducible first | refine hK _ _ (by simp) ?_ | refine hK _ _ ?_; clear hK K)
    | (with_reducible first | refine awp_seq ?_ | refine then_n ?_ | refine then_r ?_ | refine then_e ?_ | refine awp_skip ?_ | refine awp_label ?_ | refine awp_ret ?_ | refine awp_exit ?_ | refine awp_block ?_ | refine awp_scope ?_ | refine in_n ?_ | refine in_r ?_ | refine in_e ?_ | refine in_ne (by decide) ?_ | refine ng_n ?_ | refine ng_r ?_ | refine ng_e ?_)
    | (with_reducible refine awp_regM mixed (by kernel_rfl) ?_; intro K hK)
    | (with_reducible refine a_cond (ht := ?_) (hf := ?_) <;> intro hb <;> (try simp at hb) <;> (try contradiction) <;> (try subst hb) <;> (try omega))
    | (with_reducible first | refine a_move (hr := ?_) | refine a_assign (hr := ?_) | refine a_load (hr := ?_) | refine a_fieldAddr (hr := ?_) | refine a_nilCheck (hr := ?_) | refine a_bin (hr := ?_) | refine a_pick (hr := ?_) | refine a_un (hr := ?_) | refine a_eqP (hr := ?_) | refine a_neP (hr := ?_) | refine a_eqB (hr := ?_) | refine a_eqS (hr := ?_) | refine a_gT (hr := ?_) | refine a_gF (hr := ?_) | refine a_gU (hr := ?_))
    | (with_reducible refine a_gB (hT := ?_) (hF := ?_) <;> intro hb <;> (try simp at hb) <;> (try contradiction) <;> (try subst hb) <;> (try omega))
    | fail)
  all_goals ((refine hQ _ _ _ _ (by first | exact .inr rfl | exact .inl rfl) (by simp; exact .r) (by simp; exact .r) ?_))
  all_goals (exact Fin.refl _ _)
theorem z_Left : CallD Try.prog 25 [.ptr 100000 0] zeroR (.raw (.int .i64 0)) zeroR := by
  refine calls_go (nt := 15) (rs := [.tmp 2]) Try.func25 rfl rfl rfl (by simp) (by intro id h; simp at h <;> omega) ?_; intro Q hQ hW
  repeat' (first
    | (with_reducible refine run_n ?_; with_reducible first | refine hK _ _ (by simp) ?_ | refine hK _ _ ?_; clear hK K)
    | (with_reducible first | refine awp_seq ?_ | refine then_n ?_ | refine then_r ?_ | refine then_e ?_ | refine awp_skip ?_ | refine awp_label ?_ | refine awp_ret ?_ | refine awp_exit ?_ | refine awp_block ?_ | refine awp_scope ?_ | refine in_n ?_ | refine in_r ?_ | refine in_e ?_ | refine in_ne (by decide) ?_ | refine ng_n ?_ | refine ng_r ?_ | refine ng_e ?_)
    | (with_reducible refine awp_regM mixed (by kernel_rfl) ?_; intro K hK)
    | (with_reducible refine awp_regAM (id := 3) [] mixed (by kernel_rfl) (by kernel_rfl) ?_; intro K hK)
    | (with_reducible refine a_cond (ht := ?_) (hf := ?_) <;> intro hb <;> (try simp at hb) <;> (try contradiction) <;> (try subst hb) <;> (try omega))
    | (with_reducible first | refine a_move (hr := ?_) | refine a_assign (hr := ?_) | refine a_load (hr := ?_) | refine a_fieldAddr (hr := ?_) | refine a_nilCheck (hr := ?_) | refine a_bin (hr := ?_) | refine a_lenS (hr := ?_) | refine a_lenR (hr := ?_) | refine a_eqP (hr := ?_) | refine a_neP (hr := ?_) | refine a_eqB (hr := ?_) | refine a_eqS (hr := ?_))
    | fail)
  all_goals ((refine hQ _ _ _ _ (by first | exact .inr rfl | exact .inl rfl) (by simp; exact .r) (by simp; exact .r) ?_))
  all_goals (exact Fin.refl _ _)
theorem z_End : CallD Try.prog 26 [.ptr 100000 0] zeroR (.raw (.int .i64 2)) zeroR := by
  have h1 := z_Err
  refine calls_go (nt := 14) (rs := [.tmp 2]) Try.func26 rfl rfl rfl (by simp) (by intro id h; simp at h <;> omega) ?_; intro Q hQ hW
  repeat' (first
    | (with_reducible refine run_n ?_; with_reducible first | refine hK _ _ (by simp) ?_ | refine hK _ _ ?_; clear hK K)
    | (with_reducible first | refine awp_seq ?_ | refine then_n ?_ | refine then_r ?_ | refine then_e ?_ | refine awp_skip ?_ | refine awp_label ?_ | refine awp_ret ?_ | refine awp_exit ?_ | refine awp_block ?_ | refine awp_scope ?_ | refine in_n ?_ | refine in_r ?_ | refine in_e ?_ | refine in_ne (by decide) ?_ | refine ng_n ?_ | refine ng_r ?_ | refine ng_e ?_)
    | (with_reducible refine awp_regM mixed (by kernel_rfl) ?_; intro K hK)
    | (with_reducible refine a_cond (ht := ?_) (hf := ?_) <;> intro hb <;> (try simp at hb) <;> (try contradiction) <;> (try subst hb) <;> (try omega))
    | (with_reducible first | refine a_move (hr := ?_) | refine a_assign (hr := ?_) | refine a_bin (hr := ?_) | refine a_pick (hr := ?_) | refine a_eqB (hr := ?_) | refine a_neB (hr := ?_) | refine a_eqS (hr := ?_) | refine a_neS (hr := ?_) | refine a_callP (p := 100000) (hcall := h1) (hr := ?_) | refine a_gT (hr := ?_) | refine a_gF (hr := ?_) | refine a_gU (hr := ?_))
    | (with_reducible refine a_gB (hT := ?_) (hF := ?_) <;> intro hb <;> (try simp at hb) <;> (try contradiction) <;> (try subst hb) <;> (try omega))
    | fail)
  all_goals ((refine hQ _ _ _ _ (by first | exact .inr rfl | exact .inl rfl) (by simp; exact .r) (by simp; exact .r) ?_))
  all_goals (exact Fin.keep (by simp; exact .r) (by simp; exact .r) (by simp; exact .r) (by simp))
theorem z_Uint (n : Int) : CallD Try.prog 21 [.ptr 100000 0, .raw (.int .u64 n)] zeroR (.raw (.int .u64 0)) zeroR := by
  have h1 := z_Err
  refine calls_go (nt := 39) (rs := [.tmp 4]) Try.func21 rfl rfl rfl (by simp) (by intro id h; simp at h <;> omega) ?_; intro Q hQ hW
  repeat' (first
    | (with_reducible refine run_n ?_; with_reducible first | refine hK _ _ (by simp) ?_ | refine hK _ _ ?_; clear hK K)
    | (with_reducible first | refine awp_seq ?_ | refine then_n ?_ | refine then_r ?_ | refine then_e ?_ | refine awp_skip ?_ | refine awp_label ?_ | refine awp_ret ?_ | refine awp_exit ?_ | refine awp_block ?_ | refine awp_scope ?_ | refine in_n ?_ | refine in_r ?_ | refine in_e ?_ | refine in_ne (by decide) ?_ | refine ng_n ?_ | refine ng_r ?_ | refine ng_e ?_)
    | (with_reducible refine awp_regM mixed (by kernel_rfl) ?_; intro K hK)
    | (with_reducible refine a_cond (ht := ?_) (hf := ?_) <;> intro hb <;> (try simp at hb) <;> (try contradiction) <;> (try subst hb) <;> (try omega))
    | (with_reducible first | refine a_move (hr := ?_) | refine a_assign (hr := ?_) | refine a_load (hr := ?_) | refine a_fieldAddr (hr := ?_) | refine a_nilCheck (hr := ?_) | refine a_bin (hr := ?_) | refine a_extract (hr := ?_) | refine a_pick (hr := ?_) | refine a_store (hr := ?_) | refine a_eqB (hr := ?_) | refine a_neB (hr := ?_) | refine a_eqS (hr := ?_) | refine a_neS (hr := ?_) | refine a_callP (p := 100000) (hcall := h1) (hr := ?_) | refine a_gT (hr := ?_) | refine a_gF (hr := ?_) | refine a_gU (hr := ?_))
    | (with_reducible refine a_gB (hT := ?_) (hF := ?_) <;> intro hb <;> (try simp at hb) <;> (try contradiction) <;> (try subst hb) <;> (try omega))
    | fail)
  all_goals ((refine hQ _ _ _ _ (by first | exact .inr rfl | exact .inl rfl) (by simp; exact .r) (by simp; exact .r) ?_))
  all_goals (exact Fin.keep (by simp; exact .r) (by simp; exact .r) (by simp; exact .r) (by simp))
theorem z_Byte : CallD Try.prog 27 [.ptr 100000 0] zeroR (.raw (.int .u8 0)) zeroR := by
  have h1 := z_Err
  refine calls_go (nt := 30) (rs := [.tmp 2]) Try.func27 rfl rfl rfl (by simp) (by intro id h; simp at h <;> omega) ?_; intro Q hQ hW
  repeat' (first
    | (with_reducible refine run_n ?_; with_reducible first | refine hK _ _ (by simp) ?_ | refine hK _ _ ?_; clear hK K)
    | (with_reducible first | refine awp_seq ?_ | refine then_n ?_ | refine then_r ?_ | refine then_e ?_ | refine awp_skip ?_ | refine awp_label ?_ | refine awp_ret ?_ | refine awp_exit ?_ | refine awp_block ?_ | refine awp_scope ?_ | refine in_n ?_ | refine in_r ?_ | refine in_e ?_ | refine in_ne (by decide) ?_ | refine ng_n ?_ | refine ng_r ?_ | refine ng_e ?_)
    | (with_reducible refine awp_regM mixed (by kernel_rfl) ?_; intro K hK)
    | (with_reducible refine awp_regAM (id := 7) [] mixed (by kernel_rfl) (by kernel_rfl) ?_; intro K hK)
    | (with_reducible refine a_cond (ht := ?_) (hf := ?_) <;> intro hb <;> (try simp at hb) <;> (try contradiction) <;> (try subst hb) <;> (try omega))
    | (with_reducible first | refine a_move (hr := ?_) | refine a_assign (hr := ?_) | refine a_load (hr := ?_) | refine a_fieldAddr (hr := ?_) | refine a_nilCheck (hr := ?_) | refine a_bin (hr := ?_) | refine a_store (hr := ?_) | refine a_eqB (hr := ?_) | refine a_neB (hr := ?_) | refine a_idxArr (hr := ?_) | refine a_eqS (hr := ?_) | refine a_neS (hr := ?_) | refine a_indexAddr (hr := ?_) | refine a_callP (p := 100000) (hcall := h1) (hr := ?_))
    | fail)
  all_goals ((refine hQ _ _ _ _ (by first | exact .inr rfl | exact .inl rfl) (by simp; exact .r) (by simp; exact .r) ?_))
  all_goals (exact Fin.keep (by simp; exact .r) (by simp; exact .r) (by simp; exact .r) (by simp))
theorem z_Text (n : Int) : CallD Try.prog 23 [.ptr 100000 0, .raw (.int .i64 n)] zeroR (.raw (.string ⟨#[]⟩)) zeroR := by
  have h1 := z_Err
  refine calls_go (nt := 71) (rs := [.tmp 4]) Try.func23 rfl rfl rfl (by simp) (by intro id h; simp at h <;> omega) ?_; intro Q hQ hW
  repeat' (first
    | (with_reducible refine run_n ?_; with_reducible first | refine hK _ _ (by simp) ?_ | refine hK _ _ ?_; clear hK K)
    | (with_reducible first | refine awp_seq ?_ | refine then_n ?_ | refine then_r ?_ | refine then_e ?_ | refine awp_skip ?_ | refine awp_label ?_ | refine awp_ret ?_ | refine awp_exit ?_ | refine awp_block ?_ | refine awp_scope ?_ | refine in_n ?_ | refine in_r ?_ | refine in_e ?_ | refine in_ne (by decide) ?_ | refine ng_n ?_ | refine ng_r ?_ | refine ng_e ?_)
    | (with_reducible refine awp_regM mixed (by kernel_rfl) ?_; intro K hK)
    | (with_reducible refine awp_regAM (id := 13) [] mixed (by kernel_rfl) (by kernel_rfl) ?_; intro K hK)
    | (with_reducible refine a_cond (ht := ?_) (hf := ?_) <;> intro hb <;> (try simp at hb) <;> (try contradiction) <;> (try subst hb) <;> (try omega))
    | (with_reducible first | refine a_move (hr := ?_) | refine a_assign (hr := ?_) | refine a_load (hr := ?_) | refine a_fieldAddr (hr := ?_) | refine a_nilCheck (hr := ?_) | refine a_bin (hr := ?_) | refine a_extract (hr := ?_) | refine a_pick (hr := ?_) | refine a_store (hr := ?_) | refine a_neB (hr := ?_) | refine a_conv (hr := ?_) | refine a_bytesStr (hr := ?_) | refine a_strBytes (hr := ?_) | refine a_sliceArr (hr := ?_) | refine a_neS (hr := ?_) | refine a_sliceS (hr := ?_) | refine a_sliceR (hr := ?_) | refine a_callP (p := 100000) (hcall := h1) (hr := ?_) | refine a_gT (hr := ?_) | refine a_gF (hr := ?_) | refine a_gU (hr := ?_))
    | (with_reducible refine a_gB (hT := ?_) (hF := ?_) <;> intro hb <;> (try simp at hb) <;> (try contradiction) <;> (try subst hb) <;> (try omega))
    | fail)
  all_goals ((refine hQ _ _ _ _ (by first | exact .inr rfl | exact .inl rfl) (by simp; exact .r) (by simp; exact .r) ?_))
  all_goals (exact Fin.keep (by simp; exact .r) (by simp; exact .r) (by simp; exact .r) (by simp))
theorem law_PackNone (n : Int) : CallD Try.prog 9 [.raw (.int .i64 n)] noHeap (.raw (.bool true)) noHeap := by
  have h0 := c_Live1
  have n1 := n_Err
  have n2 := n_Left
  have n3 := n_End
  have n4 := n_Uint 9
  have n5 := n_Int
  have n6 := n_Byte
  have n7 := n_Text n
  have z1 := z_Err
  have z2 := z_Left
  have z3 := z_End
  have z4 := z_Uint 9
  have z6 := z_Byte
  have z7 := z_Text n
  refine calls_go (nt := 66) (rs := [.tmp 2]) Try.func9 rfl rfl rfl (by simp) (by intro id h; simp at h <;> omega) ?_; intro Q hQ hW
  repeat' (first
    | (with_reducible refine run_n ?_; with_reducible first | refine hK _ _ (by simp) ?_ | refine hK _ _ ?_; clear hK K)
    | (with_reducible first | refine awp_seq ?_ | refine then_n ?_ | refine then_r ?_ | refine then_e ?_ | refine awp_skip ?_ | refine awp_label ?_ | refine awp_ret ?_ | refine awp_exit ?_ | refine awp_block ?_ | refine awp_scope ?_ | refine in_n ?_ | refine in_r ?_ | refine in_e ?_ | refine in_ne (by decide) ?_ | refine ng_n ?_ | refine ng_r ?_ | refine ng_e ?_)
    | (with_reducible refine awp_regM mixed (by kernel_rfl) ?_; intro K hK)
    | (with_reducible refine a_cond (ht := ?_) (hf := ?_) <;> intro hb <;> (try simp at hb) <;> (try contradiction) <;> (try subst hb) <;> (try omega))
    | (with_reducible first | refine a_move (hr := ?_) | refine a_assign (hr := ?_) | refine a_bin (hr := ?_) | refine a_pick (hr := ?_) | refine a_un (hr := ?_) | refine a_alloc (hr := ?_) | refine a_eqP (hr := ?_) | refine a_neP (hr := ?_) | refine a_eqB (hr := ?_) | refine a_eqS (hr := ?_) | refine a_call0 (hcall := h0) (hr := ?_) | refine a_callF (hcall := n1) (hr := ?_) | refine a_callF (hcall := n2) (hr := ?_) | refine a_callF (hcall := n3) (hr := ?_) | refine a_callF (hcall := n4) (hr := ?_) | refine a_callF (hcall := n5) (hr := ?_) | refine a_callF (hcall := n6) (hr := ?_) | refine a_callF (hcall := n7) (hr := ?_) | refine a_callP (p := 4) (hcall := z1) (hr := ?_) | refine a_callP (p := 4) (hcall := z2) (hr := ?_) | refine a_callP (p := 4) (hcall := z3) (hr := ?_) | refine a_callP (p := 4) (hcall := z4) (hr := ?_) | refine a_callP (p := 4) (hcall := z6) (hr := ?_) | refine a_callP (p := 4) (hcall := z7) (hr := ?_) | refine a_gT (hr := ?_) | refine a_gF (hr := ?_) | refine a_gU (hr := ?_))
    | (with_reducible refine a_gB (hT := ?_) (hF := ?_) <;> intro hb <;> (try simp at hb) <;> (try contradiction) <;> (try subst hb) <;> (try omega))
    | fail)
  all_goals ((refine hQ _ _ _ _ (by first | exact .inr rfl | exact .inl rfl) (by simp; exact .r) (by simp; exact .r) ?_))
  all_goals (exact Fin.drop (by simp; exact .r) (by simp))
end Go.Proofs.Ytdlmkdgcdbkeaaa.Asl
