/- Chapter 15: kinds and their parts. -/
import Derived.Test.YtdbdajmgfajcpaaAY
namespace Go.Proofs.Ytdbdajmgfajcpaa.Asl
open Go Go.RowKit
set_option linter.unusedVariables false
set_option linter.unusedSimpArgs false
set_option maxRecDepth 100000
set_option maxHeartbeats 1000000
def lay (k : Int) : ByteArray × Bool :=
  if k = 109 then (⟨#[110, 107, 105, 116, 111]⟩, true) else if k = 115 then (⟨#[110, 105, 116, 111]⟩, true) else if k = 122 then (⟨#[97, 105, 116, 111]⟩, true) else if k = 97 then (⟨#[105, 116, 111]⟩, true)
  else if k = 107 then (⟨#[110, 105, 116]⟩, true) else if k = 116 then (⟨#[105, 116]⟩, true) else if k = 105 then (⟨#[105]⟩, true) else if k = 118 then (⟨#[105, 110]⟩, true) else if k = 98 then (⟨#[110, 107, 100]⟩, true)
  else if k = 101 then (⟨#[110, 97]⟩, true) else if k = 100 then (⟨#[110]⟩, true) else if k = 99 then (⟨#[]⟩, true) else (⟨#[]⟩, false)
theorem c_layout (k : Int) : CallD Try.prog 53 [.raw (.int .u8 k)] noHeap (.tup [.raw (.string (lay k).1), .raw (.bool (lay k).2)]) noHeap := by
  refine calls_go (nt := 38) (rs := [.tmp 2, .tmp 3]) Try.func53 rfl rfl rfl (by simp) (by intro id h; simp at h <;> omega) ?_; intro Q hQ hW
  repeat' (first
    | (with_reducible refine run_n ?_; with_reducible first | refine hK _ _ (by simp) ?_ | refine hK _ _ ?_; clear hK K)
    | (with_reducible first | refine awp_seq ?_ | refine then_n ?_ | refine then_r ?_ | refine then_e ?_ | refine awp_skip ?_ | refine awp_label ?_ | refine awp_ret ?_ | refine awp_exit ?_ | refine awp_block ?_ | refine awp_scope ?_ | refine in_n ?_ | refine in_r ?_ | refine in_e ?_ | refine in_ne (by decide) ?_ | refine ng_n ?_ | refine ng_r ?_ | refine ng_e ?_)
    | (with_reducible refine awp_regT (by kernel_rfl) ?_; intro K hK)
    | (with_reducible refine a_cond (ht := ?_) (hf := ?_) <;> intro hb <;> (try simp at hb) <;> (try contradiction) <;> (try subst hb) <;> (try omega))
    | (with_reducible first | refine a_move (hr := ?_) | refine a_assign (hr := ?_) | refine a_bin (hr := ?_) | refine a_eqB (hr := ?_) | refine a_eqS (hr := ?_))
    | fail)
  all_goals (try (refine hQ _ _ _ _ (by first | exact .inr rfl | exact .inl rfl) (by simp; exact .r) (by simp; exact .r) ?_))
  all_goals (first | exact Fin.refl _ _ | (simp [lay, *]; exact Fin.refl _ _))
abbrev refAV (k : Int) (n y d i : ByteArray) (t o a : Int) : AV := .agg [.raw (.int .u8 k), .raw (.string n), .raw (.string y), .raw (.string d), .raw (.string i), .raw (.int .u64 t), .raw (.int .u64 o), .raw (.int .u64 a)]
def textAt (c : Int) : AV := if c = 110 then .ptr 100000 1 else if c = 107 then .ptr 100000 2 else if c = 100 then .ptr 100000 3 else if c = 105 then .ptr 100000 4 else .raw (.pointer none)
def numAt (c : Int) : AV := if c = 116 then .ptr 100000 5 else if c = 111 then .ptr 100000 6 else .ptr 100000 7
theorem c_text (c k : Int) (n y d i : ByteArray) (t o a : Int) : CallD Try.prog 54 [.ptr 100000 0, .raw (.int .u8 c)] (setH noHeap 100000 (.box (refAV k n y d i t o a))) (textAt c) (setH noHeap 100000 (.box (refAV k n y d i t o a))) := by
  refine calls_go (nt := 26) (rs := [.tmp 4]) Try.func54 rfl rfl rfl (by simp) (by intro id h; simp at h <;> omega) ?_; intro Q hQ hW
  repeat' (first
    | (with_reducible refine run_n ?_; with_reducible first | refine hK _ _ (by simp) ?_ | refine hK _ _ ?_; clear hK K)
    | (with_reducible first | refine awp_seq ?_ | refine then_n ?_ | refine then_r ?_ | refine then_e ?_ | refine awp_skip ?_ | refine awp_label ?_ | refine awp_ret ?_ | refine awp_exit ?_ | refine awp_block ?_ | refine awp_scope ?_ | refine in_n ?_ | refine in_r ?_ | refine in_e ?_ | refine in_ne (by decide) ?_ | refine ng_n ?_ | refine ng_r ?_ | refine ng_e ?_)
    | (with_reducible refine awp_regT (by kernel_rfl) ?_; intro K hK)
    | (with_reducible refine a_cond (ht := ?_) (hf := ?_) <;> intro hb <;> (try simp at hb) <;> (try contradiction) <;> (try subst hb) <;> (try omega))
    | (with_reducible first | refine a_move (hr := ?_) | refine a_assign (hr := ?_) | refine a_fieldAddr (hr := ?_) | refine a_nilCheck (hr := ?_) | refine a_bin (hr := ?_) | refine a_eqP (hr := ?_) | refine a_neP (hr := ?_) | refine a_eqB (hr := ?_) | refine a_eqS (hr := ?_))
    | fail)
  all_goals (try (refine hQ _ _ _ _ (by first | exact .inr rfl | exact .inl rfl) (by simp; exact .r) (by simp; exact .r) ?_))
  all_goals (first | exact Fin.refl _ _ | (simp [textAt, *]; exact Fin.refl _ _))
theorem c_number (c k : Int) (n y d i : ByteArray) (t o a : Int) : CallD Try.prog 56 [.ptr 100000 0, .raw (.int .u8 c)] (setH noHeap 100000 (.box (refAV k n y d i t o a))) (numAt c) (setH noHeap 100000 (.box (refAV k n y d i t o a))) := by
  refine calls_go (nt := 19) (rs := [.tmp 4]) Try.func56 rfl rfl rfl (by simp) (by intro id h; simp at h <;> omega) ?_; intro Q hQ hW
  repeat' (first
    | (with_reducible refine run_n ?_; with_reducible first | refine hK _ _ (by simp) ?_ | refine hK _ _ ?_; clear hK K)
    | (with_reducible first | refine awp_seq ?_ | refine then_n ?_ | refine then_r ?_ | refine then_e ?_ | refine awp_skip ?_ | refine awp_label ?_ | refine awp_ret ?_ | refine awp_exit ?_ | refine awp_block ?_ | refine awp_scope ?_ | refine in_n ?_ | refine in_r ?_ | refine in_e ?_ | refine in_ne (by decide) ?_ | refine ng_n ?_ | refine ng_r ?_ | refine ng_e ?_)
    | (with_reducible refine awp_regT (by kernel_rfl) ?_; intro K hK)
    | (with_reducible refine a_cond (ht := ?_) (hf := ?_) <;> intro hb <;> (try simp at hb) <;> (try contradiction) <;> (try subst hb) <;> (try omega))
    | (with_reducible first | refine a_move (hr := ?_) | refine a_assign (hr := ?_) | refine a_fieldAddr (hr := ?_) | refine a_nilCheck (hr := ?_) | refine a_bin (hr := ?_) | refine a_eqP (hr := ?_) | refine a_neP (hr := ?_) | refine a_eqB (hr := ?_) | refine a_eqS (hr := ?_))
    | fail)
  all_goals (try (refine hQ _ _ _ _ (by first | exact .inr rfl | exact .inl rfl) (by simp; exact .r) (by simp; exact .r) ?_))
  all_goals (first | exact Fin.refl _ _ | (simp [numAt, *]; exact Fin.refl _ _))
end Go.Proofs.Ytdbdajmgfajcpaa.Asl
