/- pack as the document has it, and two laws of chapter 1. -/
import Derived.Test.YtdbdajmgfajcpaaP2
import Derived.Test.YtdbdajmgfajcpaaAZ
namespace Go.Proofs.Ytdbdajmgfajcpaa.Asl
open Go Go.RowKit
set_option linter.unusedVariables false
set_option linter.unusedSimpArgs false
set_option maxRecDepth 100000
set_option maxHeartbeats 2000000
theorem c_rUintT (n : Int) (h0 : 0 ≤ n) (h1 : n < 18446744073709551616) : CallD Try.prog 33 [.raw (.int .u64 n)] noHeap (.sl 1 (u8s (enc 9 n))) noHeap := by
  have e : (128 : Int) ^ (9 + 1) = 1180591620717411303424 := by decide
  exact c_rUintF 9 n (by decide) h0 (by rw [e]; omega) h1
@[simp] theorem bytes_take (s : ByteArray) : (bytesOf s).take s.size = bytesOf s := List.take_of_length_le (by rw [len_bytes]; exact Nat.le_refl _)
attribute [local simp] len_bytes
theorem c_rText (s : ByteArray) (hs : s.size ≤ 140737488351232) : CallD Try.prog 67 [.raw (.string s)] noHeap (.sl 1 (u8s (enc 9 s.size ++ bytesOf s))) noHeap := by
  have hl := (enc_len 9 s.size).1
  have hl2 := len_bytes s
  have hu := c_rUintT s.size (by omega) (by omega)
  have hj : CallD Try.prog 66 [.sl 1 [.sl 1 (u8s (enc 9 s.size)), .sl 1 (u8s (bytesOf s))]] noHeap (.sl 1 (u8s (enc 9 s.size ++ bytesOf s))) noHeap := by
    have := c_rJoinT [enc 9 s.size, bytesOf s] (by simp; omega) (by simp)
    simp only [List.flatten_cons, List.flatten_nil, List.append_nil] at this
    exact this
  refine calls_go (nt := 11) (rs := [.tmp 2]) Try.func67 rfl rfl rfl (by simp) (by intro id h; simp at h <;> omega) ?_; intro Q hQ hW
  repeat' (first
    | (with_reducible refine run_n ?_; with_reducible first | refine hK _ _ (by simp) ?_ | refine hK _ _ ?_; clear hK K)
    | (with_reducible first | refine awp_seq ?_ | refine then_n ?_ | refine then_r ?_ | refine then_e ?_ | refine awp_skip ?_ | refine awp_label ?_ | refine awp_ret ?_ | refine awp_exit ?_ | refine awp_block ?_ | refine awp_scope ?_ | refine in_n ?_ | refine in_r ?_ | refine in_e ?_ | refine in_ne (by decide) ?_ | refine ng_n ?_ | refine ng_r ?_ | refine ng_e ?_)
    | (with_reducible refine awp_regT (by kernel_rfl) ?_; intro K hK)
    | (with_reducible refine a_cond (ht := ?_) (hf := ?_) <;> intro hb <;> (try simp at hb) <;> (try contradiction) <;> (try subst hb) <;> (try omega))
    | (with_reducible first | refine a_move (hr := ?_) | refine a_assign (hr := ?_) | refine a_lenS (hr := ?_) | refine a_lenR (hr := ?_) | refine a_conv (hr := ?_) | refine a_bytesStr (hr := ?_) | refine a_strBytes (hr := ?_) | refine a_buildSlice (hr := ?_) | refine a_callN (hcall := hu) (hr := ?_) | refine a_callF (hcall := hj) (hr := ?_))
    | fail)
  (refine hQ _ _ _ _ (by first | exact .inr rfl | exact .inl rfl) (by simp; exact .r) (by simp; exact .r) ?_)
  exact Fin.drop (by simp; exact .r) (by simp)
theorem c_rInt (n : Int) (h0 : -9223372036854775808 ≤ n) (h1 : n < 9223372036854775808) : CallD Try.prog 105 [.raw (.int .i64 n)] noHeap (.sl 1 (u8s (enc 9 (zz n)))) noHeap := by
  have hr := zz_range h0 h1
  have hu := c_rUintT (zz n) hr.1 hr.2
  unfold zz at hu ⊢
  by_cases h : n < 0
  · rw [if_pos h] at hu ⊢
    refine calls_go (nt := 15) (rs := [.tmp 2]) Try.func105 rfl rfl rfl (by simp) (by intro id h; simp at h <;> omega) ?_; intro Q hQ hW
    repeat' (first
    | (with_reducible refine run_n ?_; with_reducible first | refine hK _ _ (by simp) ?_ | refine hK _ _ ?_; clear hK K)
    | (with_reducible first | refine awp_seq ?_ | refine then_n ?_ | refine then_r ?_ | refine then_e ?_ | refine awp_skip ?_ | refine awp_label ?_ | refine awp_ret ?_ | refine awp_exit ?_ | refine awp_block ?_ | refine awp_scope ?_ | refine in_n ?_ | refine in_r ?_ | refine in_e ?_ | refine in_ne (by decide) ?_ | refine ng_n ?_ | refine ng_r ?_ | refine ng_e ?_)
    | (with_reducible refine awp_regT (by kernel_rfl) ?_; intro K hK)
    | (with_reducible refine a_cond (ht := ?_) (hf := ?_) <;> intro hb <;> (try simp at hb) <;> (try contradiction) <;> (try subst hb) <;> (try omega))
    | (with_reducible first | refine a_move (hr := ?_) | refine a_assign (hr := ?_) | refine a_bin (hr := ?_) | refine a_conv (hr := ?_) | refine a_bytesStr (hr := ?_) | refine a_strBytes (hr := ?_) | refine a_callN (hcall := hu) (hr := ?_))
    | fail)
    (refine hQ _ _ _ _ (by first | exact .inr rfl | exact .inl rfl) (by simp; exact .r) (by simp; exact .r) ?_)
    exact Fin.drop (by simp; exact .r) (by simp)
  · rw [if_neg h] at hu ⊢
    refine calls_go (nt := 15) (rs := [.tmp 2]) Try.func105 rfl rfl rfl (by simp) (by intro id h; simp at h <;> omega) ?_; intro Q hQ hW
    repeat' (first
    | (with_reducible refine run_n ?_; with_reducible first | refine hK _ _ (by simp) ?_ | refine hK _ _ ?_; clear hK K)
    | (with_reducible first | refine awp_seq ?_ | refine then_n ?_ | refine then_r ?_ | refine then_e ?_ | refine awp_skip ?_ | refine awp_label ?_ | refine awp_ret ?_ | refine awp_exit ?_ | refine awp_block ?_ | refine awp_scope ?_ | refine in_n ?_ | refine in_r ?_ | refine in_e ?_ | refine in_ne (by decide) ?_ | refine ng_n ?_ | refine ng_r ?_ | refine ng_e ?_)
    | (with_reducible refine awp_regT (by kernel_rfl) ?_; intro K hK)
    | (with_reducible refine a_cond (ht := ?_) (hf := ?_) <;> intro hb <;> (try simp at hb) <;> (try contradiction) <;> (try subst hb) <;> (try omega))
    | (with_reducible first | refine a_move (hr := ?_) | refine a_assign (hr := ?_) | refine a_bin (hr := ?_) | refine a_conv (hr := ?_) | refine a_bytesStr (hr := ?_) | refine a_strBytes (hr := ?_) | refine a_callN (hcall := hu) (hr := ?_))
    | fail)
    (refine hQ _ _ _ _ (by first | exact .inr rfl | exact .inl rfl) (by simp; exact .r) (by simp; exact .r) ?_)
    exact Fin.drop (by simp; exact .r) (by simp)
theorem strOf_inj {a b : List Int} (ha : IsB a) (hb : IsB b) (h : strOfNums a = strOfNums b) : a = b := by
  have := congrArg bytesOf h
  rwa [bytes_of_nums ha, bytes_of_nums hb] at this
theorem c_rEqual (a b : List Int) (ha : a.length < 9223372036854775808) (hb : b.length < 9223372036854775808) (hA : IsB a) (hB : IsB b) : CallD Try.prog 24 [.sl 1 (u8s a), .sl 1 (u8s b)] noHeap (.raw (.bool (decide (a = b)))) noHeap := by
  have he : decide (a = b) = decide (strOfNums a = strOfNums b) := by
    rw [decide_eq_decide]
    exact ⟨fun h => by rw [h], strOf_inj hA hB⟩
  rw [he]
  refine calls_go (nt := 10) (rs := [.tmp 4]) Try.func24 rfl rfl rfl (by simp) (by intro id h; simp at h <;> omega) ?_; intro Q hQ hW
  repeat' (first
    | (with_reducible refine run_n ?_; with_reducible first | refine hK _ _ (by simp) ?_ | refine hK _ _ ?_; clear hK K)
    | (with_reducible first | refine awp_seq ?_ | refine then_n ?_ | refine then_r ?_ | refine then_e ?_ | refine awp_skip ?_ | refine awp_label ?_ | refine awp_ret ?_ | refine awp_exit ?_ | refine awp_block ?_ | refine awp_scope ?_ | refine in_n ?_ | refine in_r ?_ | refine in_e ?_ | refine in_ne (by decide) ?_ | refine ng_n ?_ | refine ng_r ?_ | refine ng_e ?_)
    | (with_reducible refine awp_regT (by kernel_rfl) ?_; intro K hK)
    | (with_reducible refine a_cond (ht := ?_) (hf := ?_) <;> intro hb <;> (try simp at hb) <;> (try contradiction) <;> (try subst hb) <;> (try omega))
    | (with_reducible first | refine a_move (hr := ?_) | refine a_assign (hr := ?_) | refine a_bin (hr := ?_) | refine a_eqB (hr := ?_) | refine a_conv (hr := ?_) | refine a_bytesStr (hr := ?_) | refine a_strBytes (hr := ?_) | refine a_eqS (hr := ?_))
    | fail)
  (refine hQ _ _ _ _ (by first | exact .inr rfl | exact .inl rfl) (by simp; exact .r) (by simp; exact .r) ?_)
  exact Fin.drop (by simp; exact .r) (by simp)
theorem c_rEqualT (a : List Int) (ha : a.length < 9223372036854775808) (hA : IsB a) : CallD Try.prog 24 [.sl 1 (u8s a), .sl 1 (u8s a)] noHeap (.raw (.bool true)) noHeap := by
  have := c_rEqual a a ha ha hA hA
  simpa using this
end Go.Proofs.Ytdbdajmgfajcpaa.Asl