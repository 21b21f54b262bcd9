/- Chapter 15: instances, tokens and arms: what is written. -/
import Derived.Test.YtdbdajmgfajcpaaEF
import Derived.Test.YtdbdajmgfajcpaaP3
namespace Go.Proofs.Ytdbdajmgfajcpaa.Asl
open Go Go.RowKit
set_option linter.unusedVariables false
set_option linter.unusedSimpArgs false
set_option maxRecDepth 100000
set_option maxHeartbeats 4000000
abbrev instAV (d : ByteArray) (v s : Int) (c : ByteArray) (x : Int) : AV := .agg [.raw (.string d), .raw (.int .u64 v), .raw (.int .i64 s), .raw (.string c), .raw (.int .u64 x)]
def instB (d : ByteArray) (v s : Int) (c : ByteArray) (x : Int) : Bool := (if s = 3 then nameB (bytesOf c) else decide (c = ⟨#[]⟩)) && nameB (bytesOf d) && !decide (v = 0) && !decide (x = 0) && decide (1 ≤ s) && decide (s ≤ 4)
theorem instB_of {d c : ByteArray} {v s x : Int} (h : instB d v s c x = true) : (if s = 3 then nameB (bytesOf c) = true else c = ⟨#[]⟩) ∧ nameB (bytesOf d) = true ∧ v ≠ 0 ∧ x ≠ 0 ∧ 1 ≤ s ∧ s ≤ 4 := by
  simp only [instB, Bool.and_eq_true, Bool.not_eq_true', decide_eq_true_eq, decide_eq_false_iff_not] at h
  obtain ⟨⟨⟨⟨⟨a, b⟩, c⟩, d⟩, e⟩, f⟩ := h
  refine ⟨?_, b, c, d, e, f⟩
  split
  · rename_i h3; rw [if_pos h3] at a; exact a
  · rename_i h3; rw [if_neg h3] at a; simpa using a
theorem c_mayInst (d : ByteArray) (v s : Int) (c : ByteArray) (x : Int) (hd : d.size < 9223372036854775808) (hc : c.size < 9223372036854775808) : CallD Try.prog 63 [instAV d v s c x] noHeap (.raw (.int .i64 (if instB d v s c x = true then 0 else 1))) noHeap := by
  have h1 := c_Name d hd
  have h2 := c_Name c hc
  generalize hB : instB d v s c x = b
  unfold instB at hB
  generalize nameB (bytesOf d) = bd at h1 hB
  generalize nameB (bytesOf c) = bc at h2 hB
  by_cases s3 : s = 3
  · subst s3
    rw [if_pos rfl] at hB
    cases bd <;> cases bc <;> by_cases v0 : v = 0 <;> by_cases x0 : x = 0
    all_goals (simp [v0, x0] at hB; subst hB)
    all_goals
      refine calls_go (nt := 41) (rs := [.tmp 2]) Try.func63 rfl rfl rfl (by simp) (by intro id h; simp at h <;> omega) ?_; intro Q hQ hW
      repeat' (first
    | (with_reducible refine run_n ?_; with_reducible first | refine hK _ _ (by simp) ?_ | refine hK _ _ ?_; clear hK K)
    | (with_reducible first | refine awp_seq ?_ | refine then_n ?_ | refine then_r ?_ | refine then_e ?_ | refine awp_skip ?_ | refine awp_label ?_ | refine awp_ret ?_ | refine awp_exit ?_ | refine awp_block ?_ | refine awp_scope ?_ | refine in_n ?_ | refine in_r ?_ | refine in_e ?_ | refine in_ne (by decide) ?_ | refine ng_n ?_ | refine ng_r ?_ | refine ng_e ?_)
    | (with_reducible refine awp_regT (by kernel_rfl) ?_; intro K hK)
    | (with_reducible refine a_cond (ht := ?_) (hf := ?_) <;> intro hb <;> (try simp at hb) <;> (try contradiction) <;> (try subst hb) <;> (try omega))
    | (with_reducible first | refine a_move (hr := ?_) | refine a_assign (hr := ?_) | refine a_load (hr := ?_) | refine a_fieldAddr (hr := ?_) | refine a_bin (hr := ?_) | refine a_pick (hr := ?_) | refine a_un (hr := ?_) | refine a_box (hr := ?_) | refine a_eqB (hr := ?_) | refine a_eqS (hr := ?_) | refine a_call0 (hcall := h1) (hr := ?_) | refine a_call0 (hcall := h2) (hr := ?_) | refine a_gT (hr := ?_) | refine a_gF (hr := ?_) | refine a_gU (hr := ?_))
    | (with_reducible refine a_gB (hT := ?_) (hF := ?_) <;> intro hb <;> (try simp at hb) <;> (try contradiction) <;> (try subst hb) <;> (try omega))
    | fail)
      all_goals ((refine hQ _ _ _ _ (by first | exact .inr rfl | exact .inl rfl) (by simp; exact .r) (by simp; exact .r) ?_))
      all_goals (exact Fin.drop (by simp; exact .r) (by simp))
  · rw [if_neg s3] at hB
    by_cases c0 : c = ⟨#[]⟩
    · subst c0
      cases bd <;> by_cases v0 : v = 0 <;> by_cases x0 : x = 0 <;> by_cases s1 : 1 ≤ s <;> by_cases s4 : s ≤ 4
      all_goals (simp [v0, x0, s1, s4] at hB; subst hB)
      all_goals
        refine calls_go (nt := 41) (rs := [.tmp 2]) Try.func63 rfl rfl rfl (by simp) (by intro id h; simp at h <;> omega) ?_; intro Q hQ hW
        repeat' (first
    | (with_reducible refine run_n ?_; with_reducible first | refine hK _ _ (by simp) ?_ | refine hK _ _ ?_; clear hK K)
    | (with_reducible first | refine awp_seq ?_ | refine then_n ?_ | refine then_r ?_ | refine then_e ?_ | refine awp_skip ?_ | refine awp_label ?_ | refine awp_ret ?_ | refine awp_exit ?_ | refine awp_block ?_ | refine awp_scope ?_ | refine in_n ?_ | refine in_r ?_ | refine in_e ?_ | refine in_ne (by decide) ?_ | refine ng_n ?_ | refine ng_r ?_ | refine ng_e ?_)
    | (with_reducible refine awp_regT (by kernel_rfl) ?_; intro K hK)
    | (with_reducible refine a_cond (ht := ?_) (hf := ?_) <;> intro hb <;> (try simp at hb) <;> (try contradiction) <;> (try subst hb) <;> (try omega))
    | (with_reducible first | refine a_move (hr := ?_) | refine a_assign (hr := ?_) | refine a_load (hr := ?_) | refine a_fieldAddr (hr := ?_) | refine a_bin (hr := ?_) | refine a_pick (hr := ?_) | refine a_un (hr := ?_) | refine a_box (hr := ?_) | refine a_eqB (hr := ?_) | refine a_eqS (hr := ?_) | refine a_call0 (hcall := h1) (hr := ?_) | refine a_call0 (hcall := h2) (hr := ?_) | refine a_gT (hr := ?_) | refine a_gF (hr := ?_) | refine a_gU (hr := ?_))
    | (with_reducible refine a_gB (hT := ?_) (hF := ?_) <;> intro hb <;> (try simp at hb) <;> (try contradiction) <;> (try subst hb) <;> (try omega))
    | fail)
        all_goals ((refine hQ _ _ _ _ (by first | exact .inr rfl | exact .inl rfl) (by simp; exact .r) (by simp; exact .r) ?_))
        all_goals (exact Fin.drop (by simp; exact .r) (by simp))
    · simp [c0] at hB
      subst hB
      refine calls_go (nt := 41) (rs := [.tmp 2]) Try.func63 rfl rfl rfl (by simp) (by intro id h; simp at h <;> omega) ?_; intro Q hQ hW
      repeat' (first
    | (with_reducible refine run_n ?_; with_reducible first | refine hK _ _ (by simp) ?_ | refine hK _ _ ?_; clear hK K)
    | (with_reducible first | refine awp_seq ?_ | refine then_n ?_ | refine then_r ?_ | refine then_e ?_ | refine awp_skip ?_ | refine awp_label ?_ | refine awp_ret ?_ | refine awp_exit ?_ | refine awp_block ?_ | refine awp_scope ?_ | refine in_n ?_ | refine in_r ?_ | refine in_e ?_ | refine in_ne (by decide) ?_ | refine ng_n ?_ | refine ng_r ?_ | refine ng_e ?_)
    | (with_reducible refine awp_regT (by kernel_rfl) ?_; intro K hK)
    | (with_reducible refine a_cond (ht := ?_) (hf := ?_) <;> intro hb <;> (try simp at hb) <;> (try contradiction) <;> (try subst hb) <;> (try omega))
    | (with_reducible first | refine a_move (hr := ?_) | refine a_assign (hr := ?_) | refine a_load (hr := ?_) | refine a_fieldAddr (hr := ?_) | refine a_bin (hr := ?_) | refine a_pick (hr := ?_) | refine a_un (hr := ?_) | refine a_box (hr := ?_) | refine a_eqB (hr := ?_) | refine a_eqS (hr := ?_) | refine a_call0 (hcall := h1) (hr := ?_) | refine a_call0 (hcall := h2) (hr := ?_) | refine a_gT (hr := ?_) | refine a_gF (hr := ?_) | refine a_gU (hr := ?_))
    | (with_reducible refine a_gB (hT := ?_) (hF := ?_) <;> intro hb <;> (try simp at hb) <;> (try contradiction) <;> (try subst hb) <;> (try omega))
    | fail)
      all_goals ((refine hQ _ _ _ _ (by first | exact .inr rfl | exact .inl rfl) (by simp; exact .r) (by simp; exact .r) ?_))
      all_goals (exact Fin.drop (by simp; exact .r) (by simp))
theorem c_rinst (d : ByteArray) (v s : Int) (c : ByteArray) (x : Int) (hd : d.size < 9223372036854775808) (hc : c.size < 9223372036854775808) (hv : 0 ≤ v) (hx : 0 ≤ x) : CallD Try.prog 65 [instAV d v s c x] noHeap (.raw (.bool (instB d v s c x))) noHeap := by
  have h1 := c_rName d hd
  have h2 := c_rName c hc
  generalize hB : instB d v s c x = b
  unfold instB at hB
  generalize nameB (bytesOf d) = bd at h1 hB
  generalize nameB (bytesOf c) = bc at h2 hB
  by_cases s3 : s = 3
  · subst s3
    rw [if_pos rfl] at hB
    cases bd <;> cases bc <;> by_cases v0 : v = 0 <;> by_cases x0 : x = 0
    all_goals (simp [v0, x0] at hB; subst hB)
    all_goals
      refine calls_go (nt := 47) (rs := [.tmp 2]) Try.func65 rfl rfl rfl (by simp) (by intro id h; simp at h <;> omega) ?_; intro Q hQ hW
      repeat' (first
    | (with_reducible refine run_n ?_; with_reducible first | refine hK _ _ (by simp) ?_ | refine hK _ _ ?_; clear hK K)
    | (with_reducible first | refine awp_seq ?_ | refine then_n ?_ | refine then_r ?_ | refine then_e ?_ | refine awp_skip ?_ | refine awp_label ?_ | refine awp_ret ?_ | refine awp_exit ?_ | refine awp_block ?_ | refine awp_scope ?_ | refine in_n ?_ | refine in_r ?_ | refine in_e ?_ | refine in_ne (by decide) ?_ | refine ng_n ?_ | refine ng_r ?_ | refine ng_e ?_)
    | (with_reducible refine awp_regT (by kernel_rfl) ?_; intro K hK)
    | (with_reducible refine a_cond (ht := ?_) (hf := ?_) <;> intro hb <;> (try simp at hb) <;> (try contradiction) <;> (try subst hb) <;> (try omega))
    | (with_reducible first | refine a_move (hr := ?_) | refine a_assign (hr := ?_) | refine a_load (hr := ?_) | refine a_fieldAddr (hr := ?_) | refine a_bin (hr := ?_) | refine a_pick (hr := ?_) | refine a_un (hr := ?_) | refine a_box (hr := ?_) | refine a_eqB (hr := ?_) | refine a_eqS (hr := ?_) | refine a_call0 (hcall := h1) (hr := ?_) | refine a_call0 (hcall := h2) (hr := ?_) | refine a_gT (hr := ?_) | refine a_gF (hr := ?_) | refine a_gU (hr := ?_))
    | (with_reducible refine a_gB (hT := ?_) (hF := ?_) <;> intro hb <;> (try simp at hb) <;> (try contradiction) <;> (try subst hb) <;> (try omega))
    | fail)
      all_goals ((refine hQ _ _ _ _ (by first | exact .inr rfl | exact .inl rfl) (by simp; exact .r) (by simp; exact .r) ?_))
      all_goals (exact Fin.drop (by simp; exact .r) (by simp))
  · rw [if_neg s3] at hB
    by_cases c0 : c = ⟨#[]⟩
    · subst c0
      cases bd <;> by_cases v0 : v = 0 <;> by_cases x0 : x = 0 <;> by_cases s1 : 1 ≤ s <;> by_cases s4 : s ≤ 4
      all_goals (simp [v0, x0, s1, s4] at hB; subst hB)
      all_goals
        refine calls_go (nt := 47) (rs := [.tmp 2]) Try.func65 rfl rfl rfl (by simp) (by intro id h; simp at h <;> omega) ?_; intro Q hQ hW
        repeat' (first
    | (with_reducible refine run_n ?_; with_reducible first | refine hK _ _ (by simp) ?_ | refine hK _ _ ?_; clear hK K)
    | (with_reducible first | refine awp_seq ?_ | refine then_n ?_ | refine then_r ?_ | refine then_e ?_ | refine awp_skip ?_ | refine awp_label ?_ | refine awp_ret ?_ | refine awp_exit ?_ | refine awp_block ?_ | refine awp_scope ?_ | refine in_n ?_ | refine in_r ?_ | refine in_e ?_ | refine in_ne (by decide) ?_ | refine ng_n ?_ | refine ng_r ?_ | refine ng_e ?_)
    | (with_reducible refine awp_regT (by kernel_rfl) ?_; intro K hK)
    | (with_reducible refine a_cond (ht := ?_) (hf := ?_) <;> intro hb <;> (try simp at hb) <;> (try contradiction) <;> (try subst hb) <;> (try omega))
    | (with_reducible first | refine a_move (hr := ?_) | refine a_assign (hr := ?_) | refine a_load (hr := ?_) | refine a_fieldAddr (hr := ?_) | refine a_bin (hr := ?_) | refine a_pick (hr := ?_) | refine a_un (hr := ?_) | refine a_box (hr := ?_) | refine a_eqB (hr := ?_) | refine a_eqS (hr := ?_) | refine a_call0 (hcall := h1) (hr := ?_) | refine a_call0 (hcall := h2) (hr := ?_) | refine a_gT (hr := ?_) | refine a_gF (hr := ?_) | refine a_gU (hr := ?_))
    | (with_reducible refine a_gB (hT := ?_) (hF := ?_) <;> intro hb <;> (try simp at hb) <;> (try contradiction) <;> (try subst hb) <;> (try omega))
    | fail)
        all_goals ((refine hQ _ _ _ _ (by first | exact .inr rfl | exact .inl rfl) (by simp; exact .r) (by simp; exact .r) ?_))
        all_goals (exact Fin.drop (by simp; exact .r) (by simp))
    · cases bd <;> by_cases v0 : v = 0 <;> by_cases x0 : x = 0 <;> by_cases s1 : 1 ≤ s <;> by_cases s4 : s ≤ 4
      all_goals (simp [v0, x0, s1, s4, c0] at hB; subst hB)
      all_goals
        refine calls_go (nt := 47) (rs := [.tmp 2]) Try.func65 rfl rfl rfl (by simp) (by intro id h; simp at h <;> omega) ?_; intro Q hQ hW
        repeat' (first
    | (with_reducible refine run_n ?_; with_reducible first | refine hK _ _ (by simp) ?_ | refine hK _ _ ?_; clear hK K)
    | (with_reducible first | refine awp_seq ?_ | refine then_n ?_ | refine then_r ?_ | refine then_e ?_ | refine awp_skip ?_ | refine awp_label ?_ | refine awp_ret ?_ | refine awp_exit ?_ | refine awp_block ?_ | refine awp_scope ?_ | refine in_n ?_ | refine in_r ?_ | refine in_e ?_ | refine in_ne (by decide) ?_ | refine ng_n ?_ | refine ng_r ?_ | refine ng_e ?_)
    | (with_reducible refine awp_regT (by kernel_rfl) ?_; intro K hK)
    | (with_reducible refine a_cond (ht := ?_) (hf := ?_) <;> intro hb <;> (try simp at hb) <;> (try contradiction) <;> (try subst hb) <;> (try omega))
    | (with_reducible first | refine a_move (hr := ?_) | refine a_assign (hr := ?_) | refine a_load (hr := ?_) | refine a_fieldAddr (hr := ?_) | refine a_bin (hr := ?_) | refine a_pick (hr := ?_) | refine a_un (hr := ?_) | refine a_box (hr := ?_) | refine a_eqB (hr := ?_) | refine a_eqS (hr := ?_) | refine a_call0 (hcall := h1) (hr := ?_) | refine a_call0 (hcall := h2) (hr := ?_) | refine a_gT (hr := ?_) | refine a_gF (hr := ?_) | refine a_gU (hr := ?_))
    | (with_reducible refine a_gB (hT := ?_) (hF := ?_) <;> intro hb <;> (try simp at hb) <;> (try contradiction) <;> (try subst hb) <;> (try omega))
    | fail)
        all_goals ((refine hQ _ _ _ _ (by first | exact .inr rfl | exact .inl rfl) (by simp; exact .r) (by simp; exact .r) ?_))
        all_goals (first | exact Fin.drop (by simp; exact .r) (by simp) | (simp only [decide_eq_false c0]; exact Fin.drop (by simp; exact .r) (by simp)))
def putInst (d : ByteArray) (v s : Int) (c : ByteArray) (x : Int) : List Int := if instB d v s c x = true then txtL d ++ (enc 9 v ++ ([s] ++ (txtL c ++ enc 9 x))) else []
theorem c_PutInst (d : ByteArray) (v s : Int) (c : ByteArray) (x : Int) (hd : d.size ≤ 100000000) (hc : c.size ≤ 100000000) (hv : 0 ≤ v ∧ v < 18446744073709551616) (hx : 0 ≤ x ∧ x < 18446744073709551616) : CallD Try.prog 25 [instAV d v s c x] noHeap (.sl 1 (u8s (putInst d v s c x))) noHeap := by
  have hm := c_mayInst d v s c x (by omega) (by omega)
  unfold putInst
  cases hB : instB d v s c x with
  | false =>
    rw [hB, if_neg (by simp)] at hm
    rw [if_neg (by simp)]
    refine calls_go (nt := 24) (rs := [.tmp 2]) Try.func25 rfl rfl rfl (by simp) (by intro id h; simp at h <;> omega) ?_; intro Q hQ hW
    repeat' (first
    | (with_reducible refine run_n ?_; with_reducible first | refine hK _ _ (by simp) ?_ | refine hK _ _ ?_; clear hK K)
    | (with_reducible first | refine awp_seq ?_ | refine then_n ?_ | refine then_r ?_ | refine then_e ?_ | refine awp_skip ?_ | refine awp_label ?_ | refine awp_ret ?_ | refine awp_exit ?_ | refine awp_block ?_ | refine awp_scope ?_ | refine in_n ?_ | refine in_r ?_ | refine in_e ?_ | refine in_ne (by decide) ?_ | refine ng_n ?_ | refine ng_r ?_ | refine ng_e ?_)
    | (with_reducible refine awp_regT (by kernel_rfl) ?_; intro K hK)
    | (with_reducible refine awp_regAM (id := 3) [(6, some 1), (9, some 1), (12, some 1), (16, some 1), (19, some 1)] mixed (by kernel_rfl) (by kernel_rfl) ?_; intro K hK)
    | (with_reducible refine a_cond (ht := ?_) (hf := ?_) <;> intro hb <;> (try simp at hb) <;> (try contradiction) <;> (try subst hb) <;> (try omega))
    | (with_reducible first | refine a_assign (hr := ?_) | refine a_load (hr := ?_) | refine a_fieldAddr (hr := ?_) | refine a_bin (hr := ?_) | refine a_box (hr := ?_) | refine a_neB (hr := ?_) | refine a_conv (hr := ?_) | refine a_bytesStr (hr := ?_) | refine a_strBytes (hr := ?_) | refine a_neS (hr := ?_) | refine a_buildSlice (hr := ?_) | refine a_call0 (hcall := hm) (hr := ?_))
    | fail)
    all_goals ((refine hQ _ _ _ _ (by first | exact .inr rfl | exact .inl rfl) (by simp; exact .r) (by simp; exact .r) ?_))
    all_goals (exact Fin.nil (by simp))
  | true =>
    rw [hB, if_pos rfl] at hm
    rw [if_pos rfl]
    have hs := instB_of hB
    have h1 := c_WText d (by omega)
    have h2 := c_UintT v hv.1 hv.2
    have h3 := c_WText c (by omega)
    have h4 := c_UintT x hx.1 hx.2
    have b1 := txtL_len d
    have b2 := (enc_len 9 v).1
    have b3 := txtL_len c
    have b4 := (enc_len 9 x).1
    simp only [txtL] at b1 b3 ⊢
    generalize enc 9 d.size ++ bytesOf d = l1 at h1 b1 ⊢
    generalize enc 9 v = l2 at h2 b2 ⊢
    generalize enc 9 c.size ++ bytesOf c = l3 at h3 b3 ⊢
    generalize enc 9 x = l4 at h4 b4 ⊢
    have hj := c_JoinT [l1, l2, [s], l3, l4] (by simp; omega) (by simp)
    simp only [rws_cons, rws_nil, List.flatten_cons, List.flatten_nil, List.append_nil] at hj
    rw [show u8s [s] = [.raw (.int .u8 s)] from rfl] at hj
    have hw : IntKind.wrap .u8 s = s := wrap_u8 (by omega) (by omega)
    refine calls_go (nt := 24) (rs := [.tmp 2]) Try.func25 rfl rfl rfl (by simp) (by intro id h; simp at h <;> omega) ?_; intro Q hQ hW
    repeat' (first
    | (with_reducible refine run_n ?_; with_reducible first | refine hK _ _ (by simp) ?_ | refine hK _ _ ?_; clear hK K)
    | (with_reducible first | refine awp_seq ?_ | refine then_n ?_ | refine then_r ?_ | refine then_e ?_ | refine awp_skip ?_ | refine awp_label ?_ | refine awp_ret ?_ | refine awp_exit ?_ | refine awp_block ?_ | refine awp_scope ?_ | refine in_n ?_ | refine in_r ?_ | refine in_e ?_ | refine in_ne (by decide) ?_ | refine ng_n ?_ | refine ng_r ?_ | refine ng_e ?_)
    | (with_reducible refine awp_regT (by kernel_rfl) ?_; intro K hK)
    | (with_reducible refine awp_regAM (id := 3) [(6, some 1), (9, some 1), (12, some 1), (16, some 1), (19, some 1)] mixed (by kernel_rfl) (by kernel_rfl) ?_; intro K hK)
    | (with_reducible refine a_cond (ht := ?_) (hf := ?_) <;> intro hb <;> (try simp at hb) <;> (try contradiction) <;> (try subst hb) <;> (try omega))
    | (with_reducible first | refine a_assign (hr := ?_) | refine a_load (hr := ?_) | refine a_fieldAddr (hr := ?_) | refine a_bin (hr := ?_) | refine a_box (hr := ?_) | refine a_neB (hr := ?_) | refine a_conv (hr := ?_) | refine a_bytesStr (hr := ?_) | refine a_strBytes (hr := ?_) | refine a_neS (hr := ?_) | refine a_buildSlice (hr := ?_) | refine a_call0 (hcall := hm) (hr := ?_) | refine a_callN (hcall := h1) (hr := ?_) | refine a_callN (hcall := h2) (hr := ?_) | refine a_callN (hcall := h3) (hr := ?_) | refine a_callN (hcall := h4) (hr := ?_) | refine a_callF (hcall := hj) (hr := ?_))
    | fail)
    all_goals ((refine hQ _ _ _ _ (by first | exact .inr rfl | exact .inl rfl) (by simp; exact .r) (by simp; exact .r) ?_))
    all_goals (exact Fin.drop (by simp; exact .r) (by simp))
theorem c_rPutInst (d : ByteArray) (v s : Int) (c : ByteArray) (x : Int) (hd : d.size ≤ 100000000) (hc : c.size ≤ 100000000) (hv : 0 ≤ v ∧ v < 18446744073709551616) (hx : 0 ≤ x ∧ x < 18446744073709551616) : CallD Try.prog 26 [instAV d v s c x] noHeap (.sl 1 (u8s (putInst d v s c x))) noHeap := by
  have hm := c_rinst d v s c x (by omega) (by omega) hv.1 hx.1
  unfold putInst
  cases hB : instB d v s c x with
  | false =>
    rw [hB] at hm
    rw [if_neg (by simp)]
    refine calls_go (nt := 24) (rs := [.tmp 2]) Try.func26 rfl rfl rfl (by simp) (by intro id h; simp at h <;> omega) ?_; intro Q hQ hW
    repeat' (first
    | (with_reducible refine run_n ?_; with_reducible first | refine hK _ _ (by simp) ?_ | refine hK _ _ ?_; clear hK K)
    | (with_reducible first | refine awp_seq ?_ | refine then_n ?_ | refine then_r ?_ | refine then_e ?_ | refine awp_skip ?_ | refine awp_label ?_ | refine awp_ret ?_ | refine awp_exit ?_ | refine awp_block ?_ | refine awp_scope ?_ | refine in_n ?_ | refine in_r ?_ | refine in_e ?_ | refine in_ne (by decide) ?_ | refine ng_n ?_ | refine ng_r ?_ | refine ng_e ?_)
    | (with_reducible refine awp_regT (by kernel_rfl) ?_; intro K hK)
    | (with_reducible refine awp_regAM (id := 3) [(6, some 1), (9, some 1), (12, some 1), (16, some 1), (19, some 1)] mixed (by kernel_rfl) (by kernel_rfl) ?_; intro K hK)
    | (with_reducible refine a_cond (ht := ?_) (hf := ?_) <;> intro hb <;> (try simp at hb) <;> (try contradiction) <;> (try subst hb) <;> (try omega))
    | (with_reducible first | refine a_assign (hr := ?_) | refine a_load (hr := ?_) | refine a_fieldAddr (hr := ?_) | refine a_un (hr := ?_) | refine a_box (hr := ?_) | refine a_conv (hr := ?_) | refine a_bytesStr (hr := ?_) | refine a_strBytes (hr := ?_) | refine a_buildSlice (hr := ?_) | refine a_call0 (hcall := hm) (hr := ?_))
    | fail)
    all_goals ((refine hQ _ _ _ _ (by first | exact .inr rfl | exact .inl rfl) (by simp; exact .r) (by simp; exact .r) ?_))
    all_goals (exact Fin.nil (by simp))
  | true =>
    rw [hB] at hm
    rw [if_pos rfl]
    have hs := instB_of hB
    have h1 := c_rText d (by omega)
    have h2 := c_rUintT v hv.1 hv.2
    have h3 := c_rText c (by omega)
    have h4 := c_rUintT x hx.1 hx.2
    have b1 := txtL_len d
    have b2 := (enc_len 9 v).1
    have b3 := txtL_len c
    have b4 := (enc_len 9 x).1
    simp only [txtL] at b1 b3 ⊢
    generalize enc 9 d.size ++ bytesOf d = l1 at h1 b1 ⊢
    generalize enc 9 v = l2 at h2 b2 ⊢
    generalize enc 9 c.size ++ bytesOf c = l3 at h3 b3 ⊢
    generalize enc 9 x = l4 at h4 b4 ⊢
    have hj := c_rJoinT [l1, l2, [s], l3, l4] (by simp; omega) (by simp)
    simp only [rws_cons, rws_nil, List.flatten_cons, List.flatten_nil, List.append_nil] at hj
    rw [show u8s [s] = [.raw (.int .u8 s)] from rfl] at hj
    refine calls_go (nt := 24) (rs := [.tmp 2]) Try.func26 rfl rfl rfl (by simp) (by intro id h; simp at h <;> omega) ?_; intro Q hQ hW
    repeat' (first
    | (with_reducible refine run_n ?_; with_reducible first | refine hK _ _ (by simp) ?_ | refine hK _ _ ?_; clear hK K)
    | (with_reducible first | refine awp_seq ?_ | refine then_n ?_ | refine then_r ?_ | refine then_e ?_ | refine awp_skip ?_ | refine awp_label ?_ | refine awp_ret ?_ | refine awp_exit ?_ | refine awp_block ?_ | refine awp_scope ?_ | refine in_n ?_ | refine in_r ?_ | refine in_e ?_ | refine in_ne (by decide) ?_ | refine ng_n ?_ | refine ng_r ?_ | refine ng_e ?_)
    | (with_reducible refine awp_regT (by kernel_rfl) ?_; intro K hK)
    | (with_reducible refine awp_regAM (id := 3) [(6, some 1), (9, some 1), (12, some 1), (16, some 1), (19, some 1)] mixed (by kernel_rfl) (by kernel_rfl) ?_; intro K hK)
    | (with_reducible refine a_cond (ht := ?_) (hf := ?_) <;> intro hb <;> (try simp at hb) <;> (try contradiction) <;> (try subst hb) <;> (try omega))
    | (with_reducible first | refine a_assign (hr := ?_) | refine a_load (hr := ?_) | refine a_fieldAddr (hr := ?_) | refine a_un (hr := ?_) | refine a_box (hr := ?_) | refine a_conv (hr := ?_) | refine a_bytesStr (hr := ?_) | refine a_strBytes (hr := ?_) | refine a_buildSlice (hr := ?_) | refine a_call0 (hcall := hm) (hr := ?_) | refine a_callN (hcall := h1) (hr := ?_) | refine a_callN (hcall := h2) (hr := ?_) | refine a_callN (hcall := h3) (hr := ?_) | refine a_callN (hcall := h4) (hr := ?_) | refine a_callF (hcall := hj) (hr := ?_))
    | fail)
    all_goals ((refine hQ _ _ _ _ (by first | exact .inr rfl | exact .inl rfl) (by simp; exact .r) (by simp; exact .r) ?_))
    all_goals (exact Fin.drop (by simp; exact .r) (by simp))
end Go.Proofs.Ytdbdajmgfajcpaa.Asl
