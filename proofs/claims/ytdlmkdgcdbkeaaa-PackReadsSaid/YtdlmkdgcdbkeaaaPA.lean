/- One thing that is read, by the program and by the document. -/
import Derived.Test.YtdlmkdgcdbkeaaaP9
namespace Go.Proofs.Ytdlmkdgcdbkeaaa.Asl
open Go Go.RowKit
set_option linter.unusedVariables false
set_option linter.unusedSimpArgs false
set_option maxRecDepth 100000
set_option maxHeartbeats 4000000
def toU (n : Int) : Int := if n < 0 then n + 18446744073709551616 else n
/-- What is read: a number, a text and an error; how many bytes; the error after it. -/
def rd1 (d n : Int) (l : List Int) (e : Int) : (Int × ByteArray × Int) × Nat × Int :=
  if d = 0 then ((if e ≠ 0 then 0 else (dU l (toU n)).1, ⟨#[]⟩, 0), nxA 0 e (dU l (toU n)), nxE e (dU l (toU n)))
  else if d = 1 then ((toU (if e ≠ 0 then 0 else (dI l).1), ⟨#[]⟩, 0), nxA 0 e (dI l), nxE e (dI l))
  else if d = 2 then ((if e ≠ 0 then 0 else (dB l).1, ⟨#[]⟩, 0), nxA 0 e (dB l), nxE e (dB l))
  else if d = 3 then ((0, if e ≠ 0 then ⟨#[]⟩ else strOfNums (dT l n).1, 0), nxA 0 e (dT l n), nxE e (dT l n))
  else ((0, ⟨#[]⟩, endE l e), 0, e)
theorem nxA_add {α : Type} (a : Nat) (e : Int) (d : α × Nat × Int) : nxA a e d = a + nxA 0 e d := by unfold nxA; split <;> omega
theorem toU_wrap {n : Int} (h0 : -9223372036854775808 ≤ n) (h1 : n < 9223372036854775808) : IntKind.wrap .u64 n = toU n := by
  unfold toU
  rw [wrap_u64']
  split <;> omega
theorem dU_le {l : List Int} (hB : IsB l) (most : Int) : (dU l most).2.1 ≤ l.length := by
  have ho := dec_ok0 hB
  unfold dU
  repeat' split
  all_goals simp <;> omega
theorem dT_le {l : List Int} (hB : IsB l) (most : Int) : (dT l most).2.1 ≤ l.length := by
  have ho := dec_ok0 hB
  unfold dT
  repeat' split
  all_goals simp <;> omega
theorem nxA_le {α : Type} (e : Int) (d : α × Nat × Int) {n : Nat} (h : d.2.1 ≤ n) : nxA 0 e d ≤ n := by unfold nxA; split <;> omega
theorem rd1_le {l : List Int} (hB : IsB l) (d n e : Int) : (rd1 d n l e).2.1 ≤ l.length := by
  unfold rd1
  by_cases h0 : d = 0
  · rw [if_pos h0]; exact nxA_le _ _ (dU_le hB _)
  rw [if_neg h0]
  by_cases h1 : d = 1
  · rw [if_pos h1]; exact nxA_le _ _ (dU_le hB _)
  rw [if_neg h1]
  by_cases h2 : d = 2
  · rw [if_pos h2]; exact nxA_le _ _ (by cases l <;> simp [dB])
  rw [if_neg h2]
  by_cases h3 : d = 3
  · rw [if_pos h3]; exact nxA_le _ _ (dT_le hB _)
  rw [if_neg h3]; exact Nat.zero_le _
abbrev opAV (o : Int × Int) : AV := .agg [.raw (.int .i64 o.1), .raw (.int .i64 o.2)]
abbrev triAV (t : Int × ByteArray × Int) : AV := .tup [.raw (.int .u64 t.1), .raw (.string t.2.1), .raw (.int .i64 t.2.2)]
theorem dI_range {l : List Int} (hB : IsB l) : -9223372036854775808 ≤ (dI l).1 ∧ (dI l).1 < 9223372036854775808 := by
  have hr : 0 ≤ (dU l 18446744073709551615).1 ∧ (dU l 18446744073709551615).1 < 18446744073709551616 := by
    have ho := dec_ok0 hB
    unfold dU
    repeat' split
    all_goals simp <;> omega
  show -9223372036854775808 ≤ unz (dU l 18446744073709551615).1 ∧ unz (dU l 18446744073709551615).1 < 9223372036854775808
  unfold unz
  split <;> omega
theorem dB_range {l : List Int} (hB : IsB l) : 0 ≤ (dB l).1 ∧ (dB l).1 ≤ 255 := by
  cases l with
  | nil => exact ⟨Int.le_refl _, by decide⟩
  | cons c l => exact (isB_cons.1 hB).1
theorem c_does (bs : List Int) (a : Nat) (e d n : Int) (hB : IsB bs) (hb' : bs.length < 4611686018427387904) (ha : a ≤ bs.length) (hn : -9223372036854775808 ≤ n ∧ n < 9223372036854775808) : CallD Try.prog 29 [.ptr 100000 0, opAV (d, n)] (rdH bs a e) (triAV (rd1 d n (bs.drop a) e).1) (rdH bs ((a + (rd1 d n (bs.drop a) e).2.1 : Nat)) (rd1 d n (bs.drop a) e).2.2) := by
  have hw := toU_wrap hn.1 hn.2
  unfold rd1
  by_cases h0 : d = 0
  · subst h0
    have h := c_RdUint bs a e (toU n) hB (by omega) ha
    rw [nxA_add] at h
    simp only [if_true]
    generalize (if e ≠ 0 then 0 else (dU (bs.drop a) (toU n)).1) = v at h ⊢
    generalize nxA 0 e (dU (bs.drop a) (toU n)) = k at h ⊢
    generalize nxE e (dU (bs.drop a) (toU n)) = e2 at h ⊢
    rw [← hw] at h
    refine calls_go (nt := 34) (rs := [.tmp 4, .tmp 5, .tmp 6]) Try.func29 rfl rfl rfl (by simp) (by intro id h; simp at h <;> omega) ?_; intro Q hQ hW
    repeat' (first
    | (with_reducible refine run_n ?_; with_reducible first | refine hK _ _ (by simp) ?_ | refine hK _ _ ?_; clear hK K)
    | (with_reducible first | refine awp_seq ?_ | refine then_n ?_ | refine then_r ?_ | refine then_e ?_ | refine awp_skip ?_ | refine awp_label ?_ | refine awp_ret ?_ | refine awp_exit ?_ | refine awp_block ?_ | refine awp_scope ?_ | refine in_n ?_ | refine in_r ?_ | refine in_e ?_ | refine in_ne (by decide) ?_ | refine ng_n ?_ | refine ng_r ?_ | refine ng_e ?_)
    | (with_reducible refine awp_regM mixed (by kernel_rfl) ?_; intro K hK)
    | (with_reducible refine a_cond (ht := ?_) (hf := ?_) <;> intro hb <;> (try simp at hb) <;> (try contradiction) <;> (try subst hb) <;> (try omega))
    | (with_reducible first | refine a_move (hr := ?_) | refine a_assign (hr := ?_) | refine a_load (hr := ?_) | refine a_fieldAddr (hr := ?_) | refine a_bin (hr := ?_) | refine a_box (hr := ?_) | refine a_eqB (hr := ?_) | refine a_conv (hr := ?_) | refine a_bytesStr (hr := ?_) | refine a_strBytes (hr := ?_) | refine a_eqS (hr := ?_) | refine a_callP (p := 100000) (hcall := h) (hr := ?_))
    | fail)
    all_goals ((refine hQ _ _ _ _ (by first | exact .inr rfl | exact .inl rfl) (by simp; exact .r) (by simp; exact .r) ?_))
    all_goals (exact Fin.keep (by simp; exact .r) (by simp; exact .r) (by simp; exact .r) (by simp))
  by_cases h1 : d = 1
  · subst h1
    have h := c_RdInt bs a e hB (by omega) ha
    rw [nxA_add] at h
    simp only [if_true, show ¬ (1 : Int) = 0 by decide, if_false]
    have hr : -9223372036854775808 ≤ (if e ≠ 0 then 0 else (dI (bs.drop a)).1) ∧ (if e ≠ 0 then 0 else (dI (bs.drop a)).1) < 9223372036854775808 := by split <;> first | omega | exact dI_range (isB_drop hB a)
    generalize (if e ≠ 0 then 0 else (dI (bs.drop a)).1) = v at h hr ⊢
    generalize nxA 0 e (dI (bs.drop a)) = k at h ⊢
    generalize nxE e (dI (bs.drop a)) = e2 at h ⊢
    have hv := toU_wrap hr.1 hr.2
    rw [← hv]
    refine calls_go (nt := 34) (rs := [.tmp 4, .tmp 5, .tmp 6]) Try.func29 rfl rfl rfl (by simp) (by intro id h; simp at h <;> omega) ?_; intro Q hQ hW
    repeat' (first
    | (with_reducible refine run_n ?_; with_reducible first | refine hK _ _ (by simp) ?_ | refine hK _ _ ?_; clear hK K)
    | (with_reducible first | refine awp_seq ?_ | refine then_n ?_ | refine then_r ?_ | refine then_e ?_ | refine awp_skip ?_ | refine awp_label ?_ | refine awp_ret ?_ | refine awp_exit ?_ | refine awp_block ?_ | refine awp_scope ?_ | refine in_n ?_ | refine in_r ?_ | refine in_e ?_ | refine in_ne (by decide) ?_ | refine ng_n ?_ | refine ng_r ?_ | refine ng_e ?_)
    | (with_reducible refine awp_regM mixed (by kernel_rfl) ?_; intro K hK)
    | (with_reducible refine a_cond (ht := ?_) (hf := ?_) <;> intro hb <;> (try simp at hb) <;> (try contradiction) <;> (try subst hb) <;> (try omega))
    | (with_reducible first | refine a_move (hr := ?_) | refine a_assign (hr := ?_) | refine a_load (hr := ?_) | refine a_fieldAddr (hr := ?_) | refine a_bin (hr := ?_) | refine a_box (hr := ?_) | refine a_eqB (hr := ?_) | refine a_conv (hr := ?_) | refine a_bytesStr (hr := ?_) | refine a_strBytes (hr := ?_) | refine a_eqS (hr := ?_) | refine a_callP (p := 100000) (hcall := h) (hr := ?_))
    | fail)
    all_goals ((refine hQ _ _ _ _ (by first | exact .inr rfl | exact .inl rfl) (by simp; exact .r) (by simp; exact .r) ?_))
    all_goals (exact Fin.keep (by simp; exact .r) (by simp; exact .r) (by simp; exact .r) (by simp))
  by_cases h2 : d = 2
  · subst h2
    have h := c_RdByte bs a e hB (by omega) ha
    rw [nxA_add] at h
    simp only [if_true, show ¬ (2 : Int) = 0 by decide, show ¬ (2 : Int) = 1 by decide, if_false]
    have hr : 0 ≤ (if e ≠ 0 then 0 else (dB (bs.drop a)).1) ∧ (if e ≠ 0 then 0 else (dB (bs.drop a)).1) ≤ 255 := by split <;> first | omega | exact dB_range (isB_drop hB a)
    generalize (if e ≠ 0 then 0 else (dB (bs.drop a)).1) = v at h hr ⊢
    generalize nxA 0 e (dB (bs.drop a)) = k at h ⊢
    generalize nxE e (dB (bs.drop a)) = e2 at h ⊢
    refine calls_go (nt := 34) (rs := [.tmp 4, .tmp 5, .tmp 6]) Try.func29 rfl rfl rfl (by simp) (by intro id h; simp at h <;> omega) ?_; intro Q hQ hW
    repeat' (first
    | (with_reducible refine run_n ?_; with_reducible first | refine hK _ _ (by simp) ?_ | refine hK _ _ ?_; clear hK K)
    | (with_reducible first | refine awp_seq ?_ | refine then_n ?_ | refine then_r ?_ | refine then_e ?_ | refine awp_skip ?_ | refine awp_label ?_ | refine awp_ret ?_ | refine awp_exit ?_ | refine awp_block ?_ | refine awp_scope ?_ | refine in_n ?_ | refine in_r ?_ | refine in_e ?_ | refine in_ne (by decide) ?_ | refine ng_n ?_ | refine ng_r ?_ | refine ng_e ?_)
    | (with_reducible refine awp_regM mixed (by kernel_rfl) ?_; intro K hK)
    | (with_reducible refine a_cond (ht := ?_) (hf := ?_) <;> intro hb <;> (try simp at hb) <;> (try contradiction) <;> (try subst hb) <;> (try omega))
    | (with_reducible first | refine a_move (hr := ?_) | refine a_assign (hr := ?_) | refine a_load (hr := ?_) | refine a_fieldAddr (hr := ?_) | refine a_bin (hr := ?_) | refine a_box (hr := ?_) | refine a_eqB (hr := ?_) | refine a_conv (hr := ?_) | refine a_bytesStr (hr := ?_) | refine a_strBytes (hr := ?_) | refine a_eqS (hr := ?_) | refine a_callP (p := 100000) (hcall := h) (hr := ?_))
    | fail)
    all_goals ((refine hQ _ _ _ _ (by first | exact .inr rfl | exact .inl rfl) (by simp; exact .r) (by simp; exact .r) ?_))
    all_goals (exact Fin.keep (by simp; exact .r) (by simp; exact .r) (by simp; exact .r) (by simp))
  by_cases h3 : d = 3
  · subst h3
    have h := c_RdText bs a e n hB hb' ha hn
    rw [nxA_add] at h
    simp only [if_true, show ¬ (3 : Int) = 0 by decide, show ¬ (3 : Int) = 1 by decide, show ¬ (3 : Int) = 2 by decide, if_false]
    generalize (if e ≠ 0 then (⟨#[]⟩ : ByteArray) else strOfNums (dT (bs.drop a) n).1) = v at h ⊢
    generalize nxA 0 e (dT (bs.drop a) n) = k at h ⊢
    generalize nxE e (dT (bs.drop a) n) = e2 at h ⊢
    refine calls_go (nt := 34) (rs := [.tmp 4, .tmp 5, .tmp 6]) Try.func29 rfl rfl rfl (by simp) (by intro id h; simp at h <;> omega) ?_; intro Q hQ hW
    repeat' (first
    | (with_reducible refine run_n ?_; with_reducible first | refine hK _ _ (by simp) ?_ | refine hK _ _ ?_; clear hK K)
    | (with_reducible first | refine awp_seq ?_ | refine then_n ?_ | refine then_r ?_ | refine then_e ?_ | refine awp_skip ?_ | refine awp_label ?_ | refine awp_ret ?_ | refine awp_exit ?_ | refine awp_block ?_ | refine awp_scope ?_ | refine in_n ?_ | refine in_r ?_ | refine in_e ?_ | refine in_ne (by decide) ?_ | refine ng_n ?_ | refine ng_r ?_ | refine ng_e ?_)
    | (with_reducible refine awp_regM mixed (by kernel_rfl) ?_; intro K hK)
    | (with_reducible refine a_cond (ht := ?_) (hf := ?_) <;> intro hb <;> (try simp at hb) <;> (try contradiction) <;> (try subst hb) <;> (try omega))
    | (with_reducible first | refine a_move (hr := ?_) | refine a_assign (hr := ?_) | refine a_load (hr := ?_) | refine a_fieldAddr (hr := ?_) | refine a_bin (hr := ?_) | refine a_box (hr := ?_) | refine a_eqB (hr := ?_) | refine a_conv (hr := ?_) | refine a_bytesStr (hr := ?_) | refine a_strBytes (hr := ?_) | refine a_eqS (hr := ?_) | refine a_callP (p := 100000) (hcall := h) (hr := ?_))
    | fail)
    all_goals ((refine hQ _ _ _ _ (by first | exact .inr rfl | exact .inl rfl) (by simp; exact .r) (by simp; exact .r) ?_))
    all_goals (exact Fin.keep (by simp; exact .r) (by simp; exact .r) (by simp; exact .r) (by simp))
  · have h := c_End bs a e (by omega) ha
    simp only [h0, h1, h2, h3, if_false, Nat.add_zero, List.drop_zero]
    generalize endE (bs.drop a) e = v at h ⊢
    refine calls_go (nt := 34) (rs := [.tmp 4, .tmp 5, .tmp 6]) Try.func29 rfl rfl rfl (by simp) (by intro id h; simp at h <;> omega) ?_; intro Q hQ hW
    repeat' (first
    | (with_reducible refine run_n ?_; with_reducible first | refine hK _ _ (by simp) ?_ | refine hK _ _ ?_; clear hK K)
    | (with_reducible first | refine awp_seq ?_ | refine then_n ?_ | refine then_r ?_ | refine then_e ?_ | refine awp_skip ?_ | refine awp_label ?_ | refine awp_ret ?_ | refine awp_exit ?_ | refine awp_block ?_ | refine awp_scope ?_ | refine in_n ?_ | refine in_r ?_ | refine in_e ?_ | refine in_ne (by decide) ?_ | refine ng_n ?_ | refine ng_r ?_ | refine ng_e ?_)
    | (with_reducible refine awp_regM mixed (by kernel_rfl) ?_; intro K hK)
    | (with_reducible refine a_cond (ht := ?_) (hf := ?_) <;> intro hb <;> (try simp at hb) <;> (try contradiction) <;> (try subst hb) <;> (try omega))
    | (with_reducible first | refine a_move (hr := ?_) | refine a_assign (hr := ?_) | refine a_load (hr := ?_) | refine a_fieldAddr (hr := ?_) | refine a_bin (hr := ?_) | refine a_box (hr := ?_) | refine a_eqB (hr := ?_) | refine a_conv (hr := ?_) | refine a_bytesStr (hr := ?_) | refine a_strBytes (hr := ?_) | refine a_eqS (hr := ?_) | refine a_callP (p := 100000) (hcall := h) (hr := ?_))
    | fail)
    all_goals ((refine hQ _ _ _ _ (by first | exact .inr rfl | exact .inl rfl) (by simp; exact .r) (by simp; exact .r) ?_))
    all_goals (exact Fin.keep (by simp; exact .r) (by simp; exact .r) (by simp; exact .r) (by simp))
theorem c_should (l : List Int) (e d n : Int) (hB : IsB l) (hb' : l.length < 4611686018427387904) (hn : -9223372036854775808 ≤ n ∧ n < 9223372036854775808) : CallD Try.prog 30 [.ptr 100000 0, opAV (d, n)] (rfH l e) (triAV (rd1 d n l e).1) (rfH (l.drop (rd1 d n l e).2.1) (rd1 d n l e).2.2) := by
  have hw := toU_wrap hn.1 hn.2
  unfold rd1
  by_cases h0 : d = 0
  · subst h0
    have h := c_RfUint l e (toU n) hB (by omega)
    simp only [if_true]
    generalize (if e ≠ 0 then 0 else (dU l (toU n)).1) = v at h ⊢
    generalize nxA 0 e (dU l (toU n)) = k at h ⊢
    generalize nxE e (dU l (toU n)) = e2 at h ⊢
    rw [← hw] at h
    generalize l.drop k = l2 at h ⊢
    refine calls_go (nt := 34) (rs := [.tmp 4, .tmp 5, .tmp 6]) Try.func30 rfl rfl rfl (by simp) (by intro id h; simp at h <;> omega) ?_; intro Q hQ hW
    repeat' (first
    | (with_reducible refine run_n ?_; with_reducible first | refine hK _ _ (by simp) ?_ | refine hK _ _ ?_; clear hK K)
    | (with_reducible first | refine awp_seq ?_ | refine then_n ?_ | refine then_r ?_ | refine then_e ?_ | refine awp_skip ?_ | refine awp_label ?_ | refine awp_ret ?_ | refine awp_exit ?_ | refine awp_block ?_ | refine awp_scope ?_ | refine in_n ?_ | refine in_r ?_ | refine in_e ?_ | refine in_ne (by decide) ?_ | refine ng_n ?_ | refine ng_r ?_ | refine ng_e ?_)
    | (with_reducible refine awp_regM mixed (by kernel_rfl) ?_; intro K hK)
    | (with_reducible refine a_cond (ht := ?_) (hf := ?_) <;> intro hb <;> (try simp at hb) <;> (try contradiction) <;> (try subst hb) <;> (try omega))
    | (with_reducible first | refine a_move (hr := ?_) | refine a_assign (hr := ?_) | refine a_load (hr := ?_) | refine a_fieldAddr (hr := ?_) | refine a_bin (hr := ?_) | refine a_box (hr := ?_) | refine a_eqB (hr := ?_) | refine a_conv (hr := ?_) | refine a_bytesStr (hr := ?_) | refine a_strBytes (hr := ?_) | refine a_eqS (hr := ?_) | refine a_callP (p := 100000) (hcall := h) (hr := ?_))
    | fail)
    all_goals ((refine hQ _ _ _ _ (by first | exact .inr rfl | exact .inl rfl) (by simp; exact .r) (by simp; exact .r) ?_))
    all_goals (exact Fin.keep (by simp; exact .r) (by simp; exact .r) (by simp; exact .r) (by simp))
  by_cases h1 : d = 1
  · subst h1
    have h := c_RfInt l e hB (by omega)
    simp only [if_true, show ¬ (1 : Int) = 0 by decide, if_false]
    have hr : -9223372036854775808 ≤ (if e ≠ 0 then 0 else (dI l).1) ∧ (if e ≠ 0 then 0 else (dI l).1) < 9223372036854775808 := by split <;> first | omega | exact dI_range (hB)
    generalize (if e ≠ 0 then 0 else (dI l).1) = v at h hr ⊢
    generalize nxA 0 e (dI l) = k at h ⊢
    generalize nxE e (dI l) = e2 at h ⊢
    have hv := toU_wrap hr.1 hr.2
    rw [← hv]
    generalize l.drop k = l2 at h ⊢
    refine calls_go (nt := 34) (rs := [.tmp 4, .tmp 5, .tmp 6]) Try.func30 rfl rfl rfl (by simp) (by intro id h; simp at h <;> omega) ?_; intro Q hQ hW
    repeat' (first
    | (with_reducible refine run_n ?_; with_reducible first | refine hK _ _ (by simp) ?_ | refine hK _ _ ?_; clear hK K)
    | (with_reducible first | refine awp_seq ?_ | refine then_n ?_ | refine then_r ?_ | refine then_e ?_ | refine awp_skip ?_ | refine awp_label ?_ | refine awp_ret ?_ | refine awp_exit ?_ | refine awp_block ?_ | refine awp_scope ?_ | refine in_n ?_ | refine in_r ?_ | refine in_e ?_ | refine in_ne (by decide) ?_ | refine ng_n ?_ | refine ng_r ?_ | refine ng_e ?_)
    | (with_reducible refine awp_regM mixed (by kernel_rfl) ?_; intro K hK)
    | (with_reducible refine a_cond (ht := ?_) (hf := ?_) <;> intro hb <;> (try simp at hb) <;> (try contradiction) <;> (try subst hb) <;> (try omega))
    | (with_reducible first | refine a_move (hr := ?_) | refine a_assign (hr := ?_) | refine a_load (hr := ?_) | refine a_fieldAddr (hr := ?_) | refine a_bin (hr := ?_) | refine a_box (hr := ?_) | refine a_eqB (hr := ?_) | refine a_conv (hr := ?_) | refine a_bytesStr (hr := ?_) | refine a_strBytes (hr := ?_) | refine a_eqS (hr := ?_) | refine a_callP (p := 100000) (hcall := h) (hr := ?_))
    | fail)
    all_goals ((refine hQ _ _ _ _ (by first | exact .inr rfl | exact .inl rfl) (by simp; exact .r) (by simp; exact .r) ?_))
    all_goals (exact Fin.keep (by simp; exact .r) (by simp; exact .r) (by simp; exact .r) (by simp))
  by_cases h2 : d = 2
  · subst h2
    have h := c_RfByte l e hB (by omega)
    simp only [if_true, show ¬ (2 : Int) = 0 by decide, show ¬ (2 : Int) = 1 by decide, if_false]
    have hr : 0 ≤ (if e ≠ 0 then 0 else (dB l).1) ∧ (if e ≠ 0 then 0 else (dB l).1) ≤ 255 := by split <;> first | omega | exact dB_range (hB)
    generalize (if e ≠ 0 then 0 else (dB l).1) = v at h hr ⊢
    generalize nxA 0 e (dB l) = k at h ⊢
    generalize nxE e (dB l) = e2 at h ⊢
    generalize l.drop k = l2 at h ⊢
    refine calls_go (nt := 34) (rs := [.tmp 4, .tmp 5, .tmp 6]) Try.func30 rfl rfl rfl (by simp) (by intro id h; simp at h <;> omega) ?_; intro Q hQ hW
    repeat' (first
    | (with_reducible refine run_n ?_; with_reducible first | refine hK _ _ (by simp) ?_ | refine hK _ _ ?_; clear hK K)
    | (with_reducible first | refine awp_seq ?_ | refine then_n ?_ | refine then_r ?_ | refine then_e ?_ | refine awp_skip ?_ | refine awp_label ?_ | refine awp_ret ?_ | refine awp_exit ?_ | refine awp_block ?_ | refine awp_scope ?_ | refine in_n ?_ | refine in_r ?_ | refine in_e ?_ | refine in_ne (by decide) ?_ | refine ng_n ?_ | refine ng_r ?_ | refine ng_e ?_)
    | (with_reducible refine awp_regM mixed (by kernel_rfl) ?_; intro K hK)
    | (with_reducible refine a_cond (ht := ?_) (hf := ?_) <;> intro hb <;> (try simp at hb) <;> (try contradiction) <;> (try subst hb) <;> (try omega))
    | (with_reducible first | refine a_move (hr := ?_) | refine a_assign (hr := ?_) | refine a_load (hr := ?_) | refine a_fieldAddr (hr := ?_) | refine a_bin (hr := ?_) | refine a_box (hr := ?_) | refine a_eqB (hr := ?_) | refine a_conv (hr := ?_) | refine a_bytesStr (hr := ?_) | refine a_strBytes (hr := ?_) | refine a_eqS (hr := ?_) | refine a_callP (p := 100000) (hcall := h) (hr := ?_))
    | fail)
    all_goals ((refine hQ _ _ _ _ (by first | exact .inr rfl | exact .inl rfl) (by simp; exact .r) (by simp; exact .r) ?_))
    all_goals (exact Fin.keep (by simp; exact .r) (by simp; exact .r) (by simp; exact .r) (by simp))
  by_cases h3 : d = 3
  · subst h3
    have h := c_RfText l e n hB hb' hn
    simp only [if_true, show ¬ (3 : Int) = 0 by decide, show ¬ (3 : Int) = 1 by decide, show ¬ (3 : Int) = 2 by decide, if_false]
    generalize (if e ≠ 0 then (⟨#[]⟩ : ByteArray) else strOfNums (dT l n).1) = v at h ⊢
    generalize nxA 0 e (dT l n) = k at h ⊢
    generalize nxE e (dT l n) = e2 at h ⊢
    generalize l.drop k = l2 at h ⊢
    refine calls_go (nt := 34) (rs := [.tmp 4, .tmp 5, .tmp 6]) Try.func30 rfl rfl rfl (by simp) (by intro id h; simp at h <;> omega) ?_; intro Q hQ hW
    repeat' (first
    | (with_reducible refine run_n ?_; with_reducible first | refine hK _ _ (by simp) ?_ | refine hK _ _ ?_; clear hK K)
    | (with_reducible first | refine awp_seq ?_ | refine then_n ?_ | refine then_r ?_ | refine then_e ?_ | refine awp_skip ?_ | refine awp_label ?_ | refine awp_ret ?_ | refine awp_exit ?_ | refine awp_block ?_ | refine awp_scope ?_ | refine in_n ?_ | refine in_r ?_ | refine in_e ?_ | refine in_ne (by decide) ?_ | refine ng_n ?_ | refine ng_r ?_ | refine ng_e ?_)
    | (with_reducible refine awp_regM mixed (by kernel_rfl) ?_; intro K hK)
    | (with_reducible refine a_cond (ht := ?_) (hf := ?_) <;> intro hb <;> (try simp at hb) <;> (try contradiction) <;> (try subst hb) <;> (try omega))
    | (with_reducible first | refine a_move (hr := ?_) | refine a_assign (hr := ?_) | refine a_load (hr := ?_) | refine a_fieldAddr (hr := ?_) | refine a_bin (hr := ?_) | refine a_box (hr := ?_) | refine a_eqB (hr := ?_) | refine a_conv (hr := ?_) | refine a_bytesStr (hr := ?_) | refine a_strBytes (hr := ?_) | refine a_eqS (hr := ?_) | refine a_callP (p := 100000) (hcall := h) (hr := ?_))
    | fail)
    all_goals ((refine hQ _ _ _ _ (by first | exact .inr rfl | exact .inl rfl) (by simp; exact .r) (by simp; exact .r) ?_))
    all_goals (exact Fin.keep (by simp; exact .r) (by simp; exact .r) (by simp; exact .r) (by simp))
  · have h := c_RfEnd l e (by omega)
    simp only [h0, h1, h2, h3, if_false, Nat.add_zero, List.drop_zero]
    generalize endE l e = v at h ⊢
    refine calls_go (nt := 34) (rs := [.tmp 4, .tmp 5, .tmp 6]) Try.func30 rfl rfl rfl (by simp) (by intro id h; simp at h <;> omega) ?_; intro Q hQ hW
    repeat' (first
    | (with_reducible refine run_n ?_; with_reducible first | refine hK _ _ (by simp) ?_ | refine hK _ _ ?_; clear hK K)
    | (with_reducible first | refine awp_seq ?_ | refine then_n ?_ | refine then_r ?_ | refine then_e ?_ | refine awp_skip ?_ | refine awp_label ?_ | refine awp_ret ?_ | refine awp_exit ?_ | refine awp_block ?_ | refine awp_scope ?_ | refine in_n ?_ | refine in_r ?_ | refine in_e ?_ | refine in_ne (by decide) ?_ | refine ng_n ?_ | refine ng_r ?_ | refine ng_e ?_)
    | (with_reducible refine awp_regM mixed (by kernel_rfl) ?_; intro K hK)
    | (with_reducible refine a_cond (ht := ?_) (hf := ?_) <;> intro hb <;> (try simp at hb) <;> (try contradiction) <;> (try subst hb) <;> (try omega))
    | (with_reducible first | refine a_move (hr := ?_) | refine a_assign (hr := ?_) | refine a_load (hr := ?_) | refine a_fieldAddr (hr := ?_) | refine a_bin (hr := ?_) | refine a_box (hr := ?_) | refine a_eqB (hr := ?_) | refine a_conv (hr := ?_) | refine a_bytesStr (hr := ?_) | refine a_strBytes (hr := ?_) | refine a_eqS (hr := ?_) | refine a_callP (p := 100000) (hcall := h) (hr := ?_))
    | fail)
    all_goals ((refine hQ _ _ _ _ (by first | exact .inr rfl | exact .inl rfl) (by simp; exact .r) (by simp; exact .r) ?_))
    all_goals (exact Fin.keep (by simp; exact .r) (by simp; exact .r) (by simp; exact .r) (by simp))
end Go.Proofs.Ytdlmkdgcdbkeaaa.Asl
