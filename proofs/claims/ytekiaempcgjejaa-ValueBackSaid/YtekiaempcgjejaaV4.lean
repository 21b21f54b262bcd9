/- ValuePuts. -/
import Derived.Test.YtekiaempcgjejaaV3
namespace Go.Proofs.Ytekiaempcgjejaa.Asl
open Go Go.RowKit
set_option linter.unusedVariables false
set_option linter.unusedSimpArgs false
set_option maxRecDepth 100000
set_option maxHeartbeats 4000000
attribute [local simp] len_bytes
theorem putV_len (k n : Int) (s : ByteArray) : (putV k n s).length ≤ s.size + 11 := by
  have h1 := (enc_len 9 s.size).1
  have h2 := (enc_len 9 (zz n)).1
  unfold putV
  by_cases hr : rightE k n s = 0
  · rw [if_neg (by simp [hr])]
    by_cases k3 : k = 3
    · rw [if_pos k3]; simp; omega
    · rw [if_neg k3]; simp; omega
  · rw [if_pos (by simpa using hr)]; simp
theorem putV_isB (k n : Int) (s : ByteArray) (hn : -9223372036854775808 ≤ n ∧ n < 9223372036854775808) (hs : s.size ≤ 140737488351232) : IsB (putV k n s) := by
  have hz := zz_range hn.1 hn.2
  have e : (128 : Int) ^ (9 + 1) = 1180591620717411303424 := by decide
  unfold putV
  by_cases hr : rightE k n s = 0
  · rw [if_neg (by simp [hr])]
    have hk := rightE_k hr
    by_cases k3 : k = 3
    · rw [if_pos k3, isB_cons]; exact ⟨by omega, isB_app.2 ⟨enc_isB 9 s.size (by omega) (by rw [e]; omega), isB_bytes s⟩⟩
    · rw [if_neg k3, isB_cons]; exact ⟨by omega, enc_isB 9 _ hz.1 (by rw [e]; omega)⟩
  · rw [if_pos (by simpa using hr)]; exact isB_nil
theorem law_ValuePuts (k n : Int) (s : ByteArray) (bs : List Int) (hn : -9223372036854775808 ≤ n ∧ n < 9223372036854775808) (hs : s.size ≤ 140737488351232) (hB : IsB bs) (hl : bs.length ≤ 140737488351232) : CallD Try.prog 8 [valAV k n s, .sl 1 (u8s bs)] noHeap (.raw (.bool true)) noHeap := by
  have hlv := c_Live4
  by_cases h1 : 1000 < s.size
  · refine calls_go (nt := 64) (rs := [.tmp 4]) Try.func8 rfl rfl rfl (by simp) (by intro id h; simp at h <;> omega) ?_; intro Q hQ hW
    repeat' (first
    | (with_reducible refine run_n ?_; with_reducible first | refine hK _ _ (by simp) ?_ | refine hK _ _ ?_; clear hK K)
    | (with_reducible first | refine awp_seq ?_ | refine then_n ?_ | refine then_r ?_ | refine then_e ?_ | refine awp_skip ?_ | refine awp_label ?_ | refine awp_ret ?_ | refine awp_exit ?_ | refine awp_block ?_ | refine awp_scope ?_ | refine in_n ?_ | refine in_r ?_ | refine in_e ?_ | refine in_ne (by decide) ?_ | refine ng_n ?_ | refine ng_r ?_ | refine ng_e ?_)
    | (with_reducible refine awp_regT (by kernel_rfl) ?_; intro K hK)
    | (with_reducible refine awp_regAM (id := 5) [(2, some 2), (5, some 5), (8, some 8)] mixed (by kernel_rfl) (by kernel_rfl) ?_; intro K hK)
    | (with_reducible refine a_cond (ht := ?_) (hf := ?_) <;> intro hb <;> (try simp at hb) <;> (try contradiction) <;> (try subst hb) <;> (try omega))
    | (with_reducible first | refine a_move (hr := ?_) | refine a_assign (hr := ?_) | refine a_load (hr := ?_) | refine a_fieldAddr (hr := ?_) | refine a_bin (hr := ?_) | refine a_lenS (hr := ?_) | refine a_lenR (hr := ?_) | refine a_extract (hr := ?_) | refine a_pick (hr := ?_) | refine a_un (hr := ?_) | refine a_store (hr := ?_) | refine a_box (hr := ?_) | refine a_alloc (hr := ?_) | refine a_eqB (hr := ?_) | refine a_eqS (hr := ?_) | refine a_call0 (hcall := hlv) (hr := ?_) | refine a_gT (hr := ?_) | refine a_gF (hr := ?_) | refine a_gU (hr := ?_))
    | (with_reducible refine a_gB (hT := ?_) (hF := ?_) <;> intro hb <;> (try simp at hb) <;> (try contradiction) <;> (try subst hb) <;> (try omega))
    | fail)
    (refine hQ _ _ _ _ (by first | exact .inr rfl | exact .inl rfl) (by simp; exact .r) (by simp; exact .r) ?_)
    exact Fin.drop (by simp; exact .r) (by simp)
  by_cases h2 : 1000 < bs.length
  · refine calls_go (nt := 64) (rs := [.tmp 4]) Try.func8 rfl rfl rfl (by simp) (by intro id h; simp at h <;> omega) ?_; intro Q hQ hW
    repeat' (first
    | (with_reducible refine run_n ?_; with_reducible first | refine hK _ _ (by simp) ?_ | refine hK _ _ ?_; clear hK K)
    | (with_reducible first | refine awp_seq ?_ | refine then_n ?_ | refine then_r ?_ | refine then_e ?_ | refine awp_skip ?_ | refine awp_label ?_ | refine awp_ret ?_ | refine awp_exit ?_ | refine awp_block ?_ | refine awp_scope ?_ | refine in_n ?_ | refine in_r ?_ | refine in_e ?_ | refine in_ne (by decide) ?_ | refine ng_n ?_ | refine ng_r ?_ | refine ng_e ?_)
    | (with_reducible refine awp_regT (by kernel_rfl) ?_; intro K hK)
    | (with_reducible refine awp_regAM (id := 5) [(2, some 2), (5, some 5), (8, some 8)] mixed (by kernel_rfl) (by kernel_rfl) ?_; intro K hK)
    | (with_reducible refine a_cond (ht := ?_) (hf := ?_) <;> intro hb <;> (try simp at hb) <;> (try contradiction) <;> (try subst hb) <;> (try omega))
    | (with_reducible first | refine a_move (hr := ?_) | refine a_assign (hr := ?_) | refine a_load (hr := ?_) | refine a_fieldAddr (hr := ?_) | refine a_bin (hr := ?_) | refine a_lenS (hr := ?_) | refine a_lenR (hr := ?_) | refine a_extract (hr := ?_) | refine a_pick (hr := ?_) | refine a_un (hr := ?_) | refine a_store (hr := ?_) | refine a_box (hr := ?_) | refine a_alloc (hr := ?_) | refine a_eqB (hr := ?_) | refine a_eqS (hr := ?_) | refine a_call0 (hcall := hlv) (hr := ?_) | refine a_gT (hr := ?_) | refine a_gF (hr := ?_) | refine a_gU (hr := ?_))
    | (with_reducible refine a_gB (hT := ?_) (hF := ?_) <;> intro hb <;> (try simp at hb) <;> (try contradiction) <;> (try subst hb) <;> (try omega))
    | fail)
    (refine hQ _ _ _ _ (by first | exact .inr rfl | exact .inl rfl) (by simp; exact .r) (by simp; exact .r) ?_)
    exact Fin.drop (by simp; exact .r) (by simp)
  have t1 := c_Take bs hB hl
  have t2 := c_rTake bs hB hl
  have r1 := c_Right k n s
  have r2 := c_rRight k n s
  have p1 := c_Put k n s hn hs
  have p2 := c_rPut k n s hn hs
  have q := c_rEqualT (putV k n s) (by have := putV_len k n s; omega) (putV_isB k n s hn hs)
  generalize takeV bs = t at t1 t2
  obtain ⟨⟨a, b, c⟩, d, e⟩ := t
  simp only [tkAV] at t1 t2
  generalize putV k n s = pv at p1 p2 q
  generalize rightE k n s = re at r1 r2
  refine calls_go (nt := 64) (rs := [.tmp 4]) Try.func8 rfl rfl rfl (by simp) (by intro id h; simp at h <;> omega) ?_; intro Q hQ hW
  repeat' (first
    | (with_reducible refine run_n ?_; with_reducible first | refine hK _ _ (by simp) ?_ | refine hK _ _ ?_; clear hK K)
    | (with_reducible first | refine awp_seq ?_ | refine then_n ?_ | refine then_r ?_ | refine then_e ?_ | refine awp_skip ?_ | refine awp_label ?_ | refine awp_ret ?_ | refine awp_exit ?_ | refine awp_block ?_ | refine awp_scope ?_ | refine in_n ?_ | refine in_r ?_ | refine in_e ?_ | refine in_ne (by decide) ?_ | refine ng_n ?_ | refine ng_r ?_ | refine ng_e ?_)
    | (with_reducible refine awp_regT (by kernel_rfl) ?_; intro K hK)
    | (with_reducible refine awp_regCM (id := 5) [(2, some 2), (5, some 5), (8, some 8)] [(2, some 2), (5, some 5), (8, some 8), (37, none), (39, none), (43, none), (44, none), (45, none), (46, none)] mixed (by kernel_rfl) (by kernel_rfl) (by kernel_rfl) ?_; intro K hK)
    | (with_reducible refine a_cond (ht := ?_) (hf := ?_) <;> intro hb <;> (try simp at hb) <;> (try contradiction) <;> (try subst hb) <;> (try omega))
    | (with_reducible first | refine a_move (hr := ?_) | refine a_assign (hr := ?_) | refine a_load (hr := ?_) | refine a_fieldAddr (hr := ?_) | refine a_bin (hr := ?_) | refine a_lenS (hr := ?_) | refine a_lenR (hr := ?_) | refine a_extract (hr := ?_) | refine a_pick (hr := ?_) | refine a_un (hr := ?_) | refine a_store (hr := ?_) | refine a_box (hr := ?_) | refine a_alloc (hr := ?_) | refine a_eqB (hr := ?_) | refine a_eqS (hr := ?_) | refine a_call0 (hcall := hlv) (hr := ?_) | refine a_callF (hcall := t1) (hr := ?_) | refine a_callF (hcall := t2) (hr := ?_) | refine a_call0 (hcall := r1) (hr := ?_) | refine a_call0 (hcall := r2) (hr := ?_) | refine a_callN (hcall := p1) (hr := ?_) | refine a_callN (hcall := p2) (hr := ?_) | refine a_callF (hcall := q) (hr := ?_) | refine a_gT (hr := ?_) | refine a_gF (hr := ?_) | refine a_gU (hr := ?_))
    | (with_reducible refine a_gB (hT := ?_) (hF := ?_) <;> intro hb <;> (try simp at hb) <;> (try contradiction) <;> (try subst hb) <;> (try omega))
    | fail)
  all_goals ((refine hQ _ _ _ _ (by first | exact .inr rfl | exact .inl rfl) (by simp; exact .r) (by simp; exact .r) ?_))
  all_goals (exact Fin.drop (by simp; exact .r) (by simp))
end Go.Proofs.Ytekiaempcgjejaa.Asl
