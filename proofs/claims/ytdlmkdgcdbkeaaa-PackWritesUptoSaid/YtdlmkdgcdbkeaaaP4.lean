/- PackCut. -/
import Derived.Test.YtdlmkdgcdbkeaaaP3
namespace Go.Proofs.Ytdlmkdgcdbkeaaa.Asl
open Go Go.RowKit
set_option linter.unusedVariables false
set_option linter.unusedSimpArgs false
set_option maxRecDepth 100000
set_option maxHeartbeats 4000000
theorem dec_enc0 {n : Int} (h0 : 0 ≤ n) (h1 : n < 18446744073709551616) (r : List Int) : dec (enc 9 n ++ r) 0 0 = (n, ((enc 9 n).length : Int), 0) := by
  have := dec_enc 9 0 n 0 r rfl h0 (fun h => absurd h (by decide)) (by simpa using h1)
  simpa using this
theorem dec_cut0 {n : Int} (h0 : 0 ≤ n) (h1 : n < 18446744073709551616) {m : Nat} (hm : m < (enc 9 n).length) : dec ((enc 9 n).take m) 0 0 = (0, 0, 6) :=
  dec_cut 9 0 n 0 m rfl h0 (fun h => absurd h (by decide)) (by simpa using h1) hm
theorem dU_cut {n : Int} (h0 : 0 ≤ n) (h1 : n < 18446744073709551616) {m : Nat} (hm : m < (enc 9 n).length) (most : Int) : dU ((enc 9 n).take m) most = (0, 0, 6) := by
  simp [dU, dec_cut0 h0 h1 hm]
theorem dU_enc {n : Int} (h0 : 0 ≤ n) (h1 : n < 18446744073709551616) (r : List Int) {most : Int} (hm : n ≤ most) : dU (enc 9 n ++ r) most = (n, (enc 9 n).length, 0) := by
  have : ¬ most < n := by omega
  simp [dU, dec_enc0 h0 h1, this]
theorem dT_cut {s : ByteArray} (hs : s.size ≤ 140737488351232) {m : Nat} (hm : m < (enc 9 s.size).length + s.size) : dT ((enc 9 s.size ++ bytesOf s).take m) s.size = ([], 0, 6) := by
  rcases Nat.lt_or_ge m (enc 9 s.size).length with h | h
  · rw [List.take_append_of_le_length (by omega)]
    simp [dT, dec_cut0 (n := s.size) (by omega) (by omega) h]
  · rw [List.take_append, List.take_of_length_le h]
    have hd := dec_enc0 (n := s.size) (by omega) (by omega) ((bytesOf s).take (m - (enc 9 s.size).length))
    unfold dT
    rw [hd]
    have hl := len_bytes s
    rw [if_neg (by simp), if_neg (by simp), if_pos]
    simp [hl]; omega
theorem law_PackCut (n : Int) (s : ByteArray) (k : Int) (h0 : 0 ≤ n) (h1 : n < 18446744073709551616) (hs : s.size ≤ 140737488351232) (hk0 : -9223372036854775808 ≤ k) (hk1 : k < 9223372036854775808) : CallD Try.prog 7 [.raw (.int .u64 n), .raw (.string s), .raw (.int .i64 k)] noHeap (.raw (.bool true)) noHeap := by
  have hlv := c_Live1
  by_cases h1000 : 1000 < s.size
  · refine calls_go (nt := 55) (rs := [.tmp 6]) Try.func7 rfl rfl rfl (by simp) (by intro id h; simp at h <;> omega) ?_; intro Q hQ hW
    repeat' (first
    | (with_reducible refine run_n ?_; with_reducible first | refine hK _ _ (by simp) ?_ | refine hK _ _ ?_; clear hK K)
    | (with_reducible first | refine awp_seq ?_ | refine then_n ?_ | refine then_r ?_ | refine then_e ?_ | refine awp_skip ?_ | refine awp_label ?_ | refine awp_ret ?_ | refine awp_exit ?_ | refine awp_block ?_ | refine awp_scope ?_ | refine in_n ?_ | refine in_r ?_ | refine in_e ?_ | refine in_ne (by decide) ?_ | refine ng_n ?_ | refine ng_r ?_ | refine ng_e ?_)
    | (with_reducible refine awp_regL 8 mixed (by kernel_rfl) ?_; intro K hK)
    | (with_reducible refine a_cond (ht := ?_) (hf := ?_) <;> intro hb <;> (try simp at hb) <;> (try contradiction) <;> (try subst hb) <;> (try omega))
    | (with_reducible first | refine a_move (hr := ?_) | refine a_assign (hr := ?_) | refine a_bin (hr := ?_) | refine a_lenS (hr := ?_) | refine a_lenR (hr := ?_) | refine a_pick (hr := ?_) | refine a_un (hr := ?_) | refine a_eqB (hr := ?_) | refine a_sliceArr (hr := ?_) | refine a_eqS (hr := ?_) | refine a_sliceS (hr := ?_) | refine a_sliceR (hr := ?_) | refine a_buildSlice (hr := ?_) | refine a_call0 (hcall := hlv) (hr := ?_) | refine a_gT (hr := ?_) | refine a_gF (hr := ?_) | refine a_gU (hr := ?_))
    | (with_reducible refine a_gB (hT := ?_) (hF := ?_) <;> intro hb <;> (try simp at hb) <;> (try contradiction) <;> (try subst hb) <;> (try omega))
    | fail)
    (refine hQ _ _ _ _ (by first | exact .inr rfl | exact .inl rfl) (by simp; exact .r) (by simp; exact .r) ?_)
    exact Fin.drop (by simp; exact .r) (by simp)
  have hu := c_UintT n h0 h1
  have ht := c_WText s (by omega)
  have hl1 := (enc_len 9 n).1
  have hl2 := (enc_len 9 s.size).1
  have hj : CallD Try.prog 14 [.sl 1 [.sl 1 (u8s (enc 9 n)), .sl 1 (u8s (enc 9 s.size ++ bytesOf s))]] noHeap (.sl 1 (u8s (enc 9 n ++ (enc 9 s.size ++ bytesOf s)))) noHeap := by
    have := c_JoinT [enc 9 n, enc 9 s.size ++ bytesOf s] (by simp [len_bytes]; omega) (by simp)
    simp only [List.flatten_cons, List.flatten_nil, List.append_nil] at this
    exact this
  have hB : IsB (enc 9 n ++ (enc 9 s.size ++ bytesOf s)) := by
    have e : (128 : Int) ^ (9 + 1) = 1180591620717411303424 := by decide
    exact isB_app.2 ⟨enc_isB 9 n h0 (by rw [e]; omega), isB_app.2 ⟨enc_isB 9 s.size (by omega) (by rw [e]; omega), isB_bytes s⟩⟩
  have hL : (enc 9 n ++ (enc 9 s.size ++ bytesOf s)).length = (enc 9 n).length + ((enc 9 s.size).length + s.size) := by simp [len_bytes]
  by_cases hin : k < 0 ∨ ((enc 9 n).length + ((enc 9 s.size).length + s.size) : Nat) ≤ k
  · generalize enc 9 n ++ (enc 9 s.size ++ bytesOf s) = b at hj hL
    generalize enc 9 s.size ++ bytesOf s = t at ht hj
    generalize enc 9 n = m at hu hj hL hin
    refine calls_go (nt := 55) (rs := [.tmp 6]) Try.func7 rfl rfl rfl (by simp) (by intro id h; simp at h <;> omega) ?_; intro Q hQ hW
    repeat' (first
    | (with_reducible refine run_n ?_; with_reducible first | refine hK _ _ (by simp) ?_ | refine hK _ _ ?_; clear hK K)
    | (with_reducible first | refine awp_seq ?_ | refine then_n ?_ | refine then_r ?_ | refine then_e ?_ | refine awp_skip ?_ | refine awp_label ?_ | refine awp_ret ?_ | refine awp_exit ?_ | refine awp_block ?_ | refine awp_scope ?_ | refine in_n ?_ | refine in_r ?_ | refine in_e ?_ | refine in_ne (by decide) ?_ | refine ng_n ?_ | refine ng_r ?_ | refine ng_e ?_)
    | (with_reducible refine awp_regL 8 mixed (by kernel_rfl) ?_; intro K hK)
    | (with_reducible refine a_cond (ht := ?_) (hf := ?_) <;> intro hb <;> (try simp at hb) <;> (try contradiction) <;> (try subst hb) <;> (try omega))
    | (with_reducible first | refine a_move (hr := ?_) | refine a_assign (hr := ?_) | refine a_bin (hr := ?_) | refine a_lenS (hr := ?_) | refine a_lenR (hr := ?_) | refine a_pick (hr := ?_) | refine a_un (hr := ?_) | refine a_eqB (hr := ?_) | refine a_sliceArr (hr := ?_) | refine a_eqS (hr := ?_) | refine a_sliceS (hr := ?_) | refine a_sliceR (hr := ?_) | refine a_buildSlice (hr := ?_) | refine a_call0 (hcall := hlv) (hr := ?_) | refine a_callN (hcall := hu) (hr := ?_) | refine a_callN (hcall := ht) (hr := ?_) | refine a_callF (hcall := hj) (hr := ?_) | refine a_gT (hr := ?_) | refine a_gF (hr := ?_) | refine a_gU (hr := ?_))
    | (with_reducible refine a_gB (hT := ?_) (hF := ?_) <;> intro hb <;> (try simp at hb) <;> (try contradiction) <;> (try subst hb) <;> (try omega))
    | fail)
    all_goals ((refine hQ _ _ _ _ (by first | exact .inr rfl | exact .inl rfl) (by simp; exact .r) (by simp; exact .r) ?_))
    all_goals (exact Fin.drop (by simp; exact .r) (by simp))
  · have hkr : 0 ≤ k ∧ k.toNat < (enc 9 n).length + ((enc 9 s.size).length + s.size) := by omega
    have hq : ∃ (a : Nat) (e : Int) (v : Int), nxA 0 0 (dU ((enc 9 n ++ (enc 9 s.size ++ bytesOf s)).take k.toNat) n) = a ∧ nxE 0 (dU ((enc 9 n ++ (enc 9 s.size ++ bytesOf s)).take k.toNat) n) = e ∧ (dU ((enc 9 n ++ (enc 9 s.size ++ bytesOf s)).take k.toNat) n).1 = v ∧ a ≤ k.toNat ∧ nxE e (dT (((enc 9 n ++ (enc 9 s.size ++ bytesOf s)).take k.toNat).drop a) s.size) = 6 ∧ nxA a e (dT (((enc 9 n ++ (enc 9 s.size ++ bytesOf s)).take k.toNat).drop a) s.size) = a := by
      rcases Nat.lt_or_ge k.toNat (enc 9 n).length with h | h
      · rw [List.take_append_of_le_length (by omega), dU_cut h0 h1 h]
        exact ⟨0, 6, 0, rfl, rfl, rfl, by omega, rfl, rfl⟩
      · rw [List.take_append, List.take_of_length_le h, dU_enc h0 h1 _ (Int.le_refl _)]
        refine ⟨(enc 9 n).length, 0, n, by simp [nxA], rfl, rfl, h, ?_, ?_⟩
        · rw [List.drop_left, dT_cut (by omega) (by omega)]; rfl
        · rw [List.drop_left, dT_cut (by omega) (by omega)]; rfl
    obtain ⟨a, er, v, q1, q2, q3, q4, q5, q6⟩ := hq
    have hBk : IsB ((enc 9 n ++ (enc 9 s.size ++ bytesOf s)).take k.toNat) := isB_take hB k.toNat
    have hLk : ((enc 9 n ++ (enc 9 s.size ++ bytesOf s)).take k.toNat).length = k.toNat := by rw [List.length_take, hL]; omega
    have hr := c_Read ((enc 9 n ++ (enc 9 s.size ++ bytesOf s)).take k.toNat) (by omega)
    have h2 := c_RdUint ((enc 9 n ++ (enc 9 s.size ++ bytesOf s)).take k.toNat) 0 0 n hBk (by omega) (by omega)
    rw [List.drop_zero, q1, q2, q3, if_neg (by simp)] at h2
    have h3 := c_RdText ((enc 9 n ++ (enc 9 s.size ++ bytesOf s)).take k.toNat) a er s.size hBk (by omega) (by omega) (by omega)
    rw [q5, q6] at h3
    have h4 := c_Err ((enc 9 n ++ (enc 9 s.size ++ bytesOf s)).take k.toNat) a 6
    have h5 := c_RdByte ((enc 9 n ++ (enc 9 s.size ++ bytesOf s)).take k.toNat) a 6 hBk (by omega) (by omega)
    rw [if_pos (by decide), show nxA a 6 (dB (((enc 9 n ++ (enc 9 s.size ++ bytesOf s)).take k.toNat).drop a)) = a by rfl, show nxE 6 (dB (((enc 9 n ++ (enc 9 s.size ++ bytesOf s)).take k.toNat).drop a)) = 6 by rfl] at h5
    generalize enc 9 n ++ (enc 9 s.size ++ bytesOf s) = b at hj hL hr h2 h3 h4 h5 hBk hLk
    generalize (if er ≠ 0 then (⟨#[]⟩ : ByteArray) else strOfNums (dT ((b.take k.toNat).drop a) s.size).1) = w at h3
    generalize enc 9 s.size ++ bytesOf s = t at ht hj
    generalize enc 9 n = m at hu hj hL hin hkr
    clear q1 q2 q3 q5 q6 hB
    refine calls_go (nt := 55) (rs := [.tmp 6]) Try.func7 rfl rfl rfl (by simp) (by intro id h; simp at h <;> omega) ?_; intro Q hQ hW
    repeat' (first
    | (with_reducible refine run_n ?_; with_reducible first | refine hK _ _ (by simp) ?_ | refine hK _ _ ?_; clear hK K)
    | (with_reducible first | refine awp_seq ?_ | refine then_n ?_ | refine then_r ?_ | refine then_e ?_ | refine awp_skip ?_ | refine awp_label ?_ | refine awp_ret ?_ | refine awp_exit ?_ | refine awp_block ?_ | refine awp_scope ?_ | refine in_n ?_ | refine in_r ?_ | refine in_e ?_ | refine in_ne (by decide) ?_ | refine ng_n ?_ | refine ng_r ?_ | refine ng_e ?_)
    | (with_reducible refine awp_regL 8 mixed (by kernel_rfl) ?_; intro K hK)
    | (with_reducible refine a_cond (ht := ?_) (hf := ?_) <;> intro hb <;> (try simp at hb) <;> (try contradiction) <;> (try subst hb) <;> (try omega))
    | (with_reducible first | refine a_move (hr := ?_) | refine a_assign (hr := ?_) | refine a_bin (hr := ?_) | refine a_lenS (hr := ?_) | refine a_lenR (hr := ?_) | refine a_pick (hr := ?_) | refine a_un (hr := ?_) | refine a_eqB (hr := ?_) | refine a_sliceArr (hr := ?_) | refine a_eqS (hr := ?_) | refine a_sliceS (hr := ?_) | refine a_sliceR (hr := ?_) | refine a_buildSlice (hr := ?_) | refine a_call0 (hcall := hlv) (hr := ?_) | refine a_callN (hcall := hu) (hr := ?_) | refine a_callN (hcall := ht) (hr := ?_) | refine a_callF (hcall := hj) (hr := ?_) | refine a_callB (hcall := hr) (hr := ?_) | refine a_callP (p := 34) (hcall := h2) (hr := ?_) | refine a_callP (p := 34) (hcall := h3) (hr := ?_) | refine a_callP (p := 34) (hcall := h4) (hr := ?_) | refine a_callP (p := 34) (hcall := h5) (hr := ?_) | refine a_gT (hr := ?_) | refine a_gF (hr := ?_) | refine a_gU (hr := ?_))
    | (with_reducible refine a_gB (hT := ?_) (hF := ?_) <;> intro hb <;> (try simp at hb) <;> (try contradiction) <;> (try subst hb) <;> (try omega))
    | fail)
    all_goals ((refine hQ _ _ _ _ (by first | exact .inr rfl | exact .inl rfl) (by simp; exact .r) (by simp; exact .r) ?_))
    all_goals (exact Fin.drop (by simp; exact .r) (by simp))
end Go.Proofs.Ytdlmkdgcdbkeaaa.Asl
