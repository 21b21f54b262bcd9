/- PackWrites. -/
import Derived.Test.YtdlmkdgcdbkeaaaP4
import Derived.Test.YtdlmkdgcdbkeaaaKS
namespace Go.Proofs.Ytdlmkdgcdbkeaaa.Asl
open Go Go.RowKit
set_option linter.unusedVariables false
set_option linter.unusedSimpArgs false
set_option maxRecDepth 100000
set_option maxHeartbeats 4000000
attribute [local simp] len_bytes
theorem enc9_isB {n : Int} (h0 : 0 ≤ n) (h1 : n < 18446744073709551616) : IsB (enc 9 n) := by
  have e : (128 : Int) ^ (9 + 1) = 1180591620717411303424 := by decide
  exact enc_isB 9 n h0 (by rw [e]; omega)
theorem le_sum_mem {l : List Nat} {x : Nat} (h : x ∈ l) : x ≤ l.sum := by
  induction l with
  | nil => cases h
  | cons y l ih =>
    rw [List.sum_cons]
    rcases List.mem_cons.1 h with rfl | h
    · omega
    · have := ih h; omega
theorem law_PackWrites (n m : Int) (ps : List ByteArray) (h0 : 0 ≤ n) (h1 : n < 18446744073709551616) (m0 : -9223372036854775808 ≤ m) (m1 : m < 9223372036854775808) (hn : ps.length ≤ 140737488351232) (hs : ∀ p ∈ ps, p.size ≤ 1048576) : CallD Try.prog 3 [.raw (.int .u64 n), .raw (.int .i64 m), .sl 1 (strs ps)] noHeap (.raw (.bool true)) noHeap := by
  have hlv := c_Live1
  by_cases h1000 : 1000 < ps.length
  · refine calls_go (nt := 71) (rs := [.tmp 6]) Try.func3 rfl rfl rfl (by simp) (by intro id h; simp at h <;> omega) ?_; intro Q hQ hW
    repeat' (first
    | (with_reducible refine run_n ?_; with_reducible first | refine hK _ _ (by simp) ?_ | refine hK _ _ ?_; clear hK K)
    | (with_reducible first | refine awp_seq ?_ | refine then_n ?_ | refine then_r ?_ | refine then_e ?_ | refine awp_skip ?_ | refine awp_label ?_ | refine awp_ret ?_ | refine awp_exit ?_ | refine awp_block ?_ | refine awp_scope ?_ | refine in_n ?_ | refine in_r ?_ | refine in_e ?_ | refine in_ne (by decide) ?_ | refine ng_n ?_ | refine ng_r ?_ | refine ng_e ?_)
    | (with_reducible refine awp_regL 8 mixed (by kernel_rfl) ?_; intro K hK)
    | (with_reducible refine a_cond (ht := ?_) (hf := ?_) <;> intro hb <;> (try simp at hb) <;> (try contradiction) <;> (try subst hb) <;> (try omega))
    | (with_reducible first | refine a_move (hr := ?_) | refine a_assign (hr := ?_) | refine a_load (hr := ?_) | refine a_bin (hr := ?_) | refine a_lenS (hr := ?_) | refine a_lenR (hr := ?_) | refine a_pick (hr := ?_) | refine a_un (hr := ?_) | refine a_eqB (hr := ?_) | refine a_conv (hr := ?_) | refine a_bytesStr (hr := ?_) | refine a_strBytes (hr := ?_) | refine a_idxArr (hr := ?_) | refine a_eqS (hr := ?_) | refine a_indexAddr (hr := ?_) | refine a_buildSlice (hr := ?_) | refine a_call0 (hcall := hlv) (hr := ?_) | refine a_gT (hr := ?_) | refine a_gF (hr := ?_) | refine a_gU (hr := ?_))
    | (with_reducible refine a_gB (hT := ?_) (hF := ?_) <;> intro hb <;> (try simp at hb) <;> (try contradiction) <;> (try subst hb) <;> (try omega))
    | fail)
    (refine hQ _ _ _ _ (by first | exact .inr rfl | exact .inl rfl) (by simp; exact .r) (by simp; exact .r) ?_)
    exact Fin.drop (by simp; exact .r) (by simp)
  have hz := zz_range m0 m1
  have a1 := c_UintT n h0 h1
  have a2 := c_rUintT n h0 h1
  have a3 := c_rEqualT (enc 9 n) (by have := (enc_len 9 n).1; omega) (enc9_isB h0 h1)
  have a4 := c_WInt m m0 m1
  have a5 := c_rInt m m0 m1
  have a6 := c_rEqualT (enc 9 (zz m)) (by have := (enc_len 9 (zz m)).1; omega) (enc9_isB hz.1 hz.2)
  have a8 : CallD Try.prog 14 [.raw (.slice none 0 0)] noHeap (.sl 1 (u8s [])) noHeap := CallD.nil1 (c_JoinT [] (by simp) (by simp))
  generalize enc 9 n = en at a1 a2 a3
  generalize enc 9 (zz m) = em at a4 a5 a6
  refine calls_go (nt := 71) (rs := [.tmp 6]) Try.func3 rfl rfl rfl (by simp) (by intro id h; simp at h <;> omega) ?_; intro Q hQ hW
  repeat' (first
    | (with_reducible refine run_n ?_; with_reducible first | refine hK _ _ (by simp) ?_ | refine hK _ _ ?_; clear hK K)
    | (with_reducible first | refine awp_seq ?_ | refine then_n ?_ | refine then_r ?_ | refine then_e ?_ | refine awp_skip ?_ | refine awp_label ?_ | refine awp_ret ?_ | refine awp_exit ?_ | refine awp_block ?_ | refine awp_scope ?_ | refine in_n ?_ | refine in_r ?_ | refine in_e ?_ | refine in_ne (by decide) ?_ | refine ng_n ?_ | refine ng_r ?_ | refine ng_e ?_)
    | (with_reducible refine awp_regL 8 mixed (by kernel_rfl) ?_; intro K hK)
    | (with_reducible refine a_cond (ht := ?_) (hf := ?_) <;> intro hb <;> (try simp at hb) <;> (try contradiction) <;> (try subst hb) <;> (try omega))
    | (with_reducible first | refine a_move (hr := ?_) | refine a_assign (hr := ?_) | refine a_load (hr := ?_) | refine a_bin (hr := ?_) | refine a_lenS (hr := ?_) | refine a_lenR (hr := ?_) | refine a_pick (hr := ?_) | refine a_un (hr := ?_) | refine a_eqB (hr := ?_) | refine a_conv (hr := ?_) | refine a_bytesStr (hr := ?_) | refine a_strBytes (hr := ?_) | refine a_idxArr (hr := ?_) | refine a_eqS (hr := ?_) | refine a_indexAddr (hr := ?_) | refine a_buildSlice (hr := ?_) | refine a_call0 (hcall := hlv) (hr := ?_) | refine a_gT (hr := ?_) | refine a_gF (hr := ?_) | refine a_gU (hr := ?_))
    | (with_reducible refine a_gB (hT := ?_) (hF := ?_) <;> intro hb <;> (try simp at hb) <;> (try contradiction) <;> (try subst hb) <;> (try omega))
    | fail)
  refine AWP.weak (weak_nil0 (t := 7) (sz := 1) (by simp <;> rfl)) ?_
  refine AWP.weak (weak_nil0 (t := 8) (sz := 1) (by simp <;> rfl)) ?_
  refine awp_inv (α := Nat × List Int) (fun p => [(0, .raw (.int .u64 n)), (1, .raw (.int .i64 m)), (7, .sl 1 (u8s p.2)), (8, .sl 1 (u8s p.2)), (19, .sl 1 (strs ps)), (20, .raw (.int .i64 ps.length)), (21, .raw (.int .i64 p.1))]) (fun p => hpL []) (fun p => p.1 ≤ ps.length ∧ p.2.length ≤ 1048576 ∧ IsB p.2) (fun p => ps.length - p.1) (0, []) ⟨by simp, by simp, isB_nil⟩ (weak_o (by repeat' (first | refine sub_ohp (by first | (simp; done) | (intro hne; simp at hne; simp [hne])) (by simp) ?_ | exact sub_hpL (by simp))) (by simp) (by simp <;> omega)) ?_
  rintro ⟨i, acc⟩ ⟨g1, g2, g3⟩
  simp only at g1 g2 g3 ⊢
  rcases Nat.lt_or_ge i ps.length with hlt | hge
  · have hx := List.getElem?_eq_getElem hlt
    have hsz := hs ps[i] (List.getElem_mem hlt)
    generalize ps[i] = p at hx hsz
    have hl := (enc_len 9 p.size).1
    have b1 := c_WText p (by omega)
    have b2 := c_rText p (by omega)
    have hB : IsB (enc 9 p.size ++ bytesOf p) := isB_app.2 ⟨enc9_isB (by omega) (by omega), isB_bytes p⟩
    have hL : (enc 9 p.size ++ bytesOf p).length ≤ 1048586 := by rw [List.length_append, len_bytes]; omega
    have b3 := c_rEqualT (enc 9 p.size ++ bytesOf p) (by omega) hB
    generalize enc 9 p.size ++ bytesOf p = t at b1 b2 b3 hB hL
    have hL2 : (acc ++ (bytesOf p ++ t)).length ≤ 140737488355328 := by simp only [List.length_append, len_bytes]; omega
    have hB2 : IsB (acc ++ (bytesOf p ++ t)) := isB_app.2 ⟨g3, isB_app.2 ⟨isB_bytes p, hB⟩⟩
    have b4 : CallD Try.prog 14 [.sl 1 [.sl 1 (u8s acc), .sl 1 (u8s (bytesOf p)), .sl 1 (u8s t)]] noHeap (.sl 1 (u8s (acc ++ (bytesOf p ++ t)))) noHeap := by
      have := c_JoinT [acc, bytesOf p, t] (by simpa only [List.flatten_cons, List.flatten_nil, List.append_nil] using hL2) (by simp)
      simp only [List.flatten_cons, List.flatten_nil, List.append_nil] at this
      exact this
    have b5 : CallD Try.prog 15 [.sl 1 [.sl 1 (u8s acc), .sl 1 (u8s (bytesOf p)), .sl 1 (u8s t)]] noHeap (.sl 1 (u8s (acc ++ (bytesOf p ++ t)))) noHeap := by
      have := c_rJoinT [acc, bytesOf p, t] (by simpa only [List.flatten_cons, List.flatten_nil, List.append_nil] using hL2) (by simp)
      simp only [List.flatten_cons, List.flatten_nil, List.append_nil] at this
      exact this
    generalize acc ++ (bytesOf p ++ t) = acc2 at b4 b5 hL2 hB2
    repeat' (first
    | (with_reducible refine run_n ?_; with_reducible first | refine hK _ _ (by simp) ?_ | refine hK _ _ ?_; clear hK K)
    | (with_reducible first | refine awp_seq ?_ | refine then_n ?_ | refine then_r ?_ | refine then_e ?_ | refine awp_skip ?_ | refine awp_label ?_ | refine awp_ret ?_ | refine awp_exit ?_ | refine awp_block ?_ | refine awp_scope ?_ | refine in_n ?_ | refine in_r ?_ | refine in_e ?_ | refine in_ne (by decide) ?_ | refine ng_n ?_ | refine ng_r ?_ | refine ng_e ?_)
    | (with_reducible refine awp_regL 8 mixed (by kernel_rfl) ?_; intro K hK)
    | (with_reducible refine a_cond (ht := ?_) (hf := ?_) <;> intro hb <;> (try simp at hb) <;> (try contradiction) <;> (try subst hb) <;> (try omega))
    | (with_reducible first | refine a_move (hr := ?_) | refine a_assign (hr := ?_) | refine a_load (hr := ?_) | refine a_bin (hr := ?_) | refine a_lenS (hr := ?_) | refine a_lenR (hr := ?_) | refine a_pick (hr := ?_) | refine a_un (hr := ?_) | refine a_eqB (hr := ?_) | refine a_conv (hr := ?_) | refine a_bytesStr (hr := ?_) | refine a_strBytes (hr := ?_) | refine a_idxArr (hr := ?_) | refine a_eqS (hr := ?_) | refine a_indexAddr (hr := ?_) | refine a_buildSlice (hr := ?_) | refine a_callN (hcall := b1) (hr := ?_) | refine a_callN (hcall := b2) (hr := ?_) | refine a_callF (hcall := b3) (hr := ?_) | refine a_callF (hcall := b4) (hr := ?_) | refine a_callF (hcall := b5) (hr := ?_) | refine a_gT (hr := ?_) | refine a_gF (hr := ?_) | refine a_gU (hr := ?_))
    | (with_reducible refine a_gB (hT := ?_) (hF := ?_) <;> intro hb <;> (try simp at hb) <;> (try contradiction) <;> (try subst hb) <;> (try omega))
    | fail)
    · (refine hQ _ _ _ _ (by first | exact .inr rfl | exact .inl rfl) (by simp; exact .r) (by simp; exact .r) ?_)
      exact Fin.drop (by simp; exact .r) (by simp)
    · exact ⟨(i + 1, acc2), by simp only; omega, ⟨by simp only; omega, by simp only; omega, hB2⟩, weak_o (by repeat' (first | refine sub_ohp (by first | (simp; done) | (intro hne; simp at hne; simp [hne])) (by simp) ?_ | exact sub_hpL (by simp))) (by simp) (by simp <;> omega)⟩
  · obtain rfl : i = ps.length := by omega
    have a7 := c_rEqualT acc (by omega) g3
    repeat' (first
    | (with_reducible refine run_n ?_; with_reducible first | refine hK _ _ (by simp) ?_ | refine hK _ _ ?_; clear hK K)
    | (with_reducible first | refine awp_seq ?_ | refine then_n ?_ | refine then_r ?_ | refine then_e ?_ | refine awp_skip ?_ | refine awp_label ?_ | refine awp_ret ?_ | refine awp_exit ?_ | refine awp_block ?_ | refine awp_scope ?_ | refine in_n ?_ | refine in_r ?_ | refine in_e ?_ | refine in_ne (by decide) ?_ | refine ng_n ?_ | refine ng_r ?_ | refine ng_e ?_)
    | (with_reducible refine awp_regL 8 mixed (by kernel_rfl) ?_; intro K hK)
    | (with_reducible refine a_cond (ht := ?_) (hf := ?_) <;> intro hb <;> (try simp at hb) <;> (try contradiction) <;> (try subst hb) <;> (try omega))
    | (with_reducible first | refine a_move (hr := ?_) | refine a_assign (hr := ?_) | refine a_load (hr := ?_) | refine a_bin (hr := ?_) | refine a_lenS (hr := ?_) | refine a_lenR (hr := ?_) | refine a_pick (hr := ?_) | refine a_un (hr := ?_) | refine a_eqB (hr := ?_) | refine a_conv (hr := ?_) | refine a_bytesStr (hr := ?_) | refine a_strBytes (hr := ?_) | refine a_idxArr (hr := ?_) | refine a_eqS (hr := ?_) | refine a_indexAddr (hr := ?_) | refine a_buildSlice (hr := ?_) | refine a_callN (hcall := a1) (hr := ?_) | refine a_callN (hcall := a2) (hr := ?_) | refine a_callF (hcall := a3) (hr := ?_) | refine a_callN (hcall := a4) (hr := ?_) | refine a_callN (hcall := a5) (hr := ?_) | refine a_callF (hcall := a6) (hr := ?_) | refine a_callF (hcall := a7) (hr := ?_) | refine a_callF (hcall := a8) (hr := ?_) | refine a_gT (hr := ?_) | refine a_gF (hr := ?_) | refine a_gU (hr := ?_))
    | (with_reducible refine a_gB (hT := ?_) (hF := ?_) <;> intro hb <;> (try simp at hb) <;> (try contradiction) <;> (try subst hb) <;> (try omega))
    | fail)
    (refine hQ _ _ _ _ (by first | exact .inr rfl | exact .inl rfl) (by simp; exact .r) (by simp; exact .r) ?_)
    exact Fin.drop (by simp; exact .r) (by simp)
end Go.Proofs.Ytdlmkdgcdbkeaaa.Asl
