/- Part 13 of what the row leans on: abstract values and states, their rules, and the contracts of the functions. -/
import Derived.Test.YtdbdajmgfajcpaaZ12
namespace Go.Proofs.Ytdbdajmgfajcpaa.Asl
open Go Go.RowKit
set_option linter.unusedVariables false
set_option linter.unusedSimpArgs false
set_option maxRecDepth 100000
set_option maxHeartbeats 2000000
abbrev rdAV (bs : List Int) (at_ err : Int) : AV := .agg [.raw (.bool true), .sl 1 (u8s bs), .raw (.int .i64 at_), .raw (.int .i64 err)]
abbrev rdH (bs : List Int) (at_ err : Int) : Hp := setH noHeap 100000 (.box (rdAV bs at_ err))
/-- What is read: a value, how many bytes, what is wrong. -/
def dU (l : List Int) (most : Int) : Int × Nat × Int := if (dec l 0 0).2.2 ≠ 0 then (0, 0, (dec l 0 0).2.2) else if most < (dec l 0 0).1 then (0, 0, 3) else ((dec l 0 0).1, (dec l 0 0).2.1.toNat, 0)
def unz (n : Int) : Int := if n % 2 = 0 then n / 2 else -1 - n / 2
def zz (n : Int) : Int := if n < 0 then 2 * (-1 - n) + 1 else 2 * n
def dI (l : List Int) : Int × Nat × Int := (unz (dU l 18446744073709551615).1, (dU l 18446744073709551615).2)
def dB (l : List Int) : Int × Nat × Int := match l with | [] => (0, 0, 6) | c :: _ => (c, 1, 0)
def dT (l : List Int) (most : Int) : List Int × Nat × Int :=
  if (dec l 0 0).2.2 ≠ 0 then ([], 0, (dec l 0 0).2.2) else if most < 0 ∨ most < (dec l 0 0).1 then ([], 0, 3)
  else if (l.length : Int) - (dec l 0 0).2.1 < (dec l 0 0).1 then ([], 0, 6) else ((l.drop (dec l 0 0).2.1.toNat).take (dec l 0 0).1.toNat, ((dec l 0 0).2.1 + (dec l 0 0).1).toNat, 0)
theorem orI_comm (x y : Int) : orI .u64 x y = orI .u64 y x := by unfold orI; rw [BitVec.or_comm]
theorem pow_2_7 (i : Nat) : (2 : Int) ^ (7 * i) = 128 ^ i := by rw [Int.pow_mul]; rfl
theorem p128_9 : (128 : Int) ^ 9 = 9223372036854775808 := by decide
theorem p128_le {i : Nat} (h : i ≤ 9) : (128 : Int) ^ i ≤ 128 ^ 9 := by
  have : (128 : Nat) ^ i ≤ 128 ^ 9 := Nat.pow_le_pow_right (by decide) h
  exact_mod_cast this
theorem scan_sum {n c : Int} {i : Nat} (h0 : 0 ≤ n) (h1 : n < 128 ^ i) (hc : 0 ≤ c ∧ c ≤ 255) (hi : i ≤ 9) (h9 : i = 9 → c ≤ 1) : c % 128 * 128 ^ i < 18446744073709551616 ∧ n + c % 128 * 128 ^ i < 18446744073709551616 ∧ n + c % 128 * 128 ^ i < 128 ^ (i + 1) ∧ 0 ≤ c % 128 * 128 ^ i := by
  have hp := pow_pos128 i
  have hs := pow_128_succ i
  have e9 := p128_9
  have hm : c % 128 * 128 ^ i ≤ 127 * 128 ^ i := Int.mul_le_mul_of_nonneg_right (by omega) (Int.le_of_lt hp)
  have h00 : 0 ≤ c % 128 * 128 ^ i := Int.mul_nonneg (by omega) (Int.le_of_lt hp)
  by_cases e : i = 9
  · subst e
    have := h9 rfl
    have hc2 : c % 128 ≤ 1 := by omega
    have : c % 128 * 128 ^ 9 ≤ 1 * 128 ^ 9 := Int.mul_le_mul_of_nonneg_right hc2 (Int.le_of_lt hp)
    omega
  · have h8 : (128 : Int) ^ i ≤ 128 ^ 8 := by
      have : (128 : Nat) ^ i ≤ 128 ^ 8 := Nat.pow_le_pow_right (by decide) (by omega)
      exact_mod_cast this
    have e8 : (128 : Int) ^ 8 = 72057594037927936 := by decide
    omega
theorem or_scan {n c : Int} {i : Nat} (h0 : 0 ≤ n) (h1 : n < 128 ^ i) (hc : 0 ≤ c ∧ c ≤ 255) (hi : i ≤ 9) (h9 : i = 9 → c ≤ 1) : orI .u64 n (shlI .u64 (c % 128) (7 * (i : Int))) = n + c % 128 * 128 ^ i := by
  obtain ⟨s1, s2, s3, s4⟩ := scan_sum h0 h1 hc hi h9
  have e : shlI .u64 (c % 128) (7 * (i : Int)) = c % 128 * 128 ^ i := by
    unfold shlI
    rw [show min (7 * (i : Int)).toNat (IntKind.bits .u64) = 7 * i by simp [IntKind.bits]; omega, pow_2_7, wrap_u64 s4 s1]
  rw [e, orI_comm, orI_add _ _ (7 * i) s4 h0 (by
    have : ((2 ^ (7 * i) : Nat) : Int) = 128 ^ i := by rw [← pow_2_7]; norm_cast
    rw [this]; exact h1) (by
    have : ((2 ^ (7 * i) : Nat) : Int) = 128 ^ i := by rw [← pow_2_7]; norm_cast
    rw [this]; exact Int.mul_emod_left _ _) (by omega)]
  omega
theorem c_Err (bs : List Int) (a e : Int) : CallD Try.prog 89 [.ptr 100000 0] (rdH bs a e) (.raw (.int .i64 e)) (rdH bs a e) := by
  refine calls_go (nt := 16) (rs := [.tmp 2]) Try.func89 rfl rfl rfl (by simp) (by intro id h; simp at h <;> omega) ?_; intro Q hQ hW
  repeat' (first
    | (with_reducible refine run_n ?_; with_reducible first | refine hK _ _ (by simp) ?_ | refine hK _ _ ?_; clear hK K)
    | (with_reducible first | refine awp_seq ?_ | refine then_n ?_ | refine then_r ?_ | refine then_e ?_ | refine awp_skip ?_ | refine awp_label ?_ | refine awp_ret ?_ | refine awp_exit ?_ | refine awp_block ?_ | refine awp_scope ?_ | refine in_n ?_ | refine in_r ?_ | refine in_e ?_ | refine in_ne (by decide) ?_ | refine ng_n ?_ | refine ng_r ?_ | refine ng_e ?_)
    | (with_reducible refine awp_regT (by kernel_rfl) ?_; intro K hK)
    | (with_reducible refine a_cond (ht := ?_) (hf := ?_) <;> intro hb <;> (try simp at hb) <;> (try contradiction) <;> (try subst hb) <;> (try omega))
    | (with_reducible first | refine a_move (hr := ?_) | refine a_assign (hr := ?_) | refine a_load (hr := ?_) | refine a_fieldAddr (hr := ?_) | refine a_nilCheck (hr := ?_) | refine a_bin (hr := ?_) | refine a_pick (hr := ?_) | refine a_un (hr := ?_) | refine a_eqP (hr := ?_) | refine a_neP (hr := ?_) | refine a_eqB (hr := ?_) | refine a_eqS (hr := ?_) | refine a_gT (hr := ?_) | refine a_gF (hr := ?_) | refine a_gU (hr := ?_))
    | (with_reducible refine a_gB (hT := ?_) (hF := ?_) <;> intro hb <;> (try simp at hb) <;> (try contradiction) <;> (try subst hb) <;> (try omega))
    | fail)
  (refine hQ _ _ _ _ (by first | exact .inr rfl | exact .inl rfl) (by simp; exact .r) (by simp; exact .r) ?_)
  exact Fin.refl _ _
theorem c_Left (bs : List Int) (a : Nat) (e : Int) (hb' : bs.length < 9223372036854775808) (ha : a ≤ bs.length) : CallD Try.prog 90 [.ptr 100000 0] (rdH bs a e) (.raw (.int .i64 ((bs.length : Int) - a))) (rdH bs a e) := by
  refine calls_go (nt := 15) (rs := [.tmp 2]) Try.func90 rfl rfl rfl (by simp) (by intro id h; simp at h <;> omega) ?_; intro Q hQ hW
  repeat' (first
    | (with_reducible refine run_n ?_; with_reducible first | refine hK _ _ (by simp) ?_ | refine hK _ _ ?_; clear hK K)
    | (with_reducible first | refine awp_seq ?_ | refine then_n ?_ | refine then_r ?_ | refine then_e ?_ | refine awp_skip ?_ | refine awp_label ?_ | refine awp_ret ?_ | refine awp_exit ?_ | refine awp_block ?_ | refine awp_scope ?_ | refine in_n ?_ | refine in_r ?_ | refine in_e ?_ | refine in_ne (by decide) ?_ | refine ng_n ?_ | refine ng_r ?_ | refine ng_e ?_)
    | (with_reducible refine awp_regT (by kernel_rfl) ?_; intro K hK)
    | (with_reducible refine awp_regAM (id := 3) [] mixed (by kernel_rfl) (by kernel_rfl) ?_; intro K hK)
    | (with_reducible refine a_cond (ht := ?_) (hf := ?_) <;> intro hb <;> (try simp at hb) <;> (try contradiction) <;> (try subst hb) <;> (try omega))
    | (with_reducible first | refine a_move (hr := ?_) | refine a_assign (hr := ?_) | refine a_load (hr := ?_) | refine a_fieldAddr (hr := ?_) | refine a_nilCheck (hr := ?_) | refine a_bin (hr := ?_) | refine a_lenS (hr := ?_) | refine a_lenR (hr := ?_) | refine a_eqP (hr := ?_) | refine a_neP (hr := ?_) | refine a_eqB (hr := ?_) | refine a_eqS (hr := ?_))
    | fail)
  (refine hQ _ _ _ _ (by first | exact .inr rfl | exact .inl rfl) (by simp; exact .r) (by simp; exact .r) ?_)
  exact Fin.refl _ _
def endE (l : List Int) (e : Int) : Int := if e ≠ 0 then e else if l = [] then 0 else 10
theorem c_End (bs : List Int) (a : Nat) (e : Int) (hb' : bs.length < 9223372036854775808) (ha : a ≤ bs.length) : CallD Try.prog 92 [.ptr 100000 0] (rdH bs a e) (.raw (.int .i64 (endE (bs.drop a) e))) (rdH bs a e) := by
  have h1 := c_Err bs a e
  have h2 := c_Left bs a e hb' ha
  have hl : (bs.drop a = []) ↔ (bs.length : Int) - a = 0 := by
    rw [List.drop_eq_nil_iff]; omega
  by_cases he : e = 0
  · subst he
    by_cases hz : (bs.length : Int) - a = 0
    · rw [show endE (bs.drop a) 0 = 0 by simp only [endE, hl.2 hz]; rfl]
      rw [hz] at h2
      refine calls_go (nt := 14) (rs := [.tmp 2]) Try.func92 rfl rfl rfl (by simp) (by intro id h; simp at h <;> omega) ?_; intro Q hQ hW
      repeat' (first
    | (with_reducible refine run_n ?_; with_reducible first | refine hK _ _ (by simp) ?_ | refine hK _ _ ?_; clear hK K)
    | (with_reducible first | refine awp_seq ?_ | refine then_n ?_ | refine then_r ?_ | refine then_e ?_ | refine awp_skip ?_ | refine awp_label ?_ | refine awp_ret ?_ | refine awp_exit ?_ | refine awp_block ?_ | refine awp_scope ?_ | refine in_n ?_ | refine in_r ?_ | refine in_e ?_ | refine in_ne (by decide) ?_ | refine ng_n ?_ | refine ng_r ?_ | refine ng_e ?_)
    | (with_reducible refine awp_regT (by kernel_rfl) ?_; intro K hK)
    | (with_reducible refine a_cond (ht := ?_) (hf := ?_) <;> intro hb <;> (try simp at hb) <;> (try contradiction) <;> (try subst hb) <;> (try omega))
    | (with_reducible first | refine a_move (hr := ?_) | refine a_assign (hr := ?_) | refine a_bin (hr := ?_) | refine a_pick (hr := ?_) | refine a_eqB (hr := ?_) | refine a_neB (hr := ?_) | refine a_eqS (hr := ?_) | refine a_neS (hr := ?_) | refine a_callP (p := 100000) (hcall := h1) (hr := ?_) | refine a_callP (p := 100000) (hcall := h2) (hr := ?_) | refine a_gT (hr := ?_) | refine a_gF (hr := ?_) | refine a_gU (hr := ?_))
    | (with_reducible refine a_gB (hT := ?_) (hF := ?_) <;> intro hb <;> (try simp at hb) <;> (try contradiction) <;> (try subst hb) <;> (try omega))
    | fail)
      (refine hQ _ _ _ _ (by first | exact .inr rfl | exact .inl rfl) (by simp; exact .r) (by simp; exact .r) ?_)
      exact Fin.keep (by simp; exact .r) (by simp; exact .r) (by simp; exact .r) (by simp)
    · rw [show endE (bs.drop a) 0 = 10 by simp only [endE]; rw [if_neg (by simp), if_neg (fun h => hz (hl.1 h))]]
      refine calls_go (nt := 14) (rs := [.tmp 2]) Try.func92 rfl rfl rfl (by simp) (by intro id h; simp at h <;> omega) ?_; intro Q hQ hW
      repeat' (first
    | (with_reducible refine run_n ?_; with_reducible first | refine hK _ _ (by simp) ?_ | refine hK _ _ ?_; clear hK K)
    | (with_reducible first | refine awp_seq ?_ | refine then_n ?_ | refine then_r ?_ | refine then_e ?_ | refine awp_skip ?_ | refine awp_label ?_ | refine awp_ret ?_ | refine awp_exit ?_ | refine awp_block ?_ | refine awp_scope ?_ | refine in_n ?_ | refine in_r ?_ | refine in_e ?_ | refine in_ne (by decide) ?_ | refine ng_n ?_ | refine ng_r ?_ | refine ng_e ?_)
    | (with_reducible refine awp_regT (by kernel_rfl) ?_; intro K hK)
    | (with_reducible refine a_cond (ht := ?_) (hf := ?_) <;> intro hb <;> (try simp at hb) <;> (try contradiction) <;> (try subst hb) <;> (try omega))
    | (with_reducible first | refine a_move (hr := ?_) | refine a_assign (hr := ?_) | refine a_bin (hr := ?_) | refine a_pick (hr := ?_) | refine a_eqB (hr := ?_) | refine a_neB (hr := ?_) | refine a_eqS (hr := ?_) | refine a_neS (hr := ?_) | refine a_callP (p := 100000) (hcall := h1) (hr := ?_) | refine a_callP (p := 100000) (hcall := h2) (hr := ?_) | refine a_gT (hr := ?_) | refine a_gF (hr := ?_) | refine a_gU (hr := ?_))
    | (with_reducible refine a_gB (hT := ?_) (hF := ?_) <;> intro hb <;> (try simp at hb) <;> (try contradiction) <;> (try subst hb) <;> (try omega))
    | fail)
      (refine hQ _ _ _ _ (by first | exact .inr rfl | exact .inl rfl) (by simp; exact .r) (by simp; exact .r) ?_)
      exact Fin.keep (by simp; exact .r) (by simp; exact .r) (by simp; exact .r) (by simp)
  · rw [show endE (bs.drop a) e = e by simp only [endE]; rw [if_pos he]]
    refine calls_go (nt := 14) (rs := [.tmp 2]) Try.func92 rfl rfl rfl (by simp) (by intro id h; simp at h <;> omega) ?_; intro Q hQ hW
    repeat' (first
    | (with_reducible refine run_n ?_; with_reducible first | refine hK _ _ (by simp) ?_ | refine hK _ _ ?_; clear hK K)
    | (with_reducible first | refine awp_seq ?_ | refine then_n ?_ | refine then_r ?_ | refine then_e ?_ | refine awp_skip ?_ | refine awp_label ?_ | refine awp_ret ?_ | refine awp_exit ?_ | refine awp_block ?_ | refine awp_scope ?_ | refine in_n ?_ | refine in_r ?_ | refine in_e ?_ | refine in_ne (by decide) ?_ | refine ng_n ?_ | refine ng_r ?_ | refine ng_e ?_)
    | (with_reducible refine awp_regT (by kernel_rfl) ?_; intro K hK)
    | (with_reducible refine a_cond (ht := ?_) (hf := ?_) <;> intro hb <;> (try simp at hb) <;> (try contradiction) <;> (try subst hb) <;> (try omega))
    | (with_reducible first | refine a_move (hr := ?_) | refine a_assign (hr := ?_) | refine a_bin (hr := ?_) | refine a_pick (hr := ?_) | refine a_eqB (hr := ?_) | refine a_neB (hr := ?_) | refine a_eqS (hr := ?_) | refine a_neS (hr := ?_) | refine a_callP (p := 100000) (hcall := h1) (hr := ?_) | refine a_callP (p := 100000) (hcall := h2) (hr := ?_) | refine a_gT (hr := ?_) | refine a_gF (hr := ?_) | refine a_gU (hr := ?_))
    | (with_reducible refine a_gB (hT := ?_) (hF := ?_) <;> intro hb <;> (try simp at hb) <;> (try contradiction) <;> (try subst hb) <;> (try omega))
    | fail)
    (refine hQ _ _ _ _ (by first | exact .inr rfl | exact .inl rfl) (by simp; exact .r) (by simp; exact .r) ?_)
    exact Fin.keep (by simp; exact .r) (by simp; exact .r) (by simp; exact .r) (by simp)
abbrev decAV (d : Int × Int × Int) : AV := .tup [.raw (.int .u64 d.1), .raw (.int .i64 d.2.1), .raw (.int .i64 d.2.2)]
theorem c_scan (bs : List Int) (a : Nat) (e : Int) (hB : IsB bs) (hb' : bs.length < 9223372036854775808) (ha : a ≤ bs.length) : CallD Try.prog 109 [.ptr 100000 0] (rdH bs a e) (decAV (dec (bs.drop a) 0 0)) (rdH bs a e) := by
  have h2 := c_Left bs a e hb' ha
  refine calls_go (nt := 57) (rs := [.tmp 2, .tmp 3, .tmp 4]) Try.func109 rfl rfl rfl (by simp) (by intro id h; simp at h <;> omega) ?_; intro Q hQ hW
  repeat' (first
    | (with_reducible refine run_n ?_; with_reducible first | refine hK _ _ (by simp) ?_ | refine hK _ _ ?_; clear hK K)
    | (with_reducible first | refine awp_seq ?_ | refine then_n ?_ | refine then_r ?_ | refine then_e ?_ | refine awp_skip ?_ | refine awp_label ?_ | refine awp_ret ?_ | refine awp_exit ?_ | refine awp_block ?_ | refine awp_scope ?_ | refine in_n ?_ | refine in_r ?_ | refine in_e ?_ | refine in_ne (by decide) ?_ | refine ng_n ?_ | refine ng_r ?_ | refine ng_e ?_)
    | (with_reducible refine awp_regT (by kernel_rfl) ?_; intro K hK)
    | (with_reducible refine awp_regAM (id := 5) [] mixed (by kernel_rfl) (by kernel_rfl) ?_; intro K hK)
    | (with_reducible refine a_cond (ht := ?_) (hf := ?_) <;> intro hb <;> (try simp at hb) <;> (try contradiction) <;> (try subst hb) <;> (try omega))
    | (with_reducible first | refine a_move (hr := ?_) | refine a_assign (hr := ?_) | refine a_load (hr := ?_) | refine a_fieldAddr (hr := ?_) | refine a_nilCheck (hr := ?_) | refine a_and (hr := ?_) | refine a_or (hr := ?_) | refine a_shl (hr := ?_) | refine a_bin (hr := ?_) | refine a_pick (hr := ?_) | refine a_eqB (hr := ?_) | refine a_conv (hr := ?_) | refine a_bytesStr (hr := ?_) | refine a_strBytes (hr := ?_) | refine a_idxArr (hr := ?_) | refine a_eqS (hr := ?_) | refine a_indexAddr (hr := ?_) | refine a_callP (p := 100000) (hcall := h2) (hr := ?_) | refine a_gT (hr := ?_) | refine a_gF (hr := ?_) | refine a_gU (hr := ?_))
    | (with_reducible refine a_gB (hT := ?_) (hF := ?_) <;> intro hb <;> (try simp at hb) <;> (try contradiction) <;> (try subst hb) <;> (try omega))
    | fail)
  refine awp_inv (α := Nat × Int) (fun p => [(0, .ptr 100000 0), (5, .raw (.int .u64 p.2)), (9, .raw (.int .i64 ((bs.length : Int) - a))), (10, .raw (.int .i64 p.1))]) (fun p => hpL [(100000, .box (rdAV bs a e))])
    (fun p => p.1 ≤ 9 ∧ p.1 ≤ bs.length - a ∧ 0 ≤ p.2 ∧ p.2 < 128 ^ p.1 ∧ dec (bs.drop (a + p.1)) p.1 p.2 = dec (bs.drop a) 0 0) (fun p => bs.length - a - p.1) (0, 0) ⟨by simp, by simp, by simp, by simp, by simp⟩ (weak_o (by repeat' (first | refine sub_ohp (by first | (simp; done) | (intro hne; simp at hne; simp [hne])) (by simp) ?_ | exact sub_hpL (by simp))) (by simp) (by simp <;> omega)) ?_
  rintro ⟨i, n⟩ ⟨g1, g2, g3, g4, g5⟩
  simp only at g1 g2 g3 g4 g5 ⊢
  rw [← g5] at hQ
  rcases Nat.lt_or_ge i (bs.length - a) with hlt | hge
  · have hlt' : a + i < bs.length := by omega
    have hx := List.getElem?_eq_getElem hlt'
    have hc := hB bs[a + i] (List.getElem_mem hlt')
    rw [List.drop_eq_getElem_cons hlt'] at g5 hQ
    generalize bs[a + i] = c at hx hc g5 hQ
    simp only [dec] at g5 hQ
    have hto : ((a : Int) + (i : Int)).toNat = a + i := by omega
    have h64 : n < 18446744073709551616 := by have := p128_le g1; rw [p128_9] at this; omega
    by_cases h9 : i = 9 ∧ 1 < c
    · rw [if_pos h9] at hQ
      repeat' (first
    | (with_reducible refine run_n ?_; with_reducible first | refine hK _ _ (by simp) ?_ | refine hK _ _ ?_; clear hK K)
    | (with_reducible first | refine awp_seq ?_ | refine then_n ?_ | refine then_r ?_ | refine then_e ?_ | refine awp_skip ?_ | refine awp_label ?_ | refine awp_ret ?_ | refine awp_exit ?_ | refine awp_block ?_ | refine awp_scope ?_ | refine in_n ?_ | refine in_r ?_ | refine in_e ?_ | refine in_ne (by decide) ?_ | refine ng_n ?_ | refine ng_r ?_ | refine ng_e ?_)
    | (with_reducible refine awp_regT (by kernel_rfl) ?_; intro K hK)
    | (with_reducible refine awp_regAM (id := 5) [] mixed (by kernel_rfl) (by kernel_rfl) ?_; intro K hK)
    | (with_reducible refine a_cond (ht := ?_) (hf := ?_) <;> intro hb <;> (try simp at hb) <;> (try contradiction) <;> (try subst hb) <;> (try omega))
    | (with_reducible first | refine a_move (hr := ?_) | refine a_assign (hr := ?_) | refine a_load (hr := ?_) | refine a_fieldAddr (hr := ?_) | refine a_nilCheck (hr := ?_) | refine a_and (hr := ?_) | refine a_or (hr := ?_) | refine a_shl (hr := ?_) | refine a_bin (hr := ?_) | refine a_pick (hr := ?_) | refine a_eqB (hr := ?_) | refine a_conv (hr := ?_) | refine a_bytesStr (hr := ?_) | refine a_strBytes (hr := ?_) | refine a_idxArr (hr := ?_) | refine a_eqS (hr := ?_) | refine a_indexAddr (hr := ?_) | refine a_gT (hr := ?_) | refine a_gF (hr := ?_) | refine a_gU (hr := ?_))
    | (with_reducible refine a_gB (hT := ?_) (hF := ?_) <;> intro hb <;> (try simp at hb) <;> (try contradiction) <;> (try subst hb) <;> (try omega))
    | fail)
      all_goals ((refine hQ _ _ _ _ (by first | exact .inr rfl | exact .inl rfl) (by simp; exact .r) (by simp; exact .r) ?_))
      all_goals (exact Fin.keep (by simp; exact .r) (by simp; exact .r) (by simp; exact .r) (by simp))
    · rw [if_neg h9] at hQ g5
      have h9' : i = 9 → c ≤ 1 := fun h => by omega
      have hor := or_scan g3 g4 hc g1 h9'
      obtain ⟨s1, s2, s3, s4⟩ := scan_sum g3 g4 hc g1 h9'
      by_cases h0 : c = 0 ∧ 0 < i
      · rw [if_pos h0] at hQ
        repeat' (first
    | (with_reducible refine run_n ?_; with_reducible first | refine hK _ _ (by simp) ?_ | refine hK _ _ ?_; clear hK K)
    | (with_reducible first | refine awp_seq ?_ | refine then_n ?_ | refine then_r ?_ | refine then_e ?_ | refine awp_skip ?_ | refine awp_label ?_ | refine awp_ret ?_ | refine awp_exit ?_ | refine awp_block ?_ | refine awp_scope ?_ | refine in_n ?_ | refine in_r ?_ | refine in_e ?_ | refine in_ne (by decide) ?_ | refine ng_n ?_ | refine ng_r ?_ | refine ng_e ?_)
    | (with_reducible refine awp_regT (by kernel_rfl) ?_; intro K hK)
    | (with_reducible refine awp_regAM (id := 5) [] mixed (by kernel_rfl) (by kernel_rfl) ?_; intro K hK)
    | (with_reducible refine a_cond (ht := ?_) (hf := ?_) <;> intro hb <;> (try simp at hb) <;> (try contradiction) <;> (try subst hb) <;> (try omega))
    | (with_reducible first | refine a_move (hr := ?_) | refine a_assign (hr := ?_) | refine a_load (hr := ?_) | refine a_fieldAddr (hr := ?_) | refine a_nilCheck (hr := ?_) | refine a_and (hr := ?_) | refine a_or (hr := ?_) | refine a_shl (hr := ?_) | refine a_bin (hr := ?_) | refine a_pick (hr := ?_) | refine a_eqB (hr := ?_) | refine a_conv (hr := ?_) | refine a_bytesStr (hr := ?_) | refine a_strBytes (hr := ?_) | refine a_idxArr (hr := ?_) | refine a_eqS (hr := ?_) | refine a_indexAddr (hr := ?_) | refine a_gT (hr := ?_) | refine a_gF (hr := ?_) | refine a_gU (hr := ?_))
    | (with_reducible refine a_gB (hT := ?_) (hF := ?_) <;> intro hb <;> (try simp at hb) <;> (try contradiction) <;> (try subst hb) <;> (try omega))
    | fail)
        all_goals ((refine hQ _ _ _ _ (by first | exact .inr rfl | exact .inl rfl) (by simp; exact .r) (by simp; exact .r) ?_))
        all_goals (exact Fin.keep (by simp; exact .r) (by simp; exact .r) (by simp; exact .r) (by simp))
      · rw [if_neg h0] at hQ g5
        by_cases h1 : c < 128
        · rw [if_pos h1] at hQ
          have hor' : orI .u64 n (shlI .u64 (c % 128) (7 * (i : Int))) = n + c * 128 ^ i := by have e := hor; rw [show n + c % 128 * 128 ^ i = n + c * 128 ^ i by rw [show c % 128 = c by omega]] at e; exact e
          clear hor
          repeat' (first
    | (with_reducible refine run_n ?_; with_reducible first | refine hK _ _ (by simp) ?_ | refine hK _ _ ?_; clear hK K)
    | (with_reducible first | refine awp_seq ?_ | refine then_n ?_ | refine then_r ?_ | refine then_e ?_ | refine awp_skip ?_ | refine awp_label ?_ | refine awp_ret ?_ | refine awp_exit ?_ | refine awp_block ?_ | refine awp_scope ?_ | refine in_n ?_ | refine in_r ?_ | refine in_e ?_ | refine in_ne (by decide) ?_ | refine ng_n ?_ | refine ng_r ?_ | refine ng_e ?_)
    | (with_reducible refine awp_regT (by kernel_rfl) ?_; intro K hK)
    | (with_reducible refine awp_regAM (id := 5) [] mixed (by kernel_rfl) (by kernel_rfl) ?_; intro K hK)
    | (with_reducible refine a_cond (ht := ?_) (hf := ?_) <;> intro hb <;> (try simp at hb) <;> (try contradiction) <;> (try subst hb) <;> (try omega))
    | (with_reducible first | refine a_move (hr := ?_) | refine a_assign (hr := ?_) | refine a_load (hr := ?_) | refine a_fieldAddr (hr := ?_) | refine a_nilCheck (hr := ?_) | refine a_and (hr := ?_) | refine a_or (hr := ?_) | refine a_shl (hr := ?_) | refine a_bin (hr := ?_) | refine a_pick (hr := ?_) | refine a_eqB (hr := ?_) | refine a_conv (hr := ?_) | refine a_bytesStr (hr := ?_) | refine a_strBytes (hr := ?_) | refine a_idxArr (hr := ?_) | refine a_eqS (hr := ?_) | refine a_indexAddr (hr := ?_) | refine a_gT (hr := ?_) | refine a_gF (hr := ?_) | refine a_gU (hr := ?_))
    | (with_reducible refine a_gB (hT := ?_) (hF := ?_) <;> intro hb <;> (try simp at hb) <;> (try contradiction) <;> (try subst hb) <;> (try omega))
    | fail)
          all_goals ((refine hQ _ _ _ _ (by first | exact .inr rfl | exact .inl rfl) (by simp; exact .r) (by simp; exact .r) ?_))
          all_goals (try rw [hor'])
          all_goals (refine (Fin.keep (X := rdAV bs a e) (by simp; exact .r) (by simp; exact .r) (by simp; exact .r) (by simp)).trans ?_)
          all_goals first | exact Fin.refl _ _ | (simp at hor' ⊢; rw [hor']; exact Fin.refl _ _)
        · rw [if_neg h1] at g5
          repeat' (first
    | (with_reducible refine run_n ?_; with_reducible first | refine hK _ _ (by simp) ?_ | refine hK _ _ ?_; clear hK K)
    | (with_reducible first | refine awp_seq ?_ | refine then_n ?_ | refine then_r ?_ | refine then_e ?_ | refine awp_skip ?_ | refine awp_label ?_ | refine awp_ret ?_ | refine awp_exit ?_ | refine awp_block ?_ | refine awp_scope ?_ | refine in_n ?_ | refine in_r ?_ | refine in_e ?_ | refine in_ne (by decide) ?_ | refine ng_n ?_ | refine ng_r ?_ | refine ng_e ?_)
    | (with_reducible refine awp_regT (by kernel_rfl) ?_; intro K hK)
    | (with_reducible refine awp_regAM (id := 5) [] mixed (by kernel_rfl) (by kernel_rfl) ?_; intro K hK)
    | (with_reducible refine a_cond (ht := ?_) (hf := ?_) <;> intro hb <;> (try simp at hb) <;> (try contradiction) <;> (try subst hb) <;> (try omega))
    | (with_reducible first | refine a_move (hr := ?_) | refine a_assign (hr := ?_) | refine a_load (hr := ?_) | refine a_fieldAddr (hr := ?_) | refine a_nilCheck (hr := ?_) | refine a_and (hr := ?_) | refine a_or (hr := ?_) | refine a_shl (hr := ?_) | refine a_bin (hr := ?_) | refine a_pick (hr := ?_) | refine a_eqB (hr := ?_) | refine a_conv (hr := ?_) | refine a_bytesStr (hr := ?_) | refine a_strBytes (hr := ?_) | refine a_idxArr (hr := ?_) | refine a_eqS (hr := ?_) | refine a_indexAddr (hr := ?_) | refine a_gT (hr := ?_) | refine a_gF (hr := ?_) | refine a_gU (hr := ?_))
    | (with_reducible refine a_gB (hT := ?_) (hF := ?_) <;> intro hb <;> (try simp at hb) <;> (try contradiction) <;> (try subst hb) <;> (try omega))
    | fail)
          exact ⟨(i + 1, n + c % 128 * 128 ^ i), by simp only; omega, ⟨by simp only; omega, by simp only; omega, by simp only; omega, by simp only; omega, by simpa [Nat.add_assoc] using g5⟩, weak_o (by repeat' (first | exact sub_hpL (by simp))) (by simp) (by simp [hor])⟩
  · obtain rfl : i = bs.length - a := by omega
    rw [List.drop_of_length_le (by omega)] at hQ
    simp only [dec] at hQ
    repeat' (first
    | (with_reducible refine run_n ?_; with_reducible first | refine hK _ _ (by simp) ?_ | refine hK _ _ ?_; clear hK K)
    | (with_reducible first | refine awp_seq ?_ | refine then_n ?_ | refine then_r ?_ | refine then_e ?_ | refine awp_skip ?_ | refine awp_label ?_ | refine awp_ret ?_ | refine awp_exit ?_ | refine awp_block ?_ | refine awp_scope ?_ | refine in_n ?_ | refine in_r ?_ | refine in_e ?_ | refine in_ne (by decide) ?_ | refine ng_n ?_ | refine ng_r ?_ | refine ng_e ?_)
    | (with_reducible refine awp_regT (by kernel_rfl) ?_; intro K hK)
    | (with_reducible refine awp_regAM (id := 5) [] mixed (by kernel_rfl) (by kernel_rfl) ?_; intro K hK)
    | (with_reducible refine a_cond (ht := ?_) (hf := ?_) <;> intro hb <;> (try simp at hb) <;> (try contradiction) <;> (try subst hb) <;> (try omega))
    | (with_reducible first | refine a_move (hr := ?_) | refine a_assign (hr := ?_) | refine a_load (hr := ?_) | refine a_fieldAddr (hr := ?_) | refine a_nilCheck (hr := ?_) | refine a_and (hr := ?_) | refine a_or (hr := ?_) | refine a_shl (hr := ?_) | refine a_bin (hr := ?_) | refine a_pick (hr := ?_) | refine a_eqB (hr := ?_) | refine a_conv (hr := ?_) | refine a_bytesStr (hr := ?_) | refine a_strBytes (hr := ?_) | refine a_idxArr (hr := ?_) | refine a_eqS (hr := ?_) | refine a_indexAddr (hr := ?_) | refine a_gT (hr := ?_) | refine a_gF (hr := ?_) | refine a_gU (hr := ?_))
    | (with_reducible refine a_gB (hT := ?_) (hF := ?_) <;> intro hb <;> (try simp at hb) <;> (try contradiction) <;> (try subst hb) <;> (try omega))
    | fail)
    (refine hQ _ _ _ _ (by first | exact .inr rfl | exact .inl rfl) (by simp; exact .r) (by simp; exact .r) ?_)
    exact Fin.keep (by simp; exact .r) (by simp; exact .r) (by simp; exact .r) (by simp)
theorem dec_ok : ∀ (l : List Int) (i : Nat) (a N K E : Int), dec l i a = (N, K, E) → IsB l → 0 ≤ a → a < 128 ^ i → i ≤ 9 → (0 ≤ N ∧ N < 18446744073709551616 ∧ 0 ≤ K ∧ K ≤ (i : Int) + l.length ∧ (E = 0 → (i : Int) + 1 ≤ K) ∧ (E ≠ 0 → N = 0 ∧ K = 0) ∧ (E = 0 ∨ E = 6 ∨ E = 8 ∨ E = 9))
  | [], i, a, N, K, E, h, _, _, _, _ => by
    simp only [dec, Prod.mk.injEq] at h
    obtain ⟨rfl, rfl, rfl⟩ := h
    simp <;> omega
  | c :: l, i, a, N, K, E, h, hB, h0, h1, h9 => by
    have hc := (isB_cons.1 hB).1
    rw [dec] at h
    by_cases c1 : i = 9 ∧ 1 < c
    · rw [if_pos c1] at h
      simp only [Prod.mk.injEq] at h
      obtain ⟨rfl, rfl, rfl⟩ := h
      simp <;> omega
    rw [if_neg c1] at h
    obtain ⟨s1, s2, s3, s4⟩ := scan_sum h0 h1 hc h9 (fun h => by omega)
    by_cases c2 : c = 0 ∧ 0 < i
    · rw [if_pos c2] at h
      simp only [Prod.mk.injEq] at h
      obtain ⟨rfl, rfl, rfl⟩ := h
      simp <;> omega
    rw [if_neg c2] at h
    by_cases c3 : c < 128
    · rw [if_pos c3] at h
      rw [show c % 128 = c by omega] at s2 s4
      simp only [Prod.mk.injEq] at h
      obtain ⟨rfl, rfl, rfl⟩ := h
      simp <;> omega
    · rw [if_neg c3] at h
      obtain ⟨q1, q2, q3, q4, q5, q6, q7⟩ := dec_ok l (i + 1) _ N K E h (isB_cons.1 hB).2 (by omega) s3 (by omega)
      refine ⟨q1, q2, q3, ?_, fun e => ?_, q6, q7⟩
      · rw [List.length_cons]; omega
      · have := q5 e; omega
theorem dec_ok0 {l : List Int} (hB : IsB l) : 0 ≤ (dec l 0 0).1 ∧ (dec l 0 0).1 < 18446744073709551616 ∧ 0 ≤ (dec l 0 0).2.1 ∧ (dec l 0 0).2.1 ≤ l.length ∧ ((dec l 0 0).2.2 = 0 → 1 ≤ (dec l 0 0).2.1) ∧ ((dec l 0 0).2.2 ≠ 0 → (dec l 0 0).1 = 0 ∧ (dec l 0 0).2.1 = 0) ∧ ((dec l 0 0).2.2 = 0 ∨ (dec l 0 0).2.2 = 6 ∨ (dec l 0 0).2.2 = 8 ∨ (dec l 0 0).2.2 = 9) := by
  have := dec_ok l 0 0 _ _ _ rfl hB (by omega) (by simp) (by omega)
  simpa using this
/-- What an answer makes of a Reader. -/
abbrev nxA {α : Type} (a : Nat) (e : Int) (d : α × Nat × Int) : Nat := if e ≠ 0 then a else a + d.2.1
abbrev nxE {α : Type} (e : Int) (d : α × Nat × Int) : Int := if e ≠ 0 then e else d.2.2
theorem c_RdUint (bs : List Int) (a : Nat) (e most : Int) (hB : IsB bs) (hb' : bs.length < 9223372036854775808) (ha : a ≤ bs.length) : CallD Try.prog 87 [.ptr 100000 0, .raw (.int .u64 most)] (rdH bs a e) (.raw (.int .u64 (if e ≠ 0 then 0 else (dU (bs.drop a) most).1))) (rdH bs (nxA a e (dU (bs.drop a) most)) (nxE e (dU (bs.drop a) most))) := by
  have h1 := c_Err bs a e
  have h2 := c_scan bs a e hB hb' ha
  have ho := dec_ok0 (isB_drop hB a)
  rw [List.length_drop] at ho
  unfold nxA nxE dU
  generalize dec (bs.drop a) 0 0 = d at h2 ho ⊢
  obtain ⟨n, k, er⟩ := d
  simp only [decAV] at h2 ho ⊢
  obtain ⟨o1, o2, o3, o4, o5, o6, o7⟩ := ho
  by_cases he : e = 0
  · subst he
    by_cases h3 : er = 0
    · subst h3
      by_cases h4 : most < n
      · simp only [ne_eq, not_true, if_false, if_pos h4, Nat.add_zero]
        refine calls_go (nt := 39) (rs := [.tmp 4]) Try.func87 rfl rfl rfl (by simp) (by intro id h; simp at h <;> omega) ?_; intro Q hQ hW
        repeat' (first
    | (with_reducible refine run_n ?_; with_reducible first | refine hK _ _ (by simp) ?_ | refine hK _ _ ?_; clear hK K)
    | (with_reducible first | refine awp_seq ?_ | refine then_n ?_ | refine then_r ?_ | refine then_e ?_ | refine awp_skip ?_ | refine awp_label ?_ | refine awp_ret ?_ | refine awp_exit ?_ | refine awp_block ?_ | refine awp_scope ?_ | refine in_n ?_ | refine in_r ?_ | refine in_e ?_ | refine in_ne (by decide) ?_ | refine ng_n ?_ | refine ng_r ?_ | refine ng_e ?_)
    | (with_reducible refine awp_regT (by kernel_rfl) ?_; intro K hK)
    | (with_reducible refine a_cond (ht := ?_) (hf := ?_) <;> intro hb <;> (try simp at hb) <;> (try contradiction) <;> (try subst hb) <;> (try omega))
    | (with_reducible first | refine a_move (hr := ?_) | refine a_assign (hr := ?_) | refine a_load (hr := ?_) | refine a_fieldAddr (hr := ?_) | refine a_nilCheck (hr := ?_) | refine a_bin (hr := ?_) | refine a_extract (hr := ?_) | refine a_pick (hr := ?_) | refine a_store (hr := ?_) | refine a_eqB (hr := ?_) | refine a_neB (hr := ?_) | refine a_eqS (hr := ?_) | refine a_neS (hr := ?_) | refine a_callP (p := 100000) (hcall := h1) (hr := ?_) | refine a_callP (p := 100000) (hcall := h2) (hr := ?_) | refine a_gT (hr := ?_) | refine a_gF (hr := ?_) | refine a_gU (hr := ?_))
    | (with_reducible refine a_gB (hT := ?_) (hF := ?_) <;> intro hb <;> (try simp at hb) <;> (try contradiction) <;> (try subst hb) <;> (try omega))
    | fail)
        (refine hQ _ _ _ _ (by first | exact .inr rfl | exact .inl rfl) (by simp; exact .r) (by simp; exact .r) ?_)
        exact Fin.keep (by simp; exact .r) (by simp; exact .r) (by simp; exact .r) (by simp)
      · simp only [ne_eq, not_true, if_false, if_neg h4]
        have e1 : (a : Int) + k = ((a + k.toNat : Nat) : Int) := by omega
        refine calls_go (nt := 39) (rs := [.tmp 4]) Try.func87 rfl rfl rfl (by simp) (by intro id h; simp at h <;> omega) ?_; intro Q hQ hW
        repeat' (first
    | (with_reducible refine run_n ?_; with_reducible first | refine hK _ _ (by simp) ?_ | refine hK _ _ ?_; clear hK K)
    | (with_reducible first | refine awp_seq ?_ | refine then_n ?_ | refine then_r ?_ | refine then_e ?_ | refine awp_skip ?_ | refine awp_label ?_ | refine awp_ret ?_ | refine awp_exit ?_ | refine awp_block ?_ | refine awp_scope ?_ | refine in_n ?_ | refine in_r ?_ | refine in_e ?_ | refine in_ne (by decide) ?_ | refine ng_n ?_ | refine ng_r ?_ | refine ng_e ?_)
    | (with_reducible refine awp_regT (by kernel_rfl) ?_; intro K hK)
    | (with_reducible refine a_cond (ht := ?_) (hf := ?_) <;> intro hb <;> (try simp at hb) <;> (try contradiction) <;> (try subst hb) <;> (try omega))
    | (with_reducible first | refine a_move (hr := ?_) | refine a_assign (hr := ?_) | refine a_load (hr := ?_) | refine a_fieldAddr (hr := ?_) | refine a_nilCheck (hr := ?_) | refine a_bin (hr := ?_) | refine a_extract (hr := ?_) | refine a_pick (hr := ?_) | refine a_store (hr := ?_) | refine a_eqB (hr := ?_) | refine a_neB (hr := ?_) | refine a_eqS (hr := ?_) | refine a_neS (hr := ?_) | refine a_callP (p := 100000) (hcall := h1) (hr := ?_) | refine a_callP (p := 100000) (hcall := h2) (hr := ?_) | refine a_gT (hr := ?_) | refine a_gF (hr := ?_) | refine a_gU (hr := ?_))
    | (with_reducible refine a_gB (hT := ?_) (hF := ?_) <;> intro hb <;> (try simp at hb) <;> (try contradiction) <;> (try subst hb) <;> (try omega))
    | fail)
        (refine hQ _ _ _ _ (by first | exact .inr rfl | exact .inl rfl) (by simp; exact .r) (by simp; exact .r) ?_)
        rw [e1]
        exact Fin.keep (by simp; exact .r) (by simp; exact .r) (by simp; exact .r) (by simp)
    · simp only [ne_eq, h3, not_false_iff, if_true, not_true, if_false, Nat.add_zero]
      refine calls_go (nt := 39) (rs := [.tmp 4]) Try.func87 rfl rfl rfl (by simp) (by intro id h; simp at h <;> omega) ?_; intro Q hQ hW
      repeat' (first
    | (with_reducible refine run_n ?_; with_reducible first | refine hK _ _ (by simp) ?_ | refine hK _ _ ?_; clear hK K)
    | (with_reducible first | refine awp_seq ?_ | refine then_n ?_ | refine then_r ?_ | refine then_e ?_ | refine awp_skip ?_ | refine awp_label ?_ | refine awp_ret ?_ | refine awp_exit ?_ | refine awp_block ?_ | refine awp_scope ?_ | refine in_n ?_ | refine in_r ?_ | refine in_e ?_ | refine in_ne (by decide) ?_ | refine ng_n ?_ | refine ng_r ?_ | refine ng_e ?_)
    | (with_reducible refine awp_regT (by kernel_rfl) ?_; intro K hK)
    | (with_reducible refine a_cond (ht := ?_) (hf := ?_) <;> intro hb <;> (try simp at hb) <;> (try contradiction) <;> (try subst hb) <;> (try omega))
    | (with_reducible first | refine a_move (hr := ?_) | refine a_assign (hr := ?_) | refine a_load (hr := ?_) | refine a_fieldAddr (hr := ?_) | refine a_nilCheck (hr := ?_) | refine a_bin (hr := ?_) | refine a_extract (hr := ?_) | refine a_pick (hr := ?_) | refine a_store (hr := ?_) | refine a_eqB (hr := ?_) | refine a_neB (hr := ?_) | refine a_eqS (hr := ?_) | refine a_neS (hr := ?_) | refine a_callP (p := 100000) (hcall := h1) (hr := ?_) | refine a_callP (p := 100000) (hcall := h2) (hr := ?_) | refine a_gT (hr := ?_) | refine a_gF (hr := ?_) | refine a_gU (hr := ?_))
    | (with_reducible refine a_gB (hT := ?_) (hF := ?_) <;> intro hb <;> (try simp at hb) <;> (try contradiction) <;> (try subst hb) <;> (try omega))
    | fail)
      (refine hQ _ _ _ _ (by first | exact .inr rfl | exact .inl rfl) (by simp; exact .r) (by simp; exact .r) ?_)
      exact Fin.keep (by simp; exact .r) (by simp; exact .r) (by simp; exact .r) (by simp)
  · simp only [ne_eq, he, not_false_iff, if_true]
    refine calls_go (nt := 39) (rs := [.tmp 4]) Try.func87 rfl rfl rfl (by simp) (by intro id h; simp at h <;> omega) ?_; intro Q hQ hW
    repeat' (first
    | (with_reducible refine run_n ?_; with_reducible first | refine hK _ _ (by simp) ?_ | refine hK _ _ ?_; clear hK K)
    | (with_reducible first | refine awp_seq ?_ | refine then_n ?_ | refine then_r ?_ | refine then_e ?_ | refine awp_skip ?_ | refine awp_label ?_ | refine awp_ret ?_ | refine awp_exit ?_ | refine awp_block ?_ | refine awp_scope ?_ | refine in_n ?_ | refine in_r ?_ | refine in_e ?_ | refine in_ne (by decide) ?_ | refine ng_n ?_ | refine ng_r ?_ | refine ng_e ?_)
    | (with_reducible refine awp_regT (by kernel_rfl) ?_; intro K hK)
    | (with_reducible refine a_cond (ht := ?_) (hf := ?_) <;> intro hb <;> (try simp at hb) <;> (try contradiction) <;> (try subst hb) <;> (try omega))
    | (with_reducible first | refine a_move (hr := ?_) | refine a_assign (hr := ?_) | refine a_load (hr := ?_) | refine a_fieldAddr (hr := ?_) | refine a_nilCheck (hr := ?_) | refine a_bin (hr := ?_) | refine a_extract (hr := ?_) | refine a_pick (hr := ?_) | refine a_store (hr := ?_) | refine a_eqB (hr := ?_) | refine a_neB (hr := ?_) | refine a_eqS (hr := ?_) | refine a_neS (hr := ?_) | refine a_callP (p := 100000) (hcall := h1) (hr := ?_) | refine a_callP (p := 100000) (hcall := h2) (hr := ?_) | refine a_gT (hr := ?_) | refine a_gF (hr := ?_) | refine a_gU (hr := ?_))
    | (with_reducible refine a_gB (hT := ?_) (hF := ?_) <;> intro hb <;> (try simp at hb) <;> (try contradiction) <;> (try subst hb) <;> (try omega))
    | fail)
    (refine hQ _ _ _ _ (by first | exact .inr rfl | exact .inl rfl) (by simp; exact .r) (by simp; exact .r) ?_)
    exact Fin.keep (by simp; exact .r) (by simp; exact .r) (by simp; exact .r) (by simp)
@[simp] theorem shr1_u64 (x : Int) : shrI .u64 x 1 = x / 2 := rfl
theorem ofInt_m1 : BitVec.ofInt 64 (-1) = BitVec.allOnes 64 := by decide
theorem ofInt_0 : BitVec.ofInt 64 0 = 0#64 := by decide
theorem xorI_i64 (x y : Int) : xorI .i64 x y = IntKind.wrap .i64 ((BitVec.ofInt 64 x ^^^ BitVec.ofInt 64 y).toNat : Int) := rfl
theorem xorI_u64 (x y : Int) : xorI .u64 x y = IntKind.wrap .u64 ((BitVec.ofInt 64 x ^^^ BitVec.ofInt 64 y).toNat : Int) := rfl
theorem xor_unz {n : Int} (h0 : 0 ≤ n) (h1 : n < 18446744073709551616) : xorI .i64 (n / 2) (-(n % 2)) = unz n := by
  unfold unz
  rw [xorI_i64]
  have e64 : ((2 ^ 64 : Nat) : Int) = 18446744073709551616 := rfl
  by_cases h : n % 2 = 0
  · rw [if_pos h, h, Int.neg_zero, ofInt_0, BitVec.xor_zero, BitVec.toNat_ofInt, e64, Int.emod_eq_of_lt (by omega) (by omega), Int.toNat_of_nonneg (by omega), wrap_i64 (by omega) (by omega)]
  · rw [if_neg h, show n % 2 = 1 by omega, ofInt_m1, BitVec.xor_allOnes, BitVec.toNat_not, BitVec.toNat_ofInt, e64, Int.emod_eq_of_lt (by omega) (by omega)]
    have : (((2 ^ 64 - 1 - (n / 2).toNat : Nat)) : Int) = 18446744073709551615 - n / 2 := by omega
    rw [this]
    simp [IntKind.wrap, IntKind.bits, IntKind.signed]; omega
theorem xor_zz {n : Int} (h0 : -9223372036854775808 ≤ n) (h1 : n < 9223372036854775808) : xorI .u64 (IntKind.wrap .u64 (shlI .i64 n 1)) (IntKind.wrap .u64 (shrI .i64 n 63)) = zz n := by
  have e1 : IntKind.wrap .u64 (shlI .i64 n 1) = (2 * n) % 18446744073709551616 := by
    unfold shlI
    rw [wrap_u64', show (min (1 : Int).toNat (IntKind.bits .i64)) = 1 by rfl]
    simp [IntKind.wrap, IntKind.bits, IntKind.signed]; omega
  have e2 : shrI .i64 n 63 = if n < 0 then -1 else 0 := by
    unfold shrI
    rw [show (2 : Int) ^ (min (63 : Int).toNat (IntKind.bits .i64)) = 9223372036854775808 by rfl]
    split <;> omega
  have e64 : ((2 ^ 64 : Nat) : Int) = 18446744073709551616 := rfl
  have ea : BitVec.ofInt 64 18446744073709551615 = BitVec.allOnes 64 := by decide
  have eb : IntKind.wrap .u64 (-1) = 18446744073709551615 := by decide
  have ec : IntKind.wrap .u64 0 = 0 := by decide
  rw [e1, e2, xorI_u64]
  unfold zz
  by_cases h : n < 0
  · rw [if_pos h, if_pos h, eb, ea, BitVec.xor_allOnes, BitVec.toNat_not, BitVec.toNat_ofInt, e64, Int.emod_emod]
    have : (((2 ^ 64 - 1 - ((2 * n) % 18446744073709551616).toNat : Nat)) : Int) = 18446744073709551615 - (2 * n) % 18446744073709551616 := by omega
    rw [this, wrap_u64 (by omega) (by omega)]; omega
  · rw [if_neg h, if_neg h, ec, ofInt_0, BitVec.xor_zero, BitVec.toNat_ofInt, e64, Int.emod_emod, Int.toNat_of_nonneg (by omega), wrap_u64 (by omega) (by omega)]; omega
theorem zz_range {n : Int} (h0 : -9223372036854775808 ≤ n) (h1 : n < 9223372036854775808) : 0 ≤ zz n ∧ zz n < 18446744073709551616 := by unfold zz; split <;> omega
theorem unz_zz (n : Int) : unz (zz n) = n := by unfold unz zz; split <;> split <;> omega
theorem zz_unz {n : Int} (h0 : 0 ≤ n) : zz (unz n) = n := by unfold unz zz; split <;> split <;> omega
theorem c_WInt (n : Int) (h0 : -9223372036854775808 ≤ n) (h1 : n < 9223372036854775808) : CallD Try.prog 103 [.raw (.int .i64 n)] noHeap (.sl 1 (u8s (enc 9 (zz n)))) noHeap := by
  have hx := xor_zz h0 h1
  have hr := zz_range h0 h1
  have hu : CallD Try.prog 50 [.raw (.int .u64 (xorI .u64 (IntKind.wrap .u64 (shlI .i64 n 1)) (IntKind.wrap .u64 (shrI .i64 n 63))))] noHeap (.sl 1 (u8s (enc 9 (zz n)))) noHeap := by rw [hx]; exact c_UintT (zz n) hr.1 hr.2
  refine calls_go (nt := 11) (rs := [.tmp 2]) Try.func103 rfl rfl rfl (by simp) (by intro id h; simp at h <;> omega) ?_; intro Q hQ hW
  repeat' (first
    | (with_reducible refine run_n ?_; with_reducible first | refine hK _ _ (by simp) ?_ | refine hK _ _ ?_; clear hK K)
    | (with_reducible first | refine awp_seq ?_ | refine then_n ?_ | refine then_r ?_ | refine then_e ?_ | refine awp_skip ?_ | refine awp_label ?_ | refine awp_ret ?_ | refine awp_exit ?_ | refine awp_block ?_ | refine awp_scope ?_ | refine in_n ?_ | refine in_r ?_ | refine in_e ?_ | refine in_ne (by decide) ?_ | refine ng_n ?_ | refine ng_r ?_ | refine ng_e ?_)
    | (with_reducible refine awp_regT (by kernel_rfl) ?_; intro K hK)
    | (with_reducible refine a_cond (ht := ?_) (hf := ?_) <;> intro hb <;> (try simp at hb) <;> (try contradiction) <;> (try subst hb) <;> (try omega))
    | (with_reducible first | refine a_move (hr := ?_) | refine a_assign (hr := ?_) | refine a_xor (hr := ?_) | refine a_shr (hr := ?_) | refine a_shl (hr := ?_) | refine a_bin (hr := ?_) | refine a_conv (hr := ?_) | refine a_bytesStr (hr := ?_) | refine a_strBytes (hr := ?_) | refine a_callN (hcall := hu) (hr := ?_))
    | fail)
  (refine hQ _ _ _ _ (by first | exact .inr rfl | exact .inl rfl) (by simp; exact .r) (by simp; exact .r) ?_)
  exact Fin.drop (by simp; exact .r) (by simp)
theorem c_WText (s : ByteArray) (hs : s.size ≤ 140737488351232) : CallD Try.prog 51 [.raw (.string s)] noHeap (.sl 1 (u8s (enc 9 s.size ++ bytesOf s))) noHeap := by
  have hl := (enc_len 9 s.size).1
  have hl2 := len_bytes s
  refine calls_go (nt := 9) (rs := [.tmp 2]) Try.func51 rfl rfl rfl (by simp) (by intro id h; simp at h <;> omega) ?_; intro Q hQ hW
  repeat' (first
    | (with_reducible refine run_n ?_; with_reducible first | refine hK _ _ (by simp) ?_ | refine hK _ _ ?_; clear hK K)
    | (with_reducible first | refine awp_seq ?_ | refine then_n ?_ | refine then_r ?_ | refine then_e ?_ | refine awp_skip ?_ | refine awp_label ?_ | refine awp_ret ?_ | refine awp_exit ?_ | refine awp_block ?_ | refine awp_scope ?_ | refine in_n ?_ | refine in_r ?_ | refine in_e ?_ | refine in_ne (by decide) ?_ | refine ng_n ?_ | refine ng_r ?_ | refine ng_e ?_)
    | (with_reducible refine awp_regT (by kernel_rfl) ?_; intro K hK)
    | (with_reducible refine a_cond (ht := ?_) (hf := ?_) <;> intro hb <;> (try simp at hb) <;> (try contradiction) <;> (try subst hb) <;> (try omega))
    | (with_reducible first | refine a_move (hr := ?_) | refine a_assign (hr := ?_) | refine a_lenS (hr := ?_) | refine a_lenR (hr := ?_) | refine a_conv (hr := ?_) | refine a_bytesStr (hr := ?_) | refine a_strBytes (hr := ?_) | refine a_append (hr := ?_) | refine a_append0 (hr := ?_) | refine a_appendX (hr := ?_) | refine a_callO (hcall := c_Uint _ (by omega) (by omega)) (hr := ?_))
    | fail)
  (refine hQ _ _ _ _ (by first | exact .inr rfl | exact .inl rfl) (by simp; exact .r) (by simp; exact .r) ?_)
  exact Fin.frzR (by simp; exact .r) (by simp [List.take_of_length_le]; exact .r) (by simp; exact .r) (by simp)
theorem c_RdInt (bs : List Int) (a : Nat) (e : Int) (hB : IsB bs) (hb' : bs.length < 9223372036854775808) (ha : a ≤ bs.length) : CallD Try.prog 111 [.ptr 100000 0] (rdH bs a e) (.raw (.int .i64 (if e ≠ 0 then 0 else (dI (bs.drop a)).1))) (rdH bs (nxA a e (dI (bs.drop a))) (nxE e (dI (bs.drop a)))) := by
  have hu := c_RdUint bs a e 18446744073709551615 hB hb' ha
  have hr : 0 ≤ (dU (bs.drop a) 18446744073709551615).1 ∧ (dU (bs.drop a) 18446744073709551615).1 < 18446744073709551616 := by
    have ho := dec_ok0 (isB_drop hB a)
    unfold dU
    repeat' split
    all_goals simp <;> omega
  have hd : dI (bs.drop a) = (unz (dU (bs.drop a) 18446744073709551615).1, (dU (bs.drop a) 18446744073709551615).2) := rfl
  rw [hd]
  generalize dU (bs.drop a) 18446744073709551615 = d at hu hr ⊢
  have hv : (if e ≠ 0 then 0 else (unz d.1, d.2).1) = unz (if e ≠ 0 then 0 else d.1) := by split <;> simp [unz]
  rw [hv]
  have hx := xor_unz (n := if e ≠ 0 then 0 else d.1) (by split <;> omega) (by split <;> omega)
  have hr2 : 0 ≤ (if e ≠ 0 then 0 else d.1) ∧ (if e ≠ 0 then 0 else d.1) < 18446744073709551616 := by split <;> omega
  generalize (if e ≠ 0 then 0 else d.1) = v at hu hx hr2 ⊢
  refine calls_go (nt := 14) (rs := [.tmp 2]) Try.func111 rfl rfl rfl (by simp) (by intro id h; simp at h <;> omega) ?_; intro Q hQ hW
  have hw : IntKind.wrap .i64 (-(v % 2)) = -(v % 2) := wrap_i64 (by omega) (by omega)
  repeat' (first
    | (with_reducible refine run_n ?_; with_reducible first | refine hK _ _ (by simp) ?_ | refine hK _ _ ?_; clear hK K)
    | (with_reducible first | refine awp_seq ?_ | refine then_n ?_ | refine then_r ?_ | refine then_e ?_ | refine awp_skip ?_ | refine awp_label ?_ | refine awp_ret ?_ | refine awp_exit ?_ | refine awp_block ?_ | refine awp_scope ?_ | refine in_n ?_ | refine in_r ?_ | refine in_e ?_ | refine in_ne (by decide) ?_ | refine ng_n ?_ | refine ng_r ?_ | refine ng_e ?_)
    | (with_reducible refine awp_regT (by kernel_rfl) ?_; intro K hK)
    | (with_reducible refine a_cond (ht := ?_) (hf := ?_) <;> intro hb <;> (try simp at hb) <;> (try contradiction) <;> (try subst hb) <;> (try omega))
    | (with_reducible first | refine a_move (hr := ?_) | refine a_assign (hr := ?_) | refine a_and (hr := ?_) | refine a_xor (hr := ?_) | refine a_shr (hr := ?_) | refine a_bin (hr := ?_) | refine a_un (hr := ?_) | refine a_conv (hr := ?_) | refine a_bytesStr (hr := ?_) | refine a_strBytes (hr := ?_) | refine a_callP (p := 100000) (hcall := hu) (hr := ?_))
    | fail)
  (refine hQ _ _ _ _ (by first | exact .inr rfl | exact .inl rfl) (by simp; exact .r) (by simp; exact .r) ?_)
  (try rw [hw])
  rw [hx]
  exact Fin.keep (by simp; exact .r) (by simp; exact .r) (by simp; exact .r) (by simp)
theorem c_RdByte (bs : List Int) (a : Nat) (e : Int) (hB : IsB bs) (hb' : bs.length < 9223372036854775807) (ha : a ≤ bs.length) : CallD Try.prog 106 [.ptr 100000 0] (rdH bs a e) (.raw (.int .u8 (if e ≠ 0 then 0 else (dB (bs.drop a)).1))) (rdH bs (nxA a e (dB (bs.drop a))) (nxE e (dB (bs.drop a)))) := by
  unfold nxA nxE
  have h1 := c_Err bs a e
  have h2 := c_Left bs a e (by omega) ha
  by_cases he : e = 0
  · subst he
    simp only [ne_eq, not_true, if_false]
    rcases Nat.lt_or_ge a bs.length with hlt | hge
    · have hx := List.getElem?_eq_getElem hlt
      rw [List.drop_eq_getElem_cons hlt]
      generalize bs[a] = c at hx ⊢
      simp only [dB]
      have e1 : (a : Int) + 1 - 1 = a := by omega
      refine calls_go (nt := 30) (rs := [.tmp 2]) Try.func106 rfl rfl rfl (by simp) (by intro id h; simp at h <;> omega) ?_; intro Q hQ hW
      repeat' (first
    | (with_reducible refine run_n ?_; with_reducible first | refine hK _ _ (by simp) ?_ | refine hK _ _ ?_; clear hK K)
    | (with_reducible first | refine awp_seq ?_ | refine then_n ?_ | refine then_r ?_ | refine then_e ?_ | refine awp_skip ?_ | refine awp_label ?_ | refine awp_ret ?_ | refine awp_exit ?_ | refine awp_block ?_ | refine awp_scope ?_ | refine in_n ?_ | refine in_r ?_ | refine in_e ?_ | refine in_ne (by decide) ?_ | refine ng_n ?_ | refine ng_r ?_ | refine ng_e ?_)
    | (with_reducible refine awp_regT (by kernel_rfl) ?_; intro K hK)
    | (with_reducible refine awp_regAM (id := 7) [] mixed (by kernel_rfl) (by kernel_rfl) ?_; intro K hK)
    | (with_reducible refine a_cond (ht := ?_) (hf := ?_) <;> intro hb <;> (try simp at hb) <;> (try contradiction) <;> (try subst hb) <;> (try omega))
    | (with_reducible first | refine a_move (hr := ?_) | refine a_assign (hr := ?_) | refine a_load (hr := ?_) | refine a_fieldAddr (hr := ?_) | refine a_nilCheck (hr := ?_) | refine a_bin (hr := ?_) | refine a_store (hr := ?_) | refine a_eqB (hr := ?_) | refine a_neB (hr := ?_) | refine a_idxArr (hr := ?_) | refine a_eqS (hr := ?_) | refine a_neS (hr := ?_) | refine a_indexAddr (hr := ?_) | refine a_callP (p := 100000) (hcall := h1) (hr := ?_) | refine a_callP (p := 100000) (hcall := h2) (hr := ?_))
    | fail)
      (refine hQ _ _ _ _ (by first | exact .inr rfl | exact .inl rfl) (by simp; exact .r) (by simp; exact .r) ?_)
      exact Fin.keep (by simp; exact .r) (by simp; exact .r) (by simp; exact .r) (by simp)
    · rw [List.drop_of_length_le hge]
      simp only [dB, Nat.add_zero]
      refine calls_go (nt := 30) (rs := [.tmp 2]) Try.func106 rfl rfl rfl (by simp) (by intro id h; simp at h <;> omega) ?_; intro Q hQ hW
      repeat' (first
    | (with_reducible refine run_n ?_; with_reducible first | refine hK _ _ (by simp) ?_ | refine hK _ _ ?_; clear hK K)
    | (with_reducible first | refine awp_seq ?_ | refine then_n ?_ | refine then_r ?_ | refine then_e ?_ | refine awp_skip ?_ | refine awp_label ?_ | refine awp_ret ?_ | refine awp_exit ?_ | refine awp_block ?_ | refine awp_scope ?_ | refine in_n ?_ | refine in_r ?_ | refine in_e ?_ | refine in_ne (by decide) ?_ | refine ng_n ?_ | refine ng_r ?_ | refine ng_e ?_)
    | (with_reducible refine awp_regT (by kernel_rfl) ?_; intro K hK)
    | (with_reducible refine awp_regAM (id := 7) [] mixed (by kernel_rfl) (by kernel_rfl) ?_; intro K hK)
    | (with_reducible refine a_cond (ht := ?_) (hf := ?_) <;> intro hb <;> (try simp at hb) <;> (try contradiction) <;> (try subst hb) <;> (try omega))
    | (with_reducible first | refine a_move (hr := ?_) | refine a_assign (hr := ?_) | refine a_load (hr := ?_) | refine a_fieldAddr (hr := ?_) | refine a_nilCheck (hr := ?_) | refine a_bin (hr := ?_) | refine a_store (hr := ?_) | refine a_eqB (hr := ?_) | refine a_neB (hr := ?_) | refine a_idxArr (hr := ?_) | refine a_eqS (hr := ?_) | refine a_neS (hr := ?_) | refine a_indexAddr (hr := ?_) | refine a_callP (p := 100000) (hcall := h1) (hr := ?_) | refine a_callP (p := 100000) (hcall := h2) (hr := ?_))
    | fail)
      (refine hQ _ _ _ _ (by first | exact .inr rfl | exact .inl rfl) (by simp; exact .r) (by simp; exact .r) ?_)
      exact Fin.keep (by simp; exact .r) (by simp; exact .r) (by simp; exact .r) (by simp)
  · simp only [ne_eq, he, not_false_iff, if_true]
    refine calls_go (nt := 30) (rs := [.tmp 2]) Try.func106 rfl rfl rfl (by simp) (by intro id h; simp at h <;> omega) ?_; intro Q hQ hW
    repeat' (first
    | (with_reducible refine run_n ?_; with_reducible first | refine hK _ _ (by simp) ?_ | refine hK _ _ ?_; clear hK K)
    | (with_reducible first | refine awp_seq ?_ | refine then_n ?_ | refine then_r ?_ | refine then_e ?_ | refine awp_skip ?_ | refine awp_label ?_ | refine awp_ret ?_ | refine awp_exit ?_ | refine awp_block ?_ | refine awp_scope ?_ | refine in_n ?_ | refine in_r ?_ | refine in_e ?_ | refine in_ne (by decide) ?_ | refine ng_n ?_ | refine ng_r ?_ | refine ng_e ?_)
    | (with_reducible refine awp_regT (by kernel_rfl) ?_; intro K hK)
    | (with_reducible refine awp_regAM (id := 7) [] mixed (by kernel_rfl) (by kernel_rfl) ?_; intro K hK)
    | (with_reducible refine a_cond (ht := ?_) (hf := ?_) <;> intro hb <;> (try simp at hb) <;> (try contradiction) <;> (try subst hb) <;> (try omega))
    | (with_reducible first | refine a_move (hr := ?_) | refine a_assign (hr := ?_) | refine a_load (hr := ?_) | refine a_fieldAddr (hr := ?_) | refine a_nilCheck (hr := ?_) | refine a_bin (hr := ?_) | refine a_store (hr := ?_) | refine a_eqB (hr := ?_) | refine a_neB (hr := ?_) | refine a_idxArr (hr := ?_) | refine a_eqS (hr := ?_) | refine a_neS (hr := ?_) | refine a_indexAddr (hr := ?_) | refine a_callP (p := 100000) (hcall := h1) (hr := ?_))
    | fail)
    (refine hQ _ _ _ _ (by first | exact .inr rfl | exact .inl rfl) (by simp; exact .r) (by simp; exact .r) ?_)
    exact Fin.keep (by simp; exact .r) (by simp; exact .r) (by simp; exact .r) (by simp)
theorem c_RdText (bs : List Int) (a : Nat) (e most : Int) (hB : IsB bs) (hb' : bs.length < 4611686018427387904) (ha : a ≤ bs.length) (hm : -9223372036854775808 ≤ most ∧ most < 9223372036854775808) : CallD Try.prog 88 [.ptr 100000 0, .raw (.int .i64 most)] (rdH bs a e) (.raw (.string (if e ≠ 0 then ⟨#[]⟩ else strOfNums (dT (bs.drop a) most).1))) (rdH bs (nxA a e (dT (bs.drop a) most)) (nxE e (dT (bs.drop a) most))) := by
  have h1 := c_Err bs a e
  have h2 := c_scan bs a e hB (by omega) ha
  have h3 := c_Left bs a e (by omega) ha
  have ho := dec_ok0 (isB_drop hB a)
  have hld : (bs.drop a).length = bs.length - a := List.length_drop
  rw [hld] at ho
  unfold nxA nxE dT
  rw [hld]
  have hdd : ∀ k : Nat, (bs.drop a).drop k = bs.drop (a + k) := fun k => List.drop_drop
  generalize dec (bs.drop a) 0 0 = d at h2 ho ⊢
  obtain ⟨n, k, er⟩ := d
  simp only [decAV] at h2 ho ⊢
  obtain ⟨o1, o2, o3, o4, o5, o6, o7⟩ := ho
  have z0 : strOfNums [] = ⟨#[]⟩ := rfl
  by_cases he : e = 0
  · subst he
    simp only [ne_eq, not_true, if_false]
    by_cases h5 : er = 0
    · subst h5
      simp only [not_true, if_false]
      by_cases h6 : most < 0 ∨ most < n
      · rw [if_pos h6]
        simp only [z0, Nat.add_zero]
        refine calls_go (nt := 71) (rs := [.tmp 4]) Try.func88 rfl rfl rfl (by simp) (by intro id h; simp at h <;> omega) ?_; intro Q hQ hW
        repeat' (first
    | (with_reducible refine run_n ?_; with_reducible first | refine hK _ _ (by simp) ?_ | refine hK _ _ ?_; clear hK K)
    | (with_reducible first | refine awp_seq ?_ | refine then_n ?_ | refine then_r ?_ | refine then_e ?_ | refine awp_skip ?_ | refine awp_label ?_ | refine awp_ret ?_ | refine awp_exit ?_ | refine awp_block ?_ | refine awp_scope ?_ | refine in_n ?_ | refine in_r ?_ | refine in_e ?_ | refine in_ne (by decide) ?_ | refine ng_n ?_ | refine ng_r ?_ | refine ng_e ?_)
    | (with_reducible refine awp_regT (by kernel_rfl) ?_; intro K hK)
    | (with_reducible refine awp_regAM (id := 13) [] mixed (by kernel_rfl) (by kernel_rfl) ?_; intro K hK)
    | (with_reducible refine a_cond (ht := ?_) (hf := ?_) <;> intro hb <;> (try simp at hb) <;> (try contradiction) <;> (try subst hb) <;> (try omega))
    | (with_reducible first | refine a_move (hr := ?_) | refine a_assign (hr := ?_) | refine a_load (hr := ?_) | refine a_fieldAddr (hr := ?_) | refine a_nilCheck (hr := ?_) | refine a_bin (hr := ?_) | refine a_extract (hr := ?_) | refine a_pick (hr := ?_) | refine a_store (hr := ?_) | refine a_neB (hr := ?_) | refine a_conv (hr := ?_) | refine a_bytesStr (hr := ?_) | refine a_strBytes (hr := ?_) | refine a_sliceArr (hr := ?_) | refine a_neS (hr := ?_) | refine a_sliceS (hr := ?_) | refine a_sliceR (hr := ?_) | refine a_callP (p := 100000) (hcall := h1) (hr := ?_) | refine a_callP (p := 100000) (hcall := h2) (hr := ?_) | refine a_callP (p := 100000) (hcall := h3) (hr := ?_) | refine a_gT (hr := ?_) | refine a_gF (hr := ?_) | refine a_gU (hr := ?_))
    | (with_reducible refine a_gB (hT := ?_) (hF := ?_) <;> intro hb <;> (try simp at hb) <;> (try contradiction) <;> (try subst hb) <;> (try omega))
    | fail)
        all_goals ((refine hQ _ _ _ _ (by first | exact .inr rfl | exact .inl rfl) (by simp; exact .r) (by simp; exact .r) ?_))
        all_goals (exact Fin.keep (by simp; exact .r) (by simp; exact .r) (by simp; exact .r) (by simp))
      · rw [if_neg h6]
        by_cases h7 : ((bs.length - a : Nat) : Int) - k < n
        · rw [if_pos h7]
          simp only [z0, Nat.add_zero]
          refine calls_go (nt := 71) (rs := [.tmp 4]) Try.func88 rfl rfl rfl (by simp) (by intro id h; simp at h <;> omega) ?_; intro Q hQ hW
          repeat' (first
    | (with_reducible refine run_n ?_; with_reducible first | refine hK _ _ (by simp) ?_ | refine hK _ _ ?_; clear hK K)
    | (with_reducible first | refine awp_seq ?_ | refine then_n ?_ | refine then_r ?_ | refine then_e ?_ | refine awp_skip ?_ | refine awp_label ?_ | refine awp_ret ?_ | refine awp_exit ?_ | refine awp_block ?_ | refine awp_scope ?_ | refine in_n ?_ | refine in_r ?_ | refine in_e ?_ | refine in_ne (by decide) ?_ | refine ng_n ?_ | refine ng_r ?_ | refine ng_e ?_)
    | (with_reducible refine awp_regT (by kernel_rfl) ?_; intro K hK)
    | (with_reducible refine awp_regAM (id := 13) [] mixed (by kernel_rfl) (by kernel_rfl) ?_; intro K hK)
    | (with_reducible refine a_cond (ht := ?_) (hf := ?_) <;> intro hb <;> (try simp at hb) <;> (try contradiction) <;> (try subst hb) <;> (try omega))
    | (with_reducible first | refine a_move (hr := ?_) | refine a_assign (hr := ?_) | refine a_load (hr := ?_) | refine a_fieldAddr (hr := ?_) | refine a_nilCheck (hr := ?_) | refine a_bin (hr := ?_) | refine a_extract (hr := ?_) | refine a_pick (hr := ?_) | refine a_store (hr := ?_) | refine a_neB (hr := ?_) | refine a_conv (hr := ?_) | refine a_bytesStr (hr := ?_) | refine a_strBytes (hr := ?_) | refine a_sliceArr (hr := ?_) | refine a_neS (hr := ?_) | refine a_sliceS (hr := ?_) | refine a_sliceR (hr := ?_) | refine a_callP (p := 100000) (hcall := h1) (hr := ?_) | refine a_callP (p := 100000) (hcall := h2) (hr := ?_) | refine a_callP (p := 100000) (hcall := h3) (hr := ?_) | refine a_gT (hr := ?_) | refine a_gF (hr := ?_) | refine a_gU (hr := ?_))
    | (with_reducible refine a_gB (hT := ?_) (hF := ?_) <;> intro hb <;> (try simp at hb) <;> (try contradiction) <;> (try subst hb) <;> (try omega))
    | fail)
          all_goals ((refine hQ _ _ _ _ (by first | exact .inr rfl | exact .inl rfl) (by simp; exact .r) (by simp; exact .r) ?_))
          all_goals (exact Fin.keep (by simp; exact .r) (by simp; exact .r) (by simp; exact .r) (by simp))
        · rw [if_neg h7]
          simp only [hdd]
          refine calls_go (nt := 71) (rs := [.tmp 4]) Try.func88 rfl rfl rfl (by simp) (by intro id h; simp at h <;> omega) ?_; intro Q hQ hW
          repeat' (first
    | (with_reducible refine run_n ?_; with_reducible first | refine hK _ _ (by simp) ?_ | refine hK _ _ ?_; clear hK K)
    | (with_reducible first | refine awp_seq ?_ | refine then_n ?_ | refine then_r ?_ | refine then_e ?_ | refine awp_skip ?_ | refine awp_label ?_ | refine awp_ret ?_ | refine awp_exit ?_ | refine awp_block ?_ | refine awp_scope ?_ | refine in_n ?_ | refine in_r ?_ | refine in_e ?_ | refine in_ne (by decide) ?_ | refine ng_n ?_ | refine ng_r ?_ | refine ng_e ?_)
    | (with_reducible refine awp_regT (by kernel_rfl) ?_; intro K hK)
    | (with_reducible refine awp_regAM (id := 13) [] mixed (by kernel_rfl) (by kernel_rfl) ?_; intro K hK)
    | (with_reducible refine a_cond (ht := ?_) (hf := ?_) <;> intro hb <;> (try simp at hb) <;> (try contradiction) <;> (try subst hb) <;> (try omega))
    | (with_reducible first | refine a_move (hr := ?_) | refine a_assign (hr := ?_) | refine a_load (hr := ?_) | refine a_fieldAddr (hr := ?_) | refine a_nilCheck (hr := ?_) | refine a_bin (hr := ?_) | refine a_extract (hr := ?_) | refine a_pick (hr := ?_) | refine a_store (hr := ?_) | refine a_neB (hr := ?_) | refine a_conv (hr := ?_) | refine a_bytesStr (hr := ?_) | refine a_strBytes (hr := ?_) | refine a_sliceArr (hr := ?_) | refine a_neS (hr := ?_) | refine a_sliceS (hr := ?_) | refine a_sliceR (hr := ?_) | refine a_callP (p := 100000) (hcall := h1) (hr := ?_) | refine a_callP (p := 100000) (hcall := h2) (hr := ?_) | refine a_callP (p := 100000) (hcall := h3) (hr := ?_) | refine a_gT (hr := ?_) | refine a_gF (hr := ?_) | refine a_gU (hr := ?_))
    | (with_reducible refine a_gB (hT := ?_) (hF := ?_) <;> intro hb <;> (try simp at hb) <;> (try contradiction) <;> (try subst hb) <;> (try omega))
    | fail)
          have e1 : (a : Int) + (k + n) = ((a + (k + n).toNat : Nat) : Int) := by omega
          have e2 : (⟨(List.drop ((a : Int) + (k + n) - n).toNat (List.take ((a : Int) + (k + n)).toNat (List.map (fun n => UInt8.ofNat n.toNat) bs))).toArray⟩ : ByteArray) = strOfNums (List.take n.toNat (List.drop (a + k.toNat) bs)) := by
            unfold strOfNums
            rw [List.map_take, List.map_drop, List.drop_take, show ((a : Int) + (k + n) - n).toNat = a + k.toNat by omega, show ((a : Int) + (k + n)).toNat - (a + k.toNat) = n.toNat by omega]
          all_goals ((refine hQ _ _ _ _ (by first | exact .inr rfl | exact .inl rfl) (by simp; exact .r) (by simp; exact .r) ?_))
          all_goals (rw [e2, e1]; exact Fin.keep (by simp; exact .r) (by simp; exact .r) (by simp; exact .r) (by simp))
    · simp only [h5, not_false_iff, if_true, z0, Nat.add_zero]
      refine calls_go (nt := 71) (rs := [.tmp 4]) Try.func88 rfl rfl rfl (by simp) (by intro id h; simp at h <;> omega) ?_; intro Q hQ hW
      repeat' (first
    | (with_reducible refine run_n ?_; with_reducible first | refine hK _ _ (by simp) ?_ | refine hK _ _ ?_; clear hK K)
    | (with_reducible first | refine awp_seq ?_ | refine then_n ?_ | refine then_r ?_ | refine then_e ?_ | refine awp_skip ?_ | refine awp_label ?_ | refine awp_ret ?_ | refine awp_exit ?_ | refine awp_block ?_ | refine awp_scope ?_ | refine in_n ?_ | refine in_r ?_ | refine in_e ?_ | refine in_ne (by decide) ?_ | refine ng_n ?_ | refine ng_r ?_ | refine ng_e ?_)
    | (with_reducible refine awp_regT (by kernel_rfl) ?_; intro K hK)
    | (with_reducible refine awp_regAM (id := 13) [] mixed (by kernel_rfl) (by kernel_rfl) ?_; intro K hK)
    | (with_reducible refine a_cond (ht := ?_) (hf := ?_) <;> intro hb <;> (try simp at hb) <;> (try contradiction) <;> (try subst hb) <;> (try omega))
    | (with_reducible first | refine a_move (hr := ?_) | refine a_assign (hr := ?_) | refine a_load (hr := ?_) | refine a_fieldAddr (hr := ?_) | refine a_nilCheck (hr := ?_) | refine a_bin (hr := ?_) | refine a_extract (hr := ?_) | refine a_pick (hr := ?_) | refine a_store (hr := ?_) | refine a_neB (hr := ?_) | refine a_conv (hr := ?_) | refine a_bytesStr (hr := ?_) | refine a_strBytes (hr := ?_) | refine a_sliceArr (hr := ?_) | refine a_neS (hr := ?_) | refine a_sliceS (hr := ?_) | refine a_sliceR (hr := ?_) | refine a_callP (p := 100000) (hcall := h1) (hr := ?_) | refine a_callP (p := 100000) (hcall := h2) (hr := ?_) | refine a_callP (p := 100000) (hcall := h3) (hr := ?_) | refine a_gT (hr := ?_) | refine a_gF (hr := ?_) | refine a_gU (hr := ?_))
    | (with_reducible refine a_gB (hT := ?_) (hF := ?_) <;> intro hb <;> (try simp at hb) <;> (try contradiction) <;> (try subst hb) <;> (try omega))
    | fail)
      all_goals ((refine hQ _ _ _ _ (by first | exact .inr rfl | exact .inl rfl) (by simp; exact .r) (by simp; exact .r) ?_))
      all_goals (exact Fin.keep (by simp; exact .r) (by simp; exact .r) (by simp; exact .r) (by simp))
  · simp only [ne_eq, he, not_false_iff, if_true]
    refine calls_go (nt := 71) (rs := [.tmp 4]) Try.func88 rfl rfl rfl (by simp) (by intro id h; simp at h <;> omega) ?_; intro Q hQ hW
    repeat' (first
    | (with_reducible refine run_n ?_; with_reducible first | refine hK _ _ (by simp) ?_ | refine hK _ _ ?_; clear hK K)
    | (with_reducible first | refine awp_seq ?_ | refine then_n ?_ | refine then_r ?_ | refine then_e ?_ | refine awp_skip ?_ | refine awp_label ?_ | refine awp_ret ?_ | refine awp_exit ?_ | refine awp_block ?_ | refine awp_scope ?_ | refine in_n ?_ | refine in_r ?_ | refine in_e ?_ | refine in_ne (by decide) ?_ | refine ng_n ?_ | refine ng_r ?_ | refine ng_e ?_)
    | (with_reducible refine awp_regT (by kernel_rfl) ?_; intro K hK)
    | (with_reducible refine awp_regAM (id := 13) [] mixed (by kernel_rfl) (by kernel_rfl) ?_; intro K hK)
    | (with_reducible refine a_cond (ht := ?_) (hf := ?_) <;> intro hb <;> (try simp at hb) <;> (try contradiction) <;> (try subst hb) <;> (try omega))
    | (with_reducible first | refine a_move (hr := ?_) | refine a_assign (hr := ?_) | refine a_load (hr := ?_) | refine a_fieldAddr (hr := ?_) | refine a_nilCheck (hr := ?_) | refine a_bin (hr := ?_) | refine a_extract (hr := ?_) | refine a_pick (hr := ?_) | refine a_store (hr := ?_) | refine a_neB (hr := ?_) | refine a_conv (hr := ?_) | refine a_bytesStr (hr := ?_) | refine a_strBytes (hr := ?_) | refine a_sliceArr (hr := ?_) | refine a_neS (hr := ?_) | refine a_sliceS (hr := ?_) | refine a_sliceR (hr := ?_) | refine a_callP (p := 100000) (hcall := h1) (hr := ?_) | refine a_gT (hr := ?_) | refine a_gF (hr := ?_) | refine a_gU (hr := ?_))
    | (with_reducible refine a_gB (hT := ?_) (hF := ?_) <;> intro hb <;> (try simp at hb) <;> (try contradiction) <;> (try subst hb) <;> (try omega))
    | fail)
    (refine hQ _ _ _ _ (by first | exact .inr rfl | exact .inl rfl) (by simp; exact .r) (by simp; exact .r) ?_)
    exact Fin.keep (by simp; exact .r) (by simp; exact .r) (by simp; exact .r) (by simp)
theorem c_JoinT (ps : List (List Int)) (hb : ps.flatten.length ≤ 140737488355328) (hn : ps.length < 9223372036854775808) : CallD Try.prog 64 [.sl 1 (rws ps)] noHeap (.sl 1 (u8s ps.flatten)) noHeap := by
  have := (c_Join ps hb hn).told (by simp) (by simp)
  simpa [List.take_of_length_le] using this
theorem c_Read (bs : List Int) (hb' : bs.length ≤ 140737488351232) : CallD Try.prog 75 [.sl 1 (u8s bs)] noHeap (.ptr 99999 0) (setH noHeap 99999 (.box (rdAV bs 0 0))) := by
  have hj := c_JoinT [bs] (by simp; omega) (by simp)
  simp only [rws_cons, rws_nil, List.flatten_cons, List.flatten_nil, List.append_nil] at hj
  refine calls_go (nt := 8) (rs := [.tmp 2]) Try.func75 rfl rfl rfl (by simp) (by intro id h; simp at h <;> omega) ?_; intro Q hQ hW
  repeat' (first
    | (with_reducible refine run_n ?_; with_reducible first | refine hK _ _ (by simp) ?_ | refine hK _ _ ?_; clear hK K)
    | (with_reducible first | refine awp_seq ?_ | refine then_n ?_ | refine then_r ?_ | refine then_e ?_ | refine awp_skip ?_ | refine awp_label ?_ | refine awp_ret ?_ | refine awp_exit ?_ | refine awp_block ?_ | refine awp_scope ?_ | refine in_n ?_ | refine in_r ?_ | refine in_e ?_ | refine in_ne (by decide) ?_ | refine ng_n ?_ | refine ng_r ?_ | refine ng_e ?_)
    | (with_reducible refine awp_regT (by kernel_rfl) ?_; intro K hK)
    | (with_reducible refine a_cond (ht := ?_) (hf := ?_) <;> intro hb <;> (try simp at hb) <;> (try contradiction) <;> (try subst hb) <;> (try omega))
    | (with_reducible first | refine a_move (hr := ?_) | refine a_assign (hr := ?_) | refine a_box (hr := ?_) | refine a_eqP (hr := ?_) | refine a_neP (hr := ?_) | refine a_build (hr := ?_) | refine a_buildSlice (hr := ?_) | refine a_callF (hcall := hj) (hr := ?_))
    | fail)
  (refine hQ _ _ _ _ (by first | exact .inr rfl | exact .inl rfl) (by simp; exact .r) (by simp; exact .r) ?_)
  exact Fin.box (by simp; exact .r) (by simp; exact .r) (by decide) (by simp)
end Go.Proofs.Ytdbdajmgfajcpaa.Asl

namespace Go.Proofs.Ytdbdajmgfajcpaa.Asl
open Go Go.RowKit
set_option linter.unusedVariables false
set_option linter.unusedSimpArgs false
set_option maxRecDepth 100000
set_option maxHeartbeats 4000000
def armB (k : Int) (n y : ByteArray) (d : Int) : Bool := (decide (k = 1) && decide (n = ⟨#[]⟩) && decide (y = ⟨#[]⟩)) || (decide (k = 2) && nameB (bytesOf n) && decide (y.size ≤ 64) && decide (d = 0)) || (decide (k = 3) && nameB (bytesOf n) && decide (y = ⟨#[]⟩) && decide (d = 0))
theorem c_mayArm (k : Int) (n y : ByteArray) (d : Int) (hn : n.size < 9223372036854775808) (hy : y.size < 9223372036854775808) : CallD Try.prog 49 [armAV k n y d] noHeap (.raw (.int .i64 (if armB k n y d = true then 0 else 1))) noHeap := by
  have h1 := c_Name n hn
  generalize hB : armB k n y d = b
  unfold armB at hB
  generalize nameB (bytesOf n) = bn at h1 hB
  by_cases k1 : k = 1
  · subst k1
    cases b with
    | true =>
      obtain ⟨rfl, rfl⟩ : n = ⟨#[]⟩ ∧ y = ⟨#[]⟩ := by simpa using hB
      refine calls_go (nt := 49) (rs := [.tmp 2]) Try.func49 rfl rfl rfl (by simp) (by intro id h; simp at h <;> omega) ?_; intro Q hQ hW
      repeat' (first
    | (with_reducible refine run_n ?_; with_reducible first | refine hK _ _ (by simp) ?_ | refine hK _ _ ?_; clear hK K)
    | (with_reducible first | refine awp_seq ?_ | refine then_n ?_ | refine then_r ?_ | refine then_e ?_ | refine awp_skip ?_ | refine awp_label ?_ | refine awp_ret ?_ | refine awp_exit ?_ | refine awp_block ?_ | refine awp_scope ?_ | refine in_n ?_ | refine in_r ?_ | refine in_e ?_ | refine in_ne (by decide) ?_ | refine ng_n ?_ | refine ng_r ?_ | refine ng_e ?_)
    | (with_reducible refine awp_regT (by kernel_rfl) ?_; intro K hK)
    | (with_reducible refine a_cond (ht := ?_) (hf := ?_) <;> intro hb <;> (try simp at hb) <;> (try contradiction) <;> (try subst hb) <;> (try omega))
    | (with_reducible first | refine a_move (hr := ?_) | refine a_assign (hr := ?_) | refine a_load (hr := ?_) | refine a_fieldAddr (hr := ?_) | refine a_bin (hr := ?_) | refine a_lenS (hr := ?_) | refine a_lenR (hr := ?_) | refine a_pick (hr := ?_) | refine a_un (hr := ?_) | refine a_box (hr := ?_) | refine a_eqB (hr := ?_) | refine a_eqS (hr := ?_) | refine a_call0 (hcall := h1) (hr := ?_) | refine a_gT (hr := ?_) | refine a_gF (hr := ?_) | refine a_gU (hr := ?_))
    | (with_reducible refine a_gB (hT := ?_) (hF := ?_) <;> intro hb <;> (try simp at hb) <;> (try contradiction) <;> (try subst hb) <;> (try omega))
    | fail)
      all_goals ((refine hQ _ _ _ _ (by first | exact .inr rfl | exact .inl rfl) (by simp; exact .r) (by simp; exact .r) ?_))
      all_goals (exact Fin.drop (by simp; exact .r) (by simp))
    | false =>
      have hB : n = ⟨#[]⟩ → ¬ y = ⟨#[]⟩ := by simpa using hB
      by_cases hn0 : n = ⟨#[]⟩
      · have hy0 := hB hn0
        subst hn0
        refine calls_go (nt := 49) (rs := [.tmp 2]) Try.func49 rfl rfl rfl (by simp) (by intro id h; simp at h <;> omega) ?_; intro Q hQ hW
        repeat' (first
    | (with_reducible refine run_n ?_; with_reducible first | refine hK _ _ (by simp) ?_ | refine hK _ _ ?_; clear hK K)
    | (with_reducible first | refine awp_seq ?_ | refine then_n ?_ | refine then_r ?_ | refine then_e ?_ | refine awp_skip ?_ | refine awp_label ?_ | refine awp_ret ?_ | refine awp_exit ?_ | refine awp_block ?_ | refine awp_scope ?_ | refine in_n ?_ | refine in_r ?_ | refine in_e ?_ | refine in_ne (by decide) ?_ | refine ng_n ?_ | refine ng_r ?_ | refine ng_e ?_)
    | (with_reducible refine awp_regT (by kernel_rfl) ?_; intro K hK)
    | (with_reducible refine a_cond (ht := ?_) (hf := ?_) <;> intro hb <;> (try simp at hb) <;> (try contradiction) <;> (try subst hb) <;> (try omega))
    | (with_reducible first | refine a_move (hr := ?_) | refine a_assign (hr := ?_) | refine a_load (hr := ?_) | refine a_fieldAddr (hr := ?_) | refine a_bin (hr := ?_) | refine a_lenS (hr := ?_) | refine a_lenR (hr := ?_) | refine a_pick (hr := ?_) | refine a_un (hr := ?_) | refine a_box (hr := ?_) | refine a_eqB (hr := ?_) | refine a_eqS (hr := ?_) | refine a_call0 (hcall := h1) (hr := ?_) | refine a_gT (hr := ?_) | refine a_gF (hr := ?_) | refine a_gU (hr := ?_))
    | (with_reducible refine a_gB (hT := ?_) (hF := ?_) <;> intro hb <;> (try simp at hb) <;> (try contradiction) <;> (try subst hb) <;> (try omega))
    | fail)
        all_goals ((refine hQ _ _ _ _ (by first | exact .inr rfl | exact .inl rfl) (by simp; exact .r) (by simp; exact .r) ?_))
        all_goals (exact Fin.drop (by simp; exact .r) (by simp))
      · refine calls_go (nt := 49) (rs := [.tmp 2]) Try.func49 rfl rfl rfl (by simp) (by intro id h; simp at h <;> omega) ?_; intro Q hQ hW
        repeat' (first
    | (with_reducible refine run_n ?_; with_reducible first | refine hK _ _ (by simp) ?_ | refine hK _ _ ?_; clear hK K)
    | (with_reducible first | refine awp_seq ?_ | refine then_n ?_ | refine then_r ?_ | refine then_e ?_ | refine awp_skip ?_ | refine awp_label ?_ | refine awp_ret ?_ | refine awp_exit ?_ | refine awp_block ?_ | refine awp_scope ?_ | refine in_n ?_ | refine in_r ?_ | refine in_e ?_ | refine in_ne (by decide) ?_ | refine ng_n ?_ | refine ng_r ?_ | refine ng_e ?_)
    | (with_reducible refine awp_regT (by kernel_rfl) ?_; intro K hK)
    | (with_reducible refine a_cond (ht := ?_) (hf := ?_) <;> intro hb <;> (try simp at hb) <;> (try contradiction) <;> (try subst hb) <;> (try omega))
    | (with_reducible first | refine a_move (hr := ?_) | refine a_assign (hr := ?_) | refine a_load (hr := ?_) | refine a_fieldAddr (hr := ?_) | refine a_bin (hr := ?_) | refine a_lenS (hr := ?_) | refine a_lenR (hr := ?_) | refine a_pick (hr := ?_) | refine a_un (hr := ?_) | refine a_box (hr := ?_) | refine a_eqB (hr := ?_) | refine a_eqS (hr := ?_) | refine a_call0 (hcall := h1) (hr := ?_) | refine a_gT (hr := ?_) | refine a_gF (hr := ?_) | refine a_gU (hr := ?_))
    | (with_reducible refine a_gB (hT := ?_) (hF := ?_) <;> intro hb <;> (try simp at hb) <;> (try contradiction) <;> (try subst hb) <;> (try omega))
    | fail)
        all_goals ((refine hQ _ _ _ _ (by first | exact .inr rfl | exact .inl rfl) (by simp; exact .r) (by simp; exact .r) ?_))
        all_goals (exact Fin.drop (by simp; exact .r) (by simp))
  by_cases k2 : k = 2
  · subst k2
    cases bn with
    | false =>
      obtain rfl : b = false := by simpa using hB.symm
      refine calls_go (nt := 49) (rs := [.tmp 2]) Try.func49 rfl rfl rfl (by simp) (by intro id h; simp at h <;> omega) ?_; intro Q hQ hW
      repeat' (first
    | (with_reducible refine run_n ?_; with_reducible first | refine hK _ _ (by simp) ?_ | refine hK _ _ ?_; clear hK K)
    | (with_reducible first | refine awp_seq ?_ | refine then_n ?_ | refine then_r ?_ | refine then_e ?_ | refine awp_skip ?_ | refine awp_label ?_ | refine awp_ret ?_ | refine awp_exit ?_ | refine awp_block ?_ | refine awp_scope ?_ | refine in_n ?_ | refine in_r ?_ | refine in_e ?_ | refine in_ne (by decide) ?_ | refine ng_n ?_ | refine ng_r ?_ | refine ng_e ?_)
    | (with_reducible refine awp_regT (by kernel_rfl) ?_; intro K hK)
    | (with_reducible refine a_cond (ht := ?_) (hf := ?_) <;> intro hb <;> (try simp at hb) <;> (try contradiction) <;> (try subst hb) <;> (try omega))
    | (with_reducible first | refine a_move (hr := ?_) | refine a_assign (hr := ?_) | refine a_load (hr := ?_) | refine a_fieldAddr (hr := ?_) | refine a_bin (hr := ?_) | refine a_lenS (hr := ?_) | refine a_lenR (hr := ?_) | refine a_pick (hr := ?_) | refine a_un (hr := ?_) | refine a_box (hr := ?_) | refine a_eqB (hr := ?_) | refine a_eqS (hr := ?_) | refine a_call0 (hcall := h1) (hr := ?_) | refine a_gT (hr := ?_) | refine a_gF (hr := ?_) | refine a_gU (hr := ?_))
    | (with_reducible refine a_gB (hT := ?_) (hF := ?_) <;> intro hb <;> (try simp at hb) <;> (try contradiction) <;> (try subst hb) <;> (try omega))
    | fail)
      all_goals ((refine hQ _ _ _ _ (by first | exact .inr rfl | exact .inl rfl) (by simp; exact .r) (by simp; exact .r) ?_))
      all_goals (exact Fin.drop (by simp; exact .r) (by simp))
    | true =>
      cases b with
      | true =>
        obtain ⟨hy6, rfl⟩ : y.size ≤ 64 ∧ d = 0 := by simpa using hB
        refine calls_go (nt := 49) (rs := [.tmp 2]) Try.func49 rfl rfl rfl (by simp) (by intro id h; simp at h <;> omega) ?_; intro Q hQ hW
        repeat' (first
    | (with_reducible refine run_n ?_; with_reducible first | refine hK _ _ (by simp) ?_ | refine hK _ _ ?_; clear hK K)
    | (with_reducible first | refine awp_seq ?_ | refine then_n ?_ | refine then_r ?_ | refine then_e ?_ | refine awp_skip ?_ | refine awp_label ?_ | refine awp_ret ?_ | refine awp_exit ?_ | refine awp_block ?_ | refine awp_scope ?_ | refine in_n ?_ | refine in_r ?_ | refine in_e ?_ | refine in_ne (by decide) ?_ | refine ng_n ?_ | refine ng_r ?_ | refine ng_e ?_)
    | (with_reducible refine awp_regT (by kernel_rfl) ?_; intro K hK)
    | (with_reducible refine a_cond (ht := ?_) (hf := ?_) <;> intro hb <;> (try simp at hb) <;> (try contradiction) <;> (try subst hb) <;> (try omega))
    | (with_reducible first | refine a_move (hr := ?_) | refine a_assign (hr := ?_) | refine a_load (hr := ?_) | refine a_fieldAddr (hr := ?_) | refine a_bin (hr := ?_) | refine a_lenS (hr := ?_) | refine a_lenR (hr := ?_) | refine a_pick (hr := ?_) | refine a_un (hr := ?_) | refine a_box (hr := ?_) | refine a_eqB (hr := ?_) | refine a_eqS (hr := ?_) | refine a_call0 (hcall := h1) (hr := ?_) | refine a_gT (hr := ?_) | refine a_gF (hr := ?_) | refine a_gU (hr := ?_))
    | (with_reducible refine a_gB (hT := ?_) (hF := ?_) <;> intro hb <;> (try simp at hb) <;> (try contradiction) <;> (try subst hb) <;> (try omega))
    | fail)
        all_goals ((refine hQ _ _ _ _ (by first | exact .inr rfl | exact .inl rfl) (by simp; exact .r) (by simp; exact .r) ?_))
        all_goals (exact Fin.drop (by simp; exact .r) (by simp))
      | false =>
        have hB : y.size ≤ 64 → ¬ d = 0 := by simpa using hB
        by_cases hy6 : y.size ≤ 64
        · have hd := hB hy6
          refine calls_go (nt := 49) (rs := [.tmp 2]) Try.func49 rfl rfl rfl (by simp) (by intro id h; simp at h <;> omega) ?_; intro Q hQ hW
          repeat' (first
    | (with_reducible refine run_n ?_; with_reducible first | refine hK _ _ (by simp) ?_ | refine hK _ _ ?_; clear hK K)
    | (with_reducible first | refine awp_seq ?_ | refine then_n ?_ | refine then_r ?_ | refine then_e ?_ | refine awp_skip ?_ | refine awp_label ?_ | refine awp_ret ?_ | refine awp_exit ?_ | refine awp_block ?_ | refine awp_scope ?_ | refine in_n ?_ | refine in_r ?_ | refine in_e ?_ | refine in_ne (by decide) ?_ | refine ng_n ?_ | refine ng_r ?_ | refine ng_e ?_)
    | (with_reducible refine awp_regT (by kernel_rfl) ?_; intro K hK)
    | (with_reducible refine a_cond (ht := ?_) (hf := ?_) <;> intro hb <;> (try simp at hb) <;> (try contradiction) <;> (try subst hb) <;> (try omega))
    | (with_reducible first | refine a_move (hr := ?_) | refine a_assign (hr := ?_) | refine a_load (hr := ?_) | refine a_fieldAddr (hr := ?_) | refine a_bin (hr := ?_) | refine a_lenS (hr := ?_) | refine a_lenR (hr := ?_) | refine a_pick (hr := ?_) | refine a_un (hr := ?_) | refine a_box (hr := ?_) | refine a_eqB (hr := ?_) | refine a_eqS (hr := ?_) | refine a_call0 (hcall := h1) (hr := ?_) | refine a_gT (hr := ?_) | refine a_gF (hr := ?_) | refine a_gU (hr := ?_))
    | (with_reducible refine a_gB (hT := ?_) (hF := ?_) <;> intro hb <;> (try simp at hb) <;> (try contradiction) <;> (try subst hb) <;> (try omega))
    | fail)
          all_goals ((refine hQ _ _ _ _ (by first | exact .inr rfl | exact .inl rfl) (by simp; exact .r) (by simp; exact .r) ?_))
          all_goals (exact Fin.drop (by simp; exact .r) (by simp))
        · refine calls_go (nt := 49) (rs := [.tmp 2]) Try.func49 rfl rfl rfl (by simp) (by intro id h; simp at h <;> omega) ?_; intro Q hQ hW
          repeat' (first
    | (with_reducible refine run_n ?_; with_reducible first | refine hK _ _ (by simp) ?_ | refine hK _ _ ?_; clear hK K)
    | (with_reducible first | refine awp_seq ?_ | refine then_n ?_ | refine then_r ?_ | refine then_e ?_ | refine awp_skip ?_ | refine awp_label ?_ | refine awp_ret ?_ | refine awp_exit ?_ | refine awp_block ?_ | refine awp_scope ?_ | refine in_n ?_ | refine in_r ?_ | refine in_e ?_ | refine in_ne (by decide) ?_ | refine ng_n ?_ | refine ng_r ?_ | refine ng_e ?_)
    | (with_reducible refine awp_regT (by kernel_rfl) ?_; intro K hK)
    | (with_reducible refine a_cond (ht := ?_) (hf := ?_) <;> intro hb <;> (try simp at hb) <;> (try contradiction) <;> (try subst hb) <;> (try omega))
    | (with_reducible first | refine a_move (hr := ?_) | refine a_assign (hr := ?_) | refine a_load (hr := ?_) | refine a_fieldAddr (hr := ?_) | refine a_bin (hr := ?_) | refine a_lenS (hr := ?_) | refine a_lenR (hr := ?_) | refine a_pick (hr := ?_) | refine a_un (hr := ?_) | refine a_box (hr := ?_) | refine a_eqB (hr := ?_) | refine a_eqS (hr := ?_) | refine a_call0 (hcall := h1) (hr := ?_) | refine a_gT (hr := ?_) | refine a_gF (hr := ?_) | refine a_gU (hr := ?_))
    | (with_reducible refine a_gB (hT := ?_) (hF := ?_) <;> intro hb <;> (try simp at hb) <;> (try contradiction) <;> (try subst hb) <;> (try omega))
    | fail)
          all_goals ((refine hQ _ _ _ _ (by first | exact .inr rfl | exact .inl rfl) (by simp; exact .r) (by simp; exact .r) ?_))
          all_goals (exact Fin.drop (by simp; exact .r) (by simp))
  by_cases k3 : k = 3
  · subst k3
    cases bn with
    | false =>
      obtain rfl : b = false := by simpa using hB.symm
      refine calls_go (nt := 49) (rs := [.tmp 2]) Try.func49 rfl rfl rfl (by simp) (by intro id h; simp at h <;> omega) ?_; intro Q hQ hW
      repeat' (first
    | (with_reducible refine run_n ?_; with_reducible first | refine hK _ _ (by simp) ?_ | refine hK _ _ ?_; clear hK K)
    | (with_reducible first | refine awp_seq ?_ | refine then_n ?_ | refine then_r ?_ | refine then_e ?_ | refine awp_skip ?_ | refine awp_label ?_ | refine awp_ret ?_ | refine awp_exit ?_ | refine awp_block ?_ | refine awp_scope ?_ | refine in_n ?_ | refine in_r ?_ | refine in_e ?_ | refine in_ne (by decide) ?_ | refine ng_n ?_ | refine ng_r ?_ | refine ng_e ?_)
    | (with_reducible refine awp_regT (by kernel_rfl) ?_; intro K hK)
    | (with_reducible refine a_cond (ht := ?_) (hf := ?_) <;> intro hb <;> (try simp at hb) <;> (try contradiction) <;> (try subst hb) <;> (try omega))
    | (with_reducible first | refine a_move (hr := ?_) | refine a_assign (hr := ?_) | refine a_load (hr := ?_) | refine a_fieldAddr (hr := ?_) | refine a_bin (hr := ?_) | refine a_lenS (hr := ?_) | refine a_lenR (hr := ?_) | refine a_pick (hr := ?_) | refine a_un (hr := ?_) | refine a_box (hr := ?_) | refine a_eqB (hr := ?_) | refine a_eqS (hr := ?_) | refine a_call0 (hcall := h1) (hr := ?_) | refine a_gT (hr := ?_) | refine a_gF (hr := ?_) | refine a_gU (hr := ?_))
    | (with_reducible refine a_gB (hT := ?_) (hF := ?_) <;> intro hb <;> (try simp at hb) <;> (try contradiction) <;> (try subst hb) <;> (try omega))
    | fail)
      all_goals ((refine hQ _ _ _ _ (by first | exact .inr rfl | exact .inl rfl) (by simp; exact .r) (by simp; exact .r) ?_))
      all_goals (exact Fin.drop (by simp; exact .r) (by simp))
    | true =>
      cases b with
      | true =>
        obtain ⟨rfl, rfl⟩ : y = ⟨#[]⟩ ∧ d = 0 := by simpa using hB
        refine calls_go (nt := 49) (rs := [.tmp 2]) Try.func49 rfl rfl rfl (by simp) (by intro id h; simp at h <;> omega) ?_; intro Q hQ hW
        repeat' (first
    | (with_reducible refine run_n ?_; with_reducible first | refine hK _ _ (by simp) ?_ | refine hK _ _ ?_; clear hK K)
    | (with_reducible first | refine awp_seq ?_ | refine then_n ?_ | refine then_r ?_ | refine then_e ?_ | refine awp_skip ?_ | refine awp_label ?_ | refine awp_ret ?_ | refine awp_exit ?_ | refine awp_block ?_ | refine awp_scope ?_ | refine in_n ?_ | refine in_r ?_ | refine in_e ?_ | refine in_ne (by decide) ?_ | refine ng_n ?_ | refine ng_r ?_ | refine ng_e ?_)
    | (with_reducible refine awp_regT (by kernel_rfl) ?_; intro K hK)
    | (with_reducible refine a_cond (ht := ?_) (hf := ?_) <;> intro hb <;> (try simp at hb) <;> (try contradiction) <;> (try subst hb) <;> (try omega))
    | (with_reducible first | refine a_move (hr := ?_) | refine a_assign (hr := ?_) | refine a_load (hr := ?_) | refine a_fieldAddr (hr := ?_) | refine a_bin (hr := ?_) | refine a_lenS (hr := ?_) | refine a_lenR (hr := ?_) | refine a_pick (hr := ?_) | refine a_un (hr := ?_) | refine a_box (hr := ?_) | refine a_eqB (hr := ?_) | refine a_eqS (hr := ?_) | refine a_call0 (hcall := h1) (hr := ?_) | refine a_gT (hr := ?_) | refine a_gF (hr := ?_) | refine a_gU (hr := ?_))
    | (with_reducible refine a_gB (hT := ?_) (hF := ?_) <;> intro hb <;> (try simp at hb) <;> (try contradiction) <;> (try subst hb) <;> (try omega))
    | fail)
        all_goals ((refine hQ _ _ _ _ (by first | exact .inr rfl | exact .inl rfl) (by simp; exact .r) (by simp; exact .r) ?_))
        all_goals (exact Fin.drop (by simp; exact .r) (by simp))
      | false =>
        have hB : y = ⟨#[]⟩ → ¬ d = 0 := by simpa using hB
        by_cases hy0 : y = ⟨#[]⟩
        · have hd := hB hy0
          subst hy0
          refine calls_go (nt := 49) (rs := [.tmp 2]) Try.func49 rfl rfl rfl (by simp) (by intro id h; simp at h <;> omega) ?_; intro Q hQ hW
          repeat' (first
    | (with_reducible refine run_n ?_; with_reducible first | refine hK _ _ (by simp) ?_ | refine hK _ _ ?_; clear hK K)
    | (with_reducible first | refine awp_seq ?_ | refine then_n ?_ | refine then_r ?_ | refine then_e ?_ | refine awp_skip ?_ | refine awp_label ?_ | refine awp_ret ?_ | refine awp_exit ?_ | refine awp_block ?_ | refine awp_scope ?_ | refine in_n ?_ | refine in_r ?_ | refine in_e ?_ | refine in_ne (by decide) ?_ | refine ng_n ?_ | refine ng_r ?_ | refine ng_e ?_)
    | (with_reducible refine awp_regT (by kernel_rfl) ?_; intro K hK)
    | (with_reducible refine a_cond (ht := ?_) (hf := ?_) <;> intro hb <;> (try simp at hb) <;> (try contradiction) <;> (try subst hb) <;> (try omega))
    | (with_reducible first | refine a_move (hr := ?_) | refine a_assign (hr := ?_) | refine a_load (hr := ?_) | refine a_fieldAddr (hr := ?_) | refine a_bin (hr := ?_) | refine a_lenS (hr := ?_) | refine a_lenR (hr := ?_) | refine a_pick (hr := ?_) | refine a_un (hr := ?_) | refine a_box (hr := ?_) | refine a_eqB (hr := ?_) | refine a_eqS (hr := ?_) | refine a_call0 (hcall := h1) (hr := ?_) | refine a_gT (hr := ?_) | refine a_gF (hr := ?_) | refine a_gU (hr := ?_))
    | (with_reducible refine a_gB (hT := ?_) (hF := ?_) <;> intro hb <;> (try simp at hb) <;> (try contradiction) <;> (try subst hb) <;> (try omega))
    | fail)
          all_goals ((refine hQ _ _ _ _ (by first | exact .inr rfl | exact .inl rfl) (by simp; exact .r) (by simp; exact .r) ?_))
          all_goals (exact Fin.drop (by simp; exact .r) (by simp))
        · refine calls_go (nt := 49) (rs := [.tmp 2]) Try.func49 rfl rfl rfl (by simp) (by intro id h; simp at h <;> omega) ?_; intro Q hQ hW
          repeat' (first
    | (with_reducible refine run_n ?_; with_reducible first | refine hK _ _ (by simp) ?_ | refine hK _ _ ?_; clear hK K)
    | (with_reducible first | refine awp_seq ?_ | refine then_n ?_ | refine then_r ?_ | refine then_e ?_ | refine awp_skip ?_ | refine awp_label ?_ | refine awp_ret ?_ | refine awp_exit ?_ | refine awp_block ?_ | refine awp_scope ?_ | refine in_n ?_ | refine in_r ?_ | refine in_e ?_ | refine in_ne (by decide) ?_ | refine ng_n ?_ | refine ng_r ?_ | refine ng_e ?_)
    | (with_reducible refine awp_regT (by kernel_rfl) ?_; intro K hK)
    | (with_reducible refine a_cond (ht := ?_) (hf := ?_) <;> intro hb <;> (try simp at hb) <;> (try contradiction) <;> (try subst hb) <;> (try omega))
    | (with_reducible first | refine a_move (hr := ?_) | refine a_assign (hr := ?_) | refine a_load (hr := ?_) | refine a_fieldAddr (hr := ?_) | refine a_bin (hr := ?_) | refine a_lenS (hr := ?_) | refine a_lenR (hr := ?_) | refine a_pick (hr := ?_) | refine a_un (hr := ?_) | refine a_box (hr := ?_) | refine a_eqB (hr := ?_) | refine a_eqS (hr := ?_) | refine a_call0 (hcall := h1) (hr := ?_) | refine a_gT (hr := ?_) | refine a_gF (hr := ?_) | refine a_gU (hr := ?_))
    | (with_reducible refine a_gB (hT := ?_) (hF := ?_) <;> intro hb <;> (try simp at hb) <;> (try contradiction) <;> (try subst hb) <;> (try omega))
    | fail)
          all_goals ((refine hQ _ _ _ _ (by first | exact .inr rfl | exact .inl rfl) (by simp; exact .r) (by simp; exact .r) ?_))
          all_goals (exact Fin.drop (by simp; exact .r) (by simp))
  obtain rfl : b = false := by simpa [k1, k2, k3] using hB.symm
  clear hB
  refine calls_go (nt := 49) (rs := [.tmp 2]) Try.func49 rfl rfl rfl (by simp) (by intro id h; simp at h <;> omega) ?_; intro Q hQ hW
  repeat' (first
    | (with_reducible refine run_n ?_; with_reducible first | refine hK _ _ (by simp) ?_ | refine hK _ _ ?_; clear hK K)
    | (with_reducible first | refine awp_seq ?_ | refine then_n ?_ | refine then_r ?_ | refine then_e ?_ | refine awp_skip ?_ | refine awp_label ?_ | refine awp_ret ?_ | refine awp_exit ?_ | refine awp_block ?_ | refine awp_scope ?_ | refine in_n ?_ | refine in_r ?_ | refine in_e ?_ | refine in_ne (by decide) ?_ | refine ng_n ?_ | refine ng_r ?_ | refine ng_e ?_)
    | (with_reducible refine awp_regT (by kernel_rfl) ?_; intro K hK)
    | (with_reducible refine a_cond (ht := ?_) (hf := ?_) <;> intro hb <;> (try simp at hb) <;> (try contradiction) <;> (try subst hb) <;> (try omega))
    | (with_reducible first | refine a_move (hr := ?_) | refine a_assign (hr := ?_) | refine a_load (hr := ?_) | refine a_fieldAddr (hr := ?_) | refine a_bin (hr := ?_) | refine a_lenS (hr := ?_) | refine a_lenR (hr := ?_) | refine a_pick (hr := ?_) | refine a_un (hr := ?_) | refine a_box (hr := ?_) | refine a_eqB (hr := ?_) | refine a_eqS (hr := ?_) | refine a_call0 (hcall := h1) (hr := ?_) | refine a_gT (hr := ?_) | refine a_gF (hr := ?_) | refine a_gU (hr := ?_))
    | (with_reducible refine a_gB (hT := ?_) (hF := ?_) <;> intro hb <;> (try simp at hb) <;> (try contradiction) <;> (try subst hb) <;> (try omega))
    | fail)
  all_goals ((refine hQ _ _ _ _ (by first | exact .inr rfl | exact .inl rfl) (by simp; exact .r) (by simp; exact .r) ?_))
  all_goals (exact Fin.drop (by simp; exact .r) (by simp))
abbrev txtL (s : ByteArray) : List Int := enc 9 s.size ++ bytesOf s
def putArm (k : Int) (n y : ByteArray) (d : Int) : List Int := if armB k n y d = true then (if k = 1 then 1 :: enc 9 d else if k = 2 then 2 :: (txtL n ++ txtL y) else 3 :: txtL n) else []
theorem armB_k {k d : Int} {n y : ByteArray} (h : armB k n y d = true) : (k = 1 ∧ n = ⟨#[]⟩ ∧ y = ⟨#[]⟩) ∨ (k = 2 ∧ nameB (bytesOf n) = true ∧ y.size ≤ 64 ∧ d = 0) ∨ (k = 3 ∧ nameB (bytesOf n) = true ∧ y = ⟨#[]⟩ ∧ d = 0) := by
  unfold armB at h
  simp only [Bool.or_eq_true, Bool.and_eq_true, decide_eq_true_eq] at h
  rcases h with (⟨⟨a, b⟩, c⟩ | ⟨⟨⟨a, b⟩, c⟩, d⟩) | ⟨⟨⟨a, b⟩, c⟩, d⟩
  · exact .inl ⟨a, b, c⟩
  · exact .inr (.inl ⟨a, b, c, d⟩)
  · exact .inr (.inr ⟨a, b, c, d⟩)
theorem txtL_len (s : ByteArray) : (txtL s).length ≤ s.size + 10 := by
  have := (enc_len 9 s.size).1
  rw [List.length_append, len_bytes]; omega
theorem c_PutArm (k : Int) (n y : ByteArray) (d : Int) (hn : n.size ≤ 140737488351232) (hy : y.size ≤ 140737488351232) (hd : 0 ≤ d ∧ d < 18446744073709551616) : CallD Try.prog 19 [armAV k n y d] noHeap (.sl 1 (u8s (putArm k n y d))) noHeap := by
  have hm := c_mayArm k n y d (by omega) (by omega)
  have h1 := c_UintT d hd.1 hd.2
  have h2 := c_WText n hn
  have h3 := c_WText y hy
  have b1 := (enc_len 9 d).1
  have b2 := txtL_len n
  have b3 := txtL_len y
  unfold putArm
  cases hB : armB k n y d with
  | false =>
    rw [hB, if_neg (by simp)] at hm
    rw [if_neg (by simp)]
    refine calls_go (nt := 33) (rs := [.tmp 2]) Try.func19 rfl rfl rfl (by simp) (by intro id h; simp at h <;> omega) ?_; intro Q hQ hW
    repeat' (first
    | (with_reducible refine run_n ?_; with_reducible first | refine hK _ _ (by simp) ?_ | refine hK _ _ ?_; clear hK K)
    | (with_reducible first | refine awp_seq ?_ | refine then_n ?_ | refine then_r ?_ | refine then_e ?_ | refine awp_skip ?_ | refine awp_label ?_ | refine awp_ret ?_ | refine awp_exit ?_ | refine awp_block ?_ | refine awp_scope ?_ | refine in_n ?_ | refine in_r ?_ | refine in_e ?_ | refine in_ne (by decide) ?_ | refine ng_n ?_ | refine ng_r ?_ | refine ng_e ?_)
    | (with_reducible refine awp_regT (by kernel_rfl) ?_; intro K hK)
    | (with_reducible refine a_cond (ht := ?_) (hf := ?_) <;> intro hb <;> (try simp at hb) <;> (try contradiction) <;> (try subst hb) <;> (try omega))
    | (with_reducible first | refine a_move (hr := ?_) | refine a_assign (hr := ?_) | refine a_load (hr := ?_) | refine a_fieldAddr (hr := ?_) | refine a_bin (hr := ?_) | refine a_box (hr := ?_) | refine a_eqB (hr := ?_) | refine a_neB (hr := ?_) | refine a_conv (hr := ?_) | refine a_bytesStr (hr := ?_) | refine a_strBytes (hr := ?_) | refine a_eqS (hr := ?_) | refine a_neS (hr := ?_) | refine a_buildSlice (hr := ?_) | refine a_append (hr := ?_) | refine a_append0 (hr := ?_) | refine a_appendX (hr := ?_) | refine a_call0 (hcall := hm) (hr := ?_))
    | fail)
    all_goals ((refine hQ _ _ _ _ (by first | exact .inr rfl | exact .inl rfl) (by simp; exact .r) (by simp; exact .r) ?_))
    all_goals (exact Fin.nil (by simp))
  | true =>
    rw [hB, if_pos rfl] at hm
    rw [if_pos rfl]
    simp only [txtL] at b2 b3 ⊢
    generalize enc 9 d = l1 at h1 b1 ⊢
    generalize enc 9 n.size ++ bytesOf n = l2 at h2 b2 ⊢
    generalize enc 9 y.size ++ bytesOf y = l3 at h3 b3 ⊢
    rcases armB_k hB with ⟨rfl, rfl, rfl⟩ | ⟨rfl, _, hy6, rfl⟩ | ⟨rfl, _, rfl, rfl⟩
    · rw [if_pos rfl]
      refine calls_go (nt := 33) (rs := [.tmp 2]) Try.func19 rfl rfl rfl (by simp) (by intro id h; simp at h <;> omega) ?_; intro Q hQ hW
      repeat' (first
    | (with_reducible refine run_n ?_; with_reducible first | refine hK _ _ (by simp) ?_ | refine hK _ _ ?_; clear hK K)
    | (with_reducible first | refine awp_seq ?_ | refine then_n ?_ | refine then_r ?_ | refine then_e ?_ | refine awp_skip ?_ | refine awp_label ?_ | refine awp_ret ?_ | refine awp_exit ?_ | refine awp_block ?_ | refine awp_scope ?_ | refine in_n ?_ | refine in_r ?_ | refine in_e ?_ | refine in_ne (by decide) ?_ | refine ng_n ?_ | refine ng_r ?_ | refine ng_e ?_)
    | (with_reducible refine awp_regT (by kernel_rfl) ?_; intro K hK)
    | (with_reducible refine a_cond (ht := ?_) (hf := ?_) <;> intro hb <;> (try simp at hb) <;> (try contradiction) <;> (try subst hb) <;> (try omega))
    | (with_reducible first | refine a_move (hr := ?_) | refine a_assign (hr := ?_) | refine a_load (hr := ?_) | refine a_fieldAddr (hr := ?_) | refine a_bin (hr := ?_) | refine a_box (hr := ?_) | refine a_eqB (hr := ?_) | refine a_neB (hr := ?_) | refine a_conv (hr := ?_) | refine a_bytesStr (hr := ?_) | refine a_strBytes (hr := ?_) | refine a_eqS (hr := ?_) | refine a_neS (hr := ?_) | refine a_buildSlice (hr := ?_) | refine a_append (hr := ?_) | refine a_append0 (hr := ?_) | refine a_appendX (hr := ?_) | refine a_call0 (hcall := hm) (hr := ?_) | refine a_callN (hcall := h1) (hr := ?_) | refine a_callN (hcall := h2) (hr := ?_) | refine a_callN (hcall := h3) (hr := ?_))
    | fail)
      (refine hQ _ _ _ _ (by first | exact .inr rfl | exact .inl rfl) (by simp; exact .r) (by simp; exact .r) ?_)
      show Fin _ _ _ (.sl 1 (.raw (.int .u8 _) :: u8s l1))
      exact Fin.frzR (by simp; exact .r) (by simp [List.take_of_length_le, Nat.add_comm 1 l1.length]; exact .r) (by simp; exact .r) (by simp)
    · rw [if_neg (by decide), if_pos rfl]
      refine calls_go (nt := 33) (rs := [.tmp 2]) Try.func19 rfl rfl rfl (by simp) (by intro id h; simp at h <;> omega) ?_; intro Q hQ hW
      repeat' (first
    | (with_reducible refine run_n ?_; with_reducible first | refine hK _ _ (by simp) ?_ | refine hK _ _ ?_; clear hK K)
    | (with_reducible first | refine awp_seq ?_ | refine then_n ?_ | refine then_r ?_ | refine then_e ?_ | refine awp_skip ?_ | refine awp_label ?_ | refine awp_ret ?_ | refine awp_exit ?_ | refine awp_block ?_ | refine awp_scope ?_ | refine in_n ?_ | refine in_r ?_ | refine in_e ?_ | refine in_ne (by decide) ?_ | refine ng_n ?_ | refine ng_r ?_ | refine ng_e ?_)
    | (with_reducible refine awp_regT (by kernel_rfl) ?_; intro K hK)
    | (with_reducible refine a_cond (ht := ?_) (hf := ?_) <;> intro hb <;> (try simp at hb) <;> (try contradiction) <;> (try subst hb) <;> (try omega))
    | (with_reducible first | refine a_move (hr := ?_) | refine a_assign (hr := ?_) | refine a_load (hr := ?_) | refine a_fieldAddr (hr := ?_) | refine a_bin (hr := ?_) | refine a_box (hr := ?_) | refine a_eqB (hr := ?_) | refine a_neB (hr := ?_) | refine a_conv (hr := ?_) | refine a_bytesStr (hr := ?_) | refine a_strBytes (hr := ?_) | refine a_eqS (hr := ?_) | refine a_neS (hr := ?_) | refine a_buildSlice (hr := ?_) | refine a_append (hr := ?_) | refine a_append0 (hr := ?_) | refine a_appendX (hr := ?_) | refine a_call0 (hcall := hm) (hr := ?_) | refine a_callN (hcall := h1) (hr := ?_) | refine a_callN (hcall := h2) (hr := ?_) | refine a_callN (hcall := h3) (hr := ?_))
    | fail)
      (refine hQ _ _ _ _ (by first | exact .inr rfl | exact .inl rfl) (by simp; exact .r) (by simp; exact .r) ?_)
      rw [show List.take (1 + l2.length) (AV.raw (.int .u8 2) :: u8s l2) = .raw (.int .u8 2) :: u8s l2 from List.take_of_length_le (by simp; omega)]
      show Fin _ _ _ (.sl 1 (.raw (.int .u8 _) :: u8s (l2 ++ l3)))
      exact Fin.frzR (by simp; exact .r) (by simp [List.take_of_length_le, Nat.add_comm 1 l2.length, show l2.length + 1 + l3.length = l2.length + l3.length + 1 by omega]; exact .r) (by simp; exact .r) (by simp)
    · rw [if_neg (by decide), if_neg (by decide)]
      refine calls_go (nt := 33) (rs := [.tmp 2]) Try.func19 rfl rfl rfl (by simp) (by intro id h; simp at h <;> omega) ?_; intro Q hQ hW
      repeat' (first
    | (with_reducible refine run_n ?_; with_reducible first | refine hK _ _ (by simp) ?_ | refine hK _ _ ?_; clear hK K)
    | (with_reducible first | refine awp_seq ?_ | refine then_n ?_ | refine then_r ?_ | refine then_e ?_ | refine awp_skip ?_ | refine awp_label ?_ | refine awp_ret ?_ | refine awp_exit ?_ | refine awp_block ?_ | refine awp_scope ?_ | refine in_n ?_ | refine in_r ?_ | refine in_e ?_ | refine in_ne (by decide) ?_ | refine ng_n ?_ | refine ng_r ?_ | refine ng_e ?_)
    | (with_reducible refine awp_regT (by kernel_rfl) ?_; intro K hK)
    | (with_reducible refine a_cond (ht := ?_) (hf := ?_) <;> intro hb <;> (try simp at hb) <;> (try contradiction) <;> (try subst hb) <;> (try omega))
    | (with_reducible first | refine a_move (hr := ?_) | refine a_assign (hr := ?_) | refine a_load (hr := ?_) | refine a_fieldAddr (hr := ?_) | refine a_bin (hr := ?_) | refine a_box (hr := ?_) | refine a_eqB (hr := ?_) | refine a_neB (hr := ?_) | refine a_conv (hr := ?_) | refine a_bytesStr (hr := ?_) | refine a_strBytes (hr := ?_) | refine a_eqS (hr := ?_) | refine a_neS (hr := ?_) | refine a_buildSlice (hr := ?_) | refine a_append (hr := ?_) | refine a_append0 (hr := ?_) | refine a_appendX (hr := ?_) | refine a_call0 (hcall := hm) (hr := ?_) | refine a_callN (hcall := h1) (hr := ?_) | refine a_callN (hcall := h2) (hr := ?_) | refine a_callN (hcall := h3) (hr := ?_))
    | fail)
      (refine hQ _ _ _ _ (by first | exact .inr rfl | exact .inl rfl) (by simp; exact .r) (by simp; exact .r) ?_)
      show Fin _ _ _ (.sl 1 (.raw (.int .u8 _) :: u8s l2))
      exact Fin.frzR (by simp; exact .r) (by simp [List.take_of_length_le, Nat.add_comm 1 l2.length]; exact .r) (by simp; exact .r) (by simp)
end Go.Proofs.Ytdbdajmgfajcpaa.Asl

namespace Go.Proofs.Ytdbdajmgfajcpaa.Asl
open Go Go.RowKit
set_option linter.unusedVariables false
set_option linter.unusedSimpArgs false
variable {P : Program} {e : Nat → AV} {h : Hp}
theorem RV.nilsl {C : Cx} {sz : Nat} {v : Value} (k : RV C (AV.raw (.slice none 0 0)) v) : RV C (.sl sz []) v := by
  rw [RV.raw_eq k]; exact .sl0
theorem CallD.nil1 {f : FuncId} {sz : Nat} {r : AV} {g g' : Hp} (hc : CallD P f [.sl sz []] g r g') : CallD P f [.raw (.slice none 0 0)] g r g' := by
  intro C vs hh hv
  refine hc C vs hh ?_
  cases hv with
  | cons a b => exact .cons a.nilsl b
end Go.Proofs.Ytdbdajmgfajcpaa.Asl

namespace Go.Proofs.Ytdbdajmgfajcpaa.Asl
open Go Go.RowKit
set_option linter.unusedVariables false
set_option linter.unusedSimpArgs false
set_option maxRecDepth 100000
set_option maxHeartbeats 2000000
@[simp] theorem bytes_take (s : ByteArray) : (bytesOf s).take s.size = bytesOf s := List.take_of_length_le (by rw [len_bytes]; exact Nat.le_refl _)
attribute [local simp] len_bytes
theorem strOf_inj {a b : List Int} (ha : IsB a) (hb : IsB b) (h : strOfNums a = strOfNums b) : a = b := by
  have := congrArg bytesOf h
  rwa [bytes_of_nums ha, bytes_of_nums hb] at this
theorem c_rEqual (a b : List Int) (ha : a.length < 9223372036854775808) (hb : b.length < 9223372036854775808) (hA : IsB a) (hB : IsB b) : CallD Try.prog 24 [.sl 1 (u8s a), .sl 1 (u8s b)] noHeap (.raw (.bool (decide (a = b)))) noHeap := by
  have he : decide (a = b) = decide (strOfNums a = strOfNums b) := by
    rw [decide_eq_decide]
    exact ⟨fun h => by rw [h], strOf_inj hA hB⟩
  rw [he]
  refine calls_go (nt := 10) (rs := [.tmp 4]) Try.func24 rfl rfl rfl (by simp) (by intro id h; simp at h <;> omega) ?_; intro Q hQ hW
  repeat' (first
    | (with_reducible refine run_n ?_; with_reducible first | refine hK _ _ (by simp) ?_ | refine hK _ _ ?_; clear hK K)
    | (with_reducible first | refine awp_seq ?_ | refine then_n ?_ | refine then_r ?_ | refine then_e ?_ | refine awp_skip ?_ | refine awp_label ?_ | refine awp_ret ?_ | refine awp_exit ?_ | refine awp_block ?_ | refine awp_scope ?_ | refine in_n ?_ | refine in_r ?_ | refine in_e ?_ | refine in_ne (by decide) ?_ | refine ng_n ?_ | refine ng_r ?_ | refine ng_e ?_)
    | (with_reducible refine awp_regT (by kernel_rfl) ?_; intro K hK)
    | (with_reducible refine a_cond (ht := ?_) (hf := ?_) <;> intro hb <;> (try simp at hb) <;> (try contradiction) <;> (try subst hb) <;> (try omega))
    | (with_reducible first | refine a_move (hr := ?_) | refine a_assign (hr := ?_) | refine a_bin (hr := ?_) | refine a_eqB (hr := ?_) | refine a_conv (hr := ?_) | refine a_bytesStr (hr := ?_) | refine a_strBytes (hr := ?_) | refine a_eqS (hr := ?_))
    | fail)
  (refine hQ _ _ _ _ (by first | exact .inr rfl | exact .inl rfl) (by simp; exact .r) (by simp; exact .r) ?_)
  exact Fin.drop (by simp; exact .r) (by simp)
theorem c_rEqualT (a : List Int) (ha : a.length < 9223372036854775808) (hA : IsB a) : CallD Try.prog 24 [.sl 1 (u8s a), .sl 1 (u8s a)] noHeap (.raw (.bool true)) noHeap := by
  have := c_rEqual a a ha ha hA hA
  simpa using this
end Go.Proofs.Ytdbdajmgfajcpaa.Asl
namespace Go.Proofs.Ytdbdajmgfajcpaa.Asl
open Go Go.RowKit
set_option linter.unusedVariables false
set_option linter.unusedSimpArgs false
set_option maxRecDepth 100000
set_option maxHeartbeats 4000000
abbrev instAV (d : ByteArray) (v s : Int) (c : ByteArray) (x : Int) : AV := .agg [.raw (.string d), .raw (.int .u64 v), .raw (.int .i64 s), .raw (.string c), .raw (.int .u64 x)]
def instB (d : ByteArray) (v s : Int) (c : ByteArray) (x : Int) : Bool := (if s = 3 then nameB (bytesOf c) else decide (c = ⟨#[]⟩)) && nameB (bytesOf d) && !decide (v = 0) && !decide (x = 0) && decide (1 ≤ s) && decide (s ≤ 4)
theorem instB_of {d c : ByteArray} {v s x : Int} (h : instB d v s c x = true) : (if s = 3 then nameB (bytesOf c) = true else c = ⟨#[]⟩) ∧ nameB (bytesOf d) = true ∧ v ≠ 0 ∧ x ≠ 0 ∧ 1 ≤ s ∧ s ≤ 4 := by
  simp only [instB, Bool.and_eq_true, Bool.not_eq_true', decide_eq_true_eq, decide_eq_false_iff_not] at h
  obtain ⟨⟨⟨⟨⟨a, b⟩, c⟩, d⟩, e⟩, f⟩ := h
  refine ⟨?_, b, c, d, e, f⟩
  split
  · rename_i h3; rw [if_pos h3] at a; exact a
  · rename_i h3; rw [if_neg h3] at a; simpa using a
theorem c_mayInst (d : ByteArray) (v s : Int) (c : ByteArray) (x : Int) (hd : d.size < 9223372036854775808) (hc : c.size < 9223372036854775808) : CallD Try.prog 63 [instAV d v s c x] noHeap (.raw (.int .i64 (if instB d v s c x = true then 0 else 1))) noHeap := by
  have h1 := c_Name d hd
  have h2 := c_Name c hc
  generalize hB : instB d v s c x = b
  unfold instB at hB
  generalize nameB (bytesOf d) = bd at h1 hB
  generalize nameB (bytesOf c) = bc at h2 hB
  by_cases s3 : s = 3
  · subst s3
    rw [if_pos rfl] at hB
    cases bd <;> cases bc <;> by_cases v0 : v = 0 <;> by_cases x0 : x = 0
    all_goals (simp [v0, x0] at hB; subst hB)
    all_goals
      refine calls_go (nt := 41) (rs := [.tmp 2]) Try.func63 rfl rfl rfl (by simp) (by intro id h; simp at h <;> omega) ?_; intro Q hQ hW
      repeat' (first
    | (with_reducible refine run_n ?_; with_reducible first | refine hK _ _ (by simp) ?_ | refine hK _ _ ?_; clear hK K)
    | (with_reducible first | refine awp_seq ?_ | refine then_n ?_ | refine then_r ?_ | refine then_e ?_ | refine awp_skip ?_ | refine awp_label ?_ | refine awp_ret ?_ | refine awp_exit ?_ | refine awp_block ?_ | refine awp_scope ?_ | refine in_n ?_ | refine in_r ?_ | refine in_e ?_ | refine in_ne (by decide) ?_ | refine ng_n ?_ | refine ng_r ?_ | refine ng_e ?_)
    | (with_reducible refine awp_regT (by kernel_rfl) ?_; intro K hK)
    | (with_reducible refine a_cond (ht := ?_) (hf := ?_) <;> intro hb <;> (try simp at hb) <;> (try contradiction) <;> (try subst hb) <;> (try omega))
    | (with_reducible first | refine a_move (hr := ?_) | refine a_assign (hr := ?_) | refine a_load (hr := ?_) | refine a_fieldAddr (hr := ?_) | refine a_bin (hr := ?_) | refine a_pick (hr := ?_) | refine a_un (hr := ?_) | refine a_box (hr := ?_) | refine a_eqB (hr := ?_) | refine a_eqS (hr := ?_) | refine a_call0 (hcall := h1) (hr := ?_) | refine a_call0 (hcall := h2) (hr := ?_) | refine a_gT (hr := ?_) | refine a_gF (hr := ?_) | refine a_gU (hr := ?_))
    | (with_reducible refine a_gB (hT := ?_) (hF := ?_) <;> intro hb <;> (try simp at hb) <;> (try contradiction) <;> (try subst hb) <;> (try omega))
    | fail)
      all_goals ((refine hQ _ _ _ _ (by first | exact .inr rfl | exact .inl rfl) (by simp; exact .r) (by simp; exact .r) ?_))
      all_goals (exact Fin.drop (by simp; exact .r) (by simp))
  · rw [if_neg s3] at hB
    by_cases c0 : c = ⟨#[]⟩
    · subst c0
      cases bd <;> by_cases v0 : v = 0 <;> by_cases x0 : x = 0 <;> by_cases s1 : 1 ≤ s <;> by_cases s4 : s ≤ 4
      all_goals (simp [v0, x0, s1, s4] at hB; subst hB)
      all_goals
        refine calls_go (nt := 41) (rs := [.tmp 2]) Try.func63 rfl rfl rfl (by simp) (by intro id h; simp at h <;> omega) ?_; intro Q hQ hW
        repeat' (first
    | (with_reducible refine run_n ?_; with_reducible first | refine hK _ _ (by simp) ?_ | refine hK _ _ ?_; clear hK K)
    | (with_reducible first | refine awp_seq ?_ | refine then_n ?_ | refine then_r ?_ | refine then_e ?_ | refine awp_skip ?_ | refine awp_label ?_ | refine awp_ret ?_ | refine awp_exit ?_ | refine awp_block ?_ | refine awp_scope ?_ | refine in_n ?_ | refine in_r ?_ | refine in_e ?_ | refine in_ne (by decide) ?_ | refine ng_n ?_ | refine ng_r ?_ | refine ng_e ?_)
    | (with_reducible refine awp_regT (by kernel_rfl) ?_; intro K hK)
    | (with_reducible refine a_cond (ht := ?_) (hf := ?_) <;> intro hb <;> (try simp at hb) <;> (try contradiction) <;> (try subst hb) <;> (try omega))
    | (with_reducible first | refine a_move (hr := ?_) | refine a_assign (hr := ?_) | refine a_load (hr := ?_) | refine a_fieldAddr (hr := ?_) | refine a_bin (hr := ?_) | refine a_pick (hr := ?_) | refine a_un (hr := ?_) | refine a_box (hr := ?_) | refine a_eqB (hr := ?_) | refine a_eqS (hr := ?_) | refine a_call0 (hcall := h1) (hr := ?_) | refine a_call0 (hcall := h2) (hr := ?_) | refine a_gT (hr := ?_) | refine a_gF (hr := ?_) | refine a_gU (hr := ?_))
    | (with_reducible refine a_gB (hT := ?_) (hF := ?_) <;> intro hb <;> (try simp at hb) <;> (try contradiction) <;> (try subst hb) <;> (try omega))
    | fail)
        all_goals ((refine hQ _ _ _ _ (by first | exact .inr rfl | exact .inl rfl) (by simp; exact .r) (by simp; exact .r) ?_))
        all_goals (exact Fin.drop (by simp; exact .r) (by simp))
    · simp [c0] at hB
      subst hB
      refine calls_go (nt := 41) (rs := [.tmp 2]) Try.func63 rfl rfl rfl (by simp) (by intro id h; simp at h <;> omega) ?_; intro Q hQ hW
      repeat' (first
    | (with_reducible refine run_n ?_; with_reducible first | refine hK _ _ (by simp) ?_ | refine hK _ _ ?_; clear hK K)
    | (with_reducible first | refine awp_seq ?_ | refine then_n ?_ | refine then_r ?_ | refine then_e ?_ | refine awp_skip ?_ | refine awp_label ?_ | refine awp_ret ?_ | refine awp_exit ?_ | refine awp_block ?_ | refine awp_scope ?_ | refine in_n ?_ | refine in_r ?_ | refine in_e ?_ | refine in_ne (by decide) ?_ | refine ng_n ?_ | refine ng_r ?_ | refine ng_e ?_)
    | (with_reducible refine awp_regT (by kernel_rfl) ?_; intro K hK)
    | (with_reducible refine a_cond (ht := ?_) (hf := ?_) <;> intro hb <;> (try simp at hb) <;> (try contradiction) <;> (try subst hb) <;> (try omega))
    | (with_reducible first | refine a_move (hr := ?_) | refine a_assign (hr := ?_) | refine a_load (hr := ?_) | refine a_fieldAddr (hr := ?_) | refine a_bin (hr := ?_) | refine a_pick (hr := ?_) | refine a_un (hr := ?_) | refine a_box (hr := ?_) | refine a_eqB (hr := ?_) | refine a_eqS (hr := ?_) | refine a_call0 (hcall := h1) (hr := ?_) | refine a_call0 (hcall := h2) (hr := ?_) | refine a_gT (hr := ?_) | refine a_gF (hr := ?_) | refine a_gU (hr := ?_))
    | (with_reducible refine a_gB (hT := ?_) (hF := ?_) <;> intro hb <;> (try simp at hb) <;> (try contradiction) <;> (try subst hb) <;> (try omega))
    | fail)
      all_goals ((refine hQ _ _ _ _ (by first | exact .inr rfl | exact .inl rfl) (by simp; exact .r) (by simp; exact .r) ?_))
      all_goals (exact Fin.drop (by simp; exact .r) (by simp))
def putInst (d : ByteArray) (v s : Int) (c : ByteArray) (x : Int) : List Int := if instB d v s c x = true then txtL d ++ (enc 9 v ++ ([s] ++ (txtL c ++ enc 9 x))) else []
theorem c_PutInst (d : ByteArray) (v s : Int) (c : ByteArray) (x : Int) (hd : d.size ≤ 100000000) (hc : c.size ≤ 100000000) (hv : 0 ≤ v ∧ v < 18446744073709551616) (hx : 0 ≤ x ∧ x < 18446744073709551616) : CallD Try.prog 25 [instAV d v s c x] noHeap (.sl 1 (u8s (putInst d v s c x))) noHeap := by
  have hm := c_mayInst d v s c x (by omega) (by omega)
  unfold putInst
  cases hB : instB d v s c x with
  | false =>
    rw [hB, if_neg (by simp)] at hm
    rw [if_neg (by simp)]
    refine calls_go (nt := 24) (rs := [.tmp 2]) Try.func25 rfl rfl rfl (by simp) (by intro id h; simp at h <;> omega) ?_; intro Q hQ hW
    repeat' (first
    | (with_reducible refine run_n ?_; with_reducible first | refine hK _ _ (by simp) ?_ | refine hK _ _ ?_; clear hK K)
    | (with_reducible first | refine awp_seq ?_ | refine then_n ?_ | refine then_r ?_ | refine then_e ?_ | refine awp_skip ?_ | refine awp_label ?_ | refine awp_ret ?_ | refine awp_exit ?_ | refine awp_block ?_ | refine awp_scope ?_ | refine in_n ?_ | refine in_r ?_ | refine in_e ?_ | refine in_ne (by decide) ?_ | refine ng_n ?_ | refine ng_r ?_ | refine ng_e ?_)
    | (with_reducible refine awp_regT (by kernel_rfl) ?_; intro K hK)
    | (with_reducible refine awp_regAM (id := 3) [(6, some 1), (9, some 1), (12, some 1), (16, some 1), (19, some 1)] mixed (by kernel_rfl) (by kernel_rfl) ?_; intro K hK)
    | (with_reducible refine a_cond (ht := ?_) (hf := ?_) <;> intro hb <;> (try simp at hb) <;> (try contradiction) <;> (try subst hb) <;> (try omega))
    | (with_reducible first | refine a_assign (hr := ?_) | refine a_load (hr := ?_) | refine a_fieldAddr (hr := ?_) | refine a_bin (hr := ?_) | refine a_box (hr := ?_) | refine a_neB (hr := ?_) | refine a_conv (hr := ?_) | refine a_bytesStr (hr := ?_) | refine a_strBytes (hr := ?_) | refine a_neS (hr := ?_) | refine a_buildSlice (hr := ?_) | refine a_call0 (hcall := hm) (hr := ?_))
    | fail)
    all_goals ((refine hQ _ _ _ _ (by first | exact .inr rfl | exact .inl rfl) (by simp; exact .r) (by simp; exact .r) ?_))
    all_goals (exact Fin.nil (by simp))
  | true =>
    rw [hB, if_pos rfl] at hm
    rw [if_pos rfl]
    have hs := instB_of hB
    have h1 := c_WText d (by omega)
    have h2 := c_UintT v hv.1 hv.2
    have h3 := c_WText c (by omega)
    have h4 := c_UintT x hx.1 hx.2
    have b1 := txtL_len d
    have b2 := (enc_len 9 v).1
    have b3 := txtL_len c
    have b4 := (enc_len 9 x).1
    simp only [txtL] at b1 b3 ⊢
    generalize enc 9 d.size ++ bytesOf d = l1 at h1 b1 ⊢
    generalize enc 9 v = l2 at h2 b2 ⊢
    generalize enc 9 c.size ++ bytesOf c = l3 at h3 b3 ⊢
    generalize enc 9 x = l4 at h4 b4 ⊢
    have hj := c_JoinT [l1, l2, [s], l3, l4] (by simp; omega) (by simp)
    simp only [rws_cons, rws_nil, List.flatten_cons, List.flatten_nil, List.append_nil] at hj
    rw [show u8s [s] = [.raw (.int .u8 s)] from rfl] at hj
    have hw : IntKind.wrap .u8 s = s := wrap_u8 (by omega) (by omega)
    refine calls_go (nt := 24) (rs := [.tmp 2]) Try.func25 rfl rfl rfl (by simp) (by intro id h; simp at h <;> omega) ?_; intro Q hQ hW
    repeat' (first
    | (with_reducible refine run_n ?_; with_reducible first | refine hK _ _ (by simp) ?_ | refine hK _ _ ?_; clear hK K)
    | (with_reducible first | refine awp_seq ?_ | refine then_n ?_ | refine then_r ?_ | refine then_e ?_ | refine awp_skip ?_ | refine awp_label ?_ | refine awp_ret ?_ | refine awp_exit ?_ | refine awp_block ?_ | refine awp_scope ?_ | refine in_n ?_ | refine in_r ?_ | refine in_e ?_ | refine in_ne (by decide) ?_ | refine ng_n ?_ | refine ng_r ?_ | refine ng_e ?_)
    | (with_reducible refine awp_regT (by kernel_rfl) ?_; intro K hK)
    | (with_reducible refine awp_regAM (id := 3) [(6, some 1), (9, some 1), (12, some 1), (16, some 1), (19, some 1)] mixed (by kernel_rfl) (by kernel_rfl) ?_; intro K hK)
    | (with_reducible refine a_cond (ht := ?_) (hf := ?_) <;> intro hb <;> (try simp at hb) <;> (try contradiction) <;> (try subst hb) <;> (try omega))
    | (with_reducible first | refine a_assign (hr := ?_) | refine a_load (hr := ?_) | refine a_fieldAddr (hr := ?_) | refine a_bin (hr := ?_) | refine a_box (hr := ?_) | refine a_neB (hr := ?_) | refine a_conv (hr := ?_) | refine a_bytesStr (hr := ?_) | refine a_strBytes (hr := ?_) | refine a_neS (hr := ?_) | refine a_buildSlice (hr := ?_) | refine a_call0 (hcall := hm) (hr := ?_) | refine a_callN (hcall := h1) (hr := ?_) | refine a_callN (hcall := h2) (hr := ?_) | refine a_callN (hcall := h3) (hr := ?_) | refine a_callN (hcall := h4) (hr := ?_) | refine a_callF (hcall := hj) (hr := ?_))
    | fail)
    all_goals ((refine hQ _ _ _ _ (by first | exact .inr rfl | exact .inl rfl) (by simp; exact .r) (by simp; exact .r) ?_))
    all_goals (exact Fin.drop (by simp; exact .r) (by simp))
end Go.Proofs.Ytdbdajmgfajcpaa.Asl

namespace Go.Proofs.Ytdbdajmgfajcpaa.Asl
open Go Go.RowKit
set_option linter.unusedVariables false
set_option linter.unusedSimpArgs false
set_option maxRecDepth 100000
set_option maxHeartbeats 4000000
attribute [local simp] len_bytes
def val : List Int → Int
  | [] => 0
  | c :: l => c % 128 + 128 * val l
end Go.Proofs.Ytdbdajmgfajcpaa.Asl

namespace Go.Proofs.Ytdbdajmgfajcpaa.Asl
open Go Go.RowKit
set_option linter.unusedVariables false
set_option linter.unusedSimpArgs false
set_option maxRecDepth 100000
set_option maxHeartbeats 4000000
@[simp] theorem u8s_tail (l : List Int) : (u8s l).tail = u8s l.tail := by cases l <;> rfl
end Go.Proofs.Ytdbdajmgfajcpaa.Asl

