/- Chapter 15: keys, the document's. -/
import Derived.Test.YtdbdajmgfajcpaaE2
namespace Go.Proofs.Ytdbdajmgfajcpaa.Asl
open Go Go.RowKit
set_option linter.unusedVariables false
set_option linter.unusedSimpArgs false
set_option maxRecDepth 100000
set_option maxHeartbeats 2000000
attribute [local simp] RefV.zero RefV.of
theorem c_rDigits (s : ByteArray) (hs : s.size < 9223372036854775808) : CallD Try.prog 100 [.raw (.string s)] noHeap (.tup [.raw (.int .u64 (digV s).1), .raw (.int .i64 (digV s).2)]) noHeap := by
  refine calls_go (nt := 35) (rs := [.tmp 2, .tmp 3]) Try.func100 rfl rfl rfl (by simp) (by intro id h; simp at h <;> omega) ?_; intro Q hQ hW
  repeat' (first
    | (with_reducible refine run_n ?_; with_reducible first | refine hK _ _ (by simp) ?_ | refine hK _ _ ?_; clear hK K)
    | (with_reducible first | refine awp_seq ?_ | refine then_n ?_ | refine then_r ?_ | refine then_e ?_ | refine awp_skip ?_ | refine awp_label ?_ | refine awp_ret ?_ | refine awp_exit ?_ | refine awp_block ?_ | refine awp_scope ?_ | refine in_n ?_ | refine in_r ?_ | refine in_e ?_ | refine in_ne (by decide) ?_ | refine ng_n ?_ | refine ng_r ?_ | refine ng_e ?_)
    | (with_reducible refine awp_regT (by kernel_rfl) ?_; intro K hK)
    | (with_reducible refine awp_regAM (id := 9) [] mixed (by kernel_rfl) (by kernel_rfl) ?_; intro K hK)
    | (with_reducible refine a_cond (ht := ?_) (hf := ?_) <;> intro hb <;> (try simp at hb) <;> (try contradiction) <;> (try subst hb) <;> (try omega))
    | (with_reducible first | refine a_move (hr := ?_) | refine a_assign (hr := ?_) | refine a_bin (hr := ?_) | refine a_lenS (hr := ?_) | refine a_lenR (hr := ?_) | refine a_eqB (hr := ?_) | refine a_neB (hr := ?_) | refine a_eqS (hr := ?_) | refine a_neS (hr := ?_) | refine a_index (hr := ?_))
    | fail)
  refine awp_inv (α := Nat × Int) (fun p => [(0, .raw (.string s)), (4, .raw (.int .u64 p.2)), (9, .raw (.int .i64 s.size)), (10, .raw (.int .i64 p.1))]) (fun p => hpL [])
    (fun p => p.1 ≤ s.size ∧ 0 ≤ p.2 ∧ p.2 < 18446744073709551616 ∧ digs ((bytesOf s).drop p.1) p.2 = digs (bytesOf s) 0) (fun p => s.size - p.1) (0, 0) ⟨by simp, by simp, by simp, by simp⟩ (weak_o (by repeat' (first | refine sub_ohp (by first | (simp; done) | (intro hne; simp at hne; simp [hne])) (by simp) ?_ | exact sub_hpL (by simp))) (by simp) (by simp <;> omega)) ?_
  rintro ⟨i, n⟩ ⟨g1, g2, g2', g3⟩
  simp only at g1 g2 g2' g3 ⊢
  rcases Nat.lt_or_ge i s.size with hlt | hge
  · have hd := drop_byte s i hlt
    have hr := byteAt_range s i
    rw [hd] at g3
    simp only [digs] at g3
    generalize hby : byteAt s (i : Int) = c at g3 hr
    have hfin : fin c 16 16 = hv c := by
      have := fin_hv ⟨c.toNat, by omega⟩
      simp only at this
      rwa [show ((c.toNat : Nat) : Int) = c by omega] at this
    repeat' (first
    | (with_reducible refine run_n ?_; with_reducible first | refine hK _ _ (by simp) ?_ | refine hK _ _ ?_; clear hK K)
    | (with_reducible first | refine awp_seq ?_ | refine then_n ?_ | refine then_r ?_ | refine then_e ?_ | refine awp_skip ?_ | refine awp_label ?_ | refine awp_ret ?_ | refine awp_exit ?_ | refine awp_block ?_ | refine awp_scope ?_ | refine in_n ?_ | refine in_r ?_ | refine in_e ?_ | refine in_ne (by decide) ?_ | refine ng_n ?_ | refine ng_r ?_ | refine ng_e ?_)
    | (with_reducible refine awp_regT (by kernel_rfl) ?_; intro K hK)
    | (with_reducible refine awp_regAM (id := 9) [] mixed (by kernel_rfl) (by kernel_rfl) ?_; intro K hK)
    | (with_reducible refine a_cond (ht := ?_) (hf := ?_) <;> intro hb <;> (try simp at hb) <;> (try contradiction) <;> (try subst hb) <;> (try omega))
    | (with_reducible first | refine a_move (hr := ?_) | refine a_assign (hr := ?_) | refine a_bin (hr := ?_) | refine a_lenS (hr := ?_) | refine a_lenR (hr := ?_) | refine a_eqB (hr := ?_) | refine a_neB (hr := ?_) | refine a_eqS (hr := ?_) | refine a_neS (hr := ?_) | refine a_index (hr := ?_))
    | fail)
    refine awp_inv (α := Nat × Int) (fun p => [(0, .raw (.string s)), (4, .raw (.int .u64 n)), (5, .raw (.int .i64 i)), (9, .raw (.int .i64 s.size)), (10, .raw (.int .i64 i)), (6, .raw (.int .u64 p.2)), (13, .raw (.int .u64 p.1))]) (fun p => hpL [])
      (fun p => p.1 ≤ 16 ∧ 0 ≤ p.2 ∧ p.2 ≤ 16 ∧ fin c (16 - p.1) p.2 = hv c) (fun p => 16 - p.1) (0, 16) ⟨by simp, by simp, by simp, hfin⟩ (weak_o (by repeat' (first | refine sub_ohp (by first | (simp; done) | (intro hne; simp at hne; simp [hne])) (by simp) ?_ | exact sub_hpL (by simp))) (by simp) (by simp <;> omega)) ?_
    rintro ⟨j, d⟩ ⟨q1, q2, q3, q4⟩
    simp only at q1 q2 q3 q4 ⊢
    rcases Nat.lt_or_ge j 16 with hj | hj
    · have hk := hexS_bt ⟨j, hj⟩
      simp only [hexS] at hk
      rw [show 16 - j = (16 - (j + 1)) + 1 by omega, fin, show (16 : Int) - (((16 - (j + 1) : Nat) : Int) + 1) = j by omega] at q4
      by_cases hjc : dg (j : Int) = c
      · rw [if_pos hjc] at q4
        repeat' (first
    | (with_reducible refine run_n ?_; with_reducible first | refine hK _ _ (by simp) ?_ | refine hK _ _ ?_; clear hK K)
    | (with_reducible first | refine awp_seq ?_ | refine then_n ?_ | refine then_r ?_ | refine then_e ?_ | refine awp_skip ?_ | refine awp_label ?_ | refine awp_ret ?_ | refine awp_exit ?_ | refine awp_block ?_ | refine awp_scope ?_ | refine in_n ?_ | refine in_r ?_ | refine in_e ?_ | refine in_ne (by decide) ?_ | refine ng_n ?_ | refine ng_r ?_ | refine ng_e ?_)
    | (with_reducible refine awp_regT (by kernel_rfl) ?_; intro K hK)
    | (with_reducible refine awp_regAM (id := 9) [] mixed (by kernel_rfl) (by kernel_rfl) ?_; intro K hK)
    | (with_reducible refine a_cond (ht := ?_) (hf := ?_) <;> intro hb <;> (try simp at hb) <;> (try contradiction) <;> (try subst hb) <;> (try omega))
    | (with_reducible first | refine a_move (hr := ?_) | refine a_assign (hr := ?_) | refine a_bin (hr := ?_) | refine a_lenS (hr := ?_) | refine a_lenR (hr := ?_) | refine a_eqB (hr := ?_) | refine a_neB (hr := ?_) | refine a_eqS (hr := ?_) | refine a_neS (hr := ?_) | refine a_index (hr := ?_))
    | fail)
        exact ⟨(j + 1, (j : Int)), by simp only; omega, ⟨by simp only; omega, by simp only; omega, by simp only; omega, q4⟩, weak_o (by repeat' (first | refine sub_ohp (by first | (simp; done) | (intro hne; simp at hne; simp [hne])) (by simp) ?_ | exact sub_hpL (by simp))) (by simp) (by simp <;> omega)⟩
      · rw [if_neg hjc] at q4
        repeat' (first
    | (with_reducible refine run_n ?_; with_reducible first | refine hK _ _ (by simp) ?_ | refine hK _ _ ?_; clear hK K)
    | (with_reducible first | refine awp_seq ?_ | refine then_n ?_ | refine then_r ?_ | refine then_e ?_ | refine awp_skip ?_ | refine awp_label ?_ | refine awp_ret ?_ | refine awp_exit ?_ | refine awp_block ?_ | refine awp_scope ?_ | refine in_n ?_ | refine in_r ?_ | refine in_e ?_ | refine in_ne (by decide) ?_ | refine ng_n ?_ | refine ng_r ?_ | refine ng_e ?_)
    | (with_reducible refine awp_regT (by kernel_rfl) ?_; intro K hK)
    | (with_reducible refine awp_regAM (id := 9) [] mixed (by kernel_rfl) (by kernel_rfl) ?_; intro K hK)
    | (with_reducible refine a_cond (ht := ?_) (hf := ?_) <;> intro hb <;> (try simp at hb) <;> (try contradiction) <;> (try subst hb) <;> (try omega))
    | (with_reducible first | refine a_move (hr := ?_) | refine a_assign (hr := ?_) | refine a_bin (hr := ?_) | refine a_lenS (hr := ?_) | refine a_lenR (hr := ?_) | refine a_eqB (hr := ?_) | refine a_neB (hr := ?_) | refine a_eqS (hr := ?_) | refine a_neS (hr := ?_) | refine a_index (hr := ?_))
    | fail)
        exact ⟨(j + 1, d), by simp only; omega, ⟨by simp only; omega, by simp only; omega, by simp only; omega, q4⟩, weak_o (by repeat' (first | refine sub_ohp (by first | (simp; done) | (intro hne; simp at hne; simp [hne])) (by simp) ?_ | exact sub_hpL (by simp))) (by simp) (by simp <;> omega)⟩
    · obtain rfl : j = 16 := by omega
      simp only [Nat.sub_self, fin] at q4
      subst q4
      by_cases h16 : hv c = 16
      · rw [if_pos h16] at g3
        have hV : digV s = (0, 31) := by
          unfold digV
          rw [← g3]; simp [digR]
        rw [hV] at hQ
        repeat' (first
    | (with_reducible refine run_n ?_; with_reducible first | refine hK _ _ (by simp) ?_ | refine hK _ _ ?_; clear hK K)
    | (with_reducible first | refine awp_seq ?_ | refine then_n ?_ | refine then_r ?_ | refine then_e ?_ | refine awp_skip ?_ | refine awp_label ?_ | refine awp_ret ?_ | refine awp_exit ?_ | refine awp_block ?_ | refine awp_scope ?_ | refine in_n ?_ | refine in_r ?_ | refine in_e ?_ | refine in_ne (by decide) ?_ | refine ng_n ?_ | refine ng_r ?_ | refine ng_e ?_)
    | (with_reducible refine awp_regT (by kernel_rfl) ?_; intro K hK)
    | (with_reducible refine awp_regAM (id := 9) [] mixed (by kernel_rfl) (by kernel_rfl) ?_; intro K hK)
    | (with_reducible refine a_cond (ht := ?_) (hf := ?_) <;> intro hb <;> (try simp at hb) <;> (try contradiction) <;> (try subst hb) <;> (try omega))
    | (with_reducible first | refine a_move (hr := ?_) | refine a_assign (hr := ?_) | refine a_bin (hr := ?_) | refine a_lenS (hr := ?_) | refine a_lenR (hr := ?_) | refine a_eqB (hr := ?_) | refine a_neB (hr := ?_) | refine a_eqS (hr := ?_) | refine a_neS (hr := ?_) | refine a_index (hr := ?_))
    | fail)
        (refine hQ _ _ _ _ (by first | exact .inr rfl | exact .inl rfl) (by simp; exact .r) (by simp; exact .r) ?_)
        exact Fin.drop (by simp; exact .r) (by simp)
      · rw [if_neg h16] at g3
        have hst := stp_bound (n := n) (d := hv c) (by omega) (by omega)
        have hw : IntKind.wrap .u64 (IntKind.wrap .u64 (16 * n) + hv c) = stp n (hv c) := by
          rw [wrap_u64', wrap_u64']; unfold stp at hst ⊢; omega
        repeat' (first
    | (with_reducible refine run_n ?_; with_reducible first | refine hK _ _ (by simp) ?_ | refine hK _ _ ?_; clear hK K)
    | (with_reducible first | refine awp_seq ?_ | refine then_n ?_ | refine then_r ?_ | refine then_e ?_ | refine awp_skip ?_ | refine awp_label ?_ | refine awp_ret ?_ | refine awp_exit ?_ | refine awp_block ?_ | refine awp_scope ?_ | refine in_n ?_ | refine in_r ?_ | refine in_e ?_ | refine in_ne (by decide) ?_ | refine ng_n ?_ | refine ng_r ?_ | refine ng_e ?_)
    | (with_reducible refine awp_regT (by kernel_rfl) ?_; intro K hK)
    | (with_reducible refine awp_regAM (id := 9) [] mixed (by kernel_rfl) (by kernel_rfl) ?_; intro K hK)
    | (with_reducible refine a_cond (ht := ?_) (hf := ?_) <;> intro hb <;> (try simp at hb) <;> (try contradiction) <;> (try subst hb) <;> (try omega))
    | (with_reducible first | refine a_move (hr := ?_) | refine a_assign (hr := ?_) | refine a_bin (hr := ?_) | refine a_lenS (hr := ?_) | refine a_lenR (hr := ?_) | refine a_eqB (hr := ?_) | refine a_neB (hr := ?_) | refine a_eqS (hr := ?_) | refine a_neS (hr := ?_) | refine a_index (hr := ?_))
    | fail)
        exact ⟨(i + 1, stp n (hv c)), by simp only; omega, ⟨by simp only; omega, hst.1, hst.2, g3⟩, weak_o (by repeat' (first | exact sub_hpL (by simp))) (by simp) (by simp [hw])⟩
  · obtain rfl : i = s.size := by omega
    rw [List.drop_of_length_le (by rw [len_bytes]; omega)] at g3
    simp only [digs] at g3
    by_cases h16 : s.size = 16
    · have hV : digV s = (n, 0) := by
        unfold digV
        rw [if_pos h16, ← g3]; rfl
      rw [hV] at hQ
      repeat' (first
    | (with_reducible refine run_n ?_; with_reducible first | refine hK _ _ (by simp) ?_ | refine hK _ _ ?_; clear hK K)
    | (with_reducible first | refine awp_seq ?_ | refine then_n ?_ | refine then_r ?_ | refine then_e ?_ | refine awp_skip ?_ | refine awp_label ?_ | refine awp_ret ?_ | refine awp_exit ?_ | refine awp_block ?_ | refine awp_scope ?_ | refine in_n ?_ | refine in_r ?_ | refine in_e ?_ | refine in_ne (by decide) ?_ | refine ng_n ?_ | refine ng_r ?_ | refine ng_e ?_)
    | (with_reducible refine awp_regT (by kernel_rfl) ?_; intro K hK)
    | (with_reducible refine awp_regAM (id := 9) [] mixed (by kernel_rfl) (by kernel_rfl) ?_; intro K hK)
    | (with_reducible refine a_cond (ht := ?_) (hf := ?_) <;> intro hb <;> (try simp at hb) <;> (try contradiction) <;> (try subst hb) <;> (try omega))
    | (with_reducible first | refine a_move (hr := ?_) | refine a_assign (hr := ?_) | refine a_bin (hr := ?_) | refine a_lenS (hr := ?_) | refine a_lenR (hr := ?_) | refine a_eqB (hr := ?_) | refine a_neB (hr := ?_) | refine a_eqS (hr := ?_) | refine a_neS (hr := ?_) | refine a_index (hr := ?_))
    | fail)
      (refine hQ _ _ _ _ (by first | exact .inr rfl | exact .inl rfl) (by simp; exact .r) (by simp; exact .r) ?_)
      exact Fin.drop (by simp; exact .r) (by simp)
    · have hV : digV s = (0, 31) := if_neg h16
      rw [hV] at hQ
      repeat' (first
    | (with_reducible refine run_n ?_; with_reducible first | refine hK _ _ (by simp) ?_ | refine hK _ _ ?_; clear hK K)
    | (with_reducible first | refine awp_seq ?_ | refine then_n ?_ | refine then_r ?_ | refine then_e ?_ | refine awp_skip ?_ | refine awp_label ?_ | refine awp_ret ?_ | refine awp_exit ?_ | refine awp_block ?_ | refine awp_scope ?_ | refine in_n ?_ | refine in_r ?_ | refine in_e ?_ | refine in_ne (by decide) ?_ | refine ng_n ?_ | refine ng_r ?_ | refine ng_e ?_)
    | (with_reducible refine awp_regT (by kernel_rfl) ?_; intro K hK)
    | (with_reducible refine awp_regAM (id := 9) [] mixed (by kernel_rfl) (by kernel_rfl) ?_; intro K hK)
    | (with_reducible refine a_cond (ht := ?_) (hf := ?_) <;> intro hb <;> (try simp at hb) <;> (try contradiction) <;> (try subst hb) <;> (try omega))
    | (with_reducible first | refine a_move (hr := ?_) | refine a_assign (hr := ?_) | refine a_bin (hr := ?_) | refine a_lenS (hr := ?_) | refine a_lenR (hr := ?_) | refine a_eqB (hr := ?_) | refine a_neB (hr := ?_) | refine a_eqS (hr := ?_) | refine a_neS (hr := ?_) | refine a_index (hr := ?_))
    | fail)
      (refine hQ _ _ _ _ (by first | exact .inr rfl | exact .inl rfl) (by simp; exact .r) (by simp; exact .r) ?_)
      exact Fin.drop (by simp; exact .r) (by simp)
theorem c_rparts (k : Int) : CallD Try.prog 60 [.raw (.int .u8 k)] noHeap (.tup [.sl 1 (i64s (codes k)), .raw (.bool (lay k).2)]) noHeap := by
  refine calls_go (nt := 40) (rs := [.tmp 2, .tmp 3]) Try.func60 rfl rfl rfl (by simp) (by intro id h; simp at h <;> omega) ?_; intro Q hQ hW
  repeat' (first
    | (with_reducible refine run_n ?_; with_reducible first | refine hK _ _ (by simp) ?_ | refine hK _ _ ?_; clear hK K)
    | (with_reducible first | refine awp_seq ?_ | refine then_n ?_ | refine then_r ?_ | refine then_e ?_ | refine awp_skip ?_ | refine awp_label ?_ | refine awp_ret ?_ | refine awp_exit ?_ | refine awp_block ?_ | refine awp_scope ?_ | refine in_n ?_ | refine in_r ?_ | refine in_e ?_ | refine in_ne (by decide) ?_ | refine ng_n ?_ | refine ng_r ?_ | refine ng_e ?_)
    | (with_reducible refine awp_regT (by kernel_rfl) ?_; intro K hK)
    | (with_reducible refine a_cond (ht := ?_) (hf := ?_) <;> intro hb <;> (try simp at hb) <;> (try contradiction) <;> (try subst hb) <;> (try omega))
    | (with_reducible first | refine a_move (hr := ?_) | refine a_assign (hr := ?_) | refine a_bin (hr := ?_) | refine a_eqB (hr := ?_) | refine a_eqS (hr := ?_) | refine a_buildSlice (hr := ?_))
    | fail)
  all_goals (try (refine hQ _ _ _ _ (by first | exact .inr rfl | exact .inl rfl) (by simp; exact .r) (by simp; exact .r) ?_))
  all_goals first
    | exact (Fin.drop (by simp; exact .r) (by simp)).trans Fin.tupNil
    | exact Fin.frzR (by simp; exact .r) (by simp; exact .r) (by simp; exact .r) (by simp)
    | (have e : lay k = (⟨#[]⟩, false) := by simp [lay, *]
       have e2 : codes k = [] := by unfold codes; rw [e]; rfl
       rw [e, e2]
       exact (Fin.drop (by simp; exact .r) (by simp)).trans Fin.tupNil)
theorem c_rget (r : RefV) (c : Int) (hr : r.ok) : CallD Try.prog 98 [r.av, .raw (.int .i64 c)] noHeap (.raw (.string (getP r c))) noHeap := by
  obtain ⟨⟨h1, h1'⟩, ⟨h2, h2'⟩, ⟨h3, h3'⟩⟩ := hr
  obtain ⟨k, n, y, d, i, t, o, a⟩ := r
  simp only at h1 h2 h3 h1' h2' h3'
  refine calls_go (nt := 35) (rs := [.tmp 4]) Try.func98 rfl rfl rfl (by simp) (by intro id h; simp at h <;> omega) ?_; intro Q hQ hW
  repeat' (first
    | (with_reducible refine run_n ?_; with_reducible first | refine hK _ _ (by simp) ?_ | refine hK _ _ ?_; clear hK K)
    | (with_reducible first | refine awp_seq ?_ | refine then_n ?_ | refine then_r ?_ | refine then_e ?_ | refine awp_skip ?_ | refine awp_label ?_ | refine awp_ret ?_ | refine awp_exit ?_ | refine awp_block ?_ | refine awp_scope ?_ | refine in_n ?_ | refine in_r ?_ | refine in_e ?_ | refine in_ne (by decide) ?_ | refine ng_n ?_ | refine ng_r ?_ | refine ng_e ?_)
    | (with_reducible refine awp_regT (by kernel_rfl) ?_; intro K hK)
    | (with_reducible refine a_cond (ht := ?_) (hf := ?_) <;> intro hb <;> (try simp at hb) <;> (try contradiction) <;> (try subst hb) <;> (try omega))
    | (with_reducible first | refine a_move (hr := ?_) | refine a_assign (hr := ?_) | refine a_load (hr := ?_) | refine a_fieldAddr (hr := ?_) | refine a_bin (hr := ?_) | refine a_box (hr := ?_) | refine a_eqB (hr := ?_) | refine a_eqS (hr := ?_) | refine a_call0 (hcall := c_rNumber _ h1 h1') (hr := ?_) | refine a_call0 (hcall := c_rNumber _ h2 h2') (hr := ?_) | refine a_call0 (hcall := c_rNumber _ h3 h3') (hr := ?_))
    | fail)
  all_goals (try (refine hQ _ _ _ _ (by first | exact .inr rfl | exact .inl rfl) (by simp; exact .r) (by simp; exact .r) ?_))
  all_goals (simp [getP, *, -nums_eq]; exact Fin.drop (by simp; exact .r) (by simp))
theorem c_rset (r : RefV) (c : Int) (s : ByteArray) (hs : s.size < 9223372036854775808) (h0 : 0 ≤ c) (h1 : c ≤ 6) : CallD Try.prog 61 [r.av, .raw (.int .i64 c), .raw (.string s)] noHeap (.tup [(setP r c s).1.av, .raw (.bool (setP r c s).2)]) noHeap := by
  have hD := c_rDigits s hs
  generalize hdv : digV s = dv at hD
  obtain ⟨v, ev⟩ := dv
  simp only at hD
  obtain ⟨k, n, y, d, i, t, o, a⟩ := r
  by_cases hev : ev = 0
  · subst hev
    refine calls_go (nt := 52) (rs := [.cell 6 27, .tmp 7]) Try.func61 rfl rfl rfl (by simp) (by intro id h; simp at h <;> omega) ?_; intro Q hQ hW
    repeat' (first
    | (with_reducible refine run_n ?_; with_reducible first | refine hK _ _ (by simp) ?_ | refine hK _ _ ?_; clear hK K)
    | (with_reducible first | refine awp_seq ?_ | refine then_n ?_ | refine then_r ?_ | refine then_e ?_ | refine awp_skip ?_ | refine awp_label ?_ | refine awp_ret ?_ | refine awp_exit ?_ | refine awp_block ?_ | refine awp_scope ?_ | refine in_n ?_ | refine in_r ?_ | refine in_e ?_ | refine in_ne (by decide) ?_ | refine ng_n ?_ | refine ng_r ?_ | refine ng_e ?_)
    | (with_reducible refine awp_regT (by kernel_rfl) ?_; intro K hK)
    | (with_reducible refine a_cond (ht := ?_) (hf := ?_) <;> intro hb <;> (try simp at hb) <;> (try contradiction) <;> (try subst hb) <;> (try omega))
    | (with_reducible first | refine a_move (hr := ?_) | refine a_assign (hr := ?_) | refine a_load (hr := ?_) | refine a_fieldAddr (hr := ?_) | refine a_bin (hr := ?_) | refine a_extract (hr := ?_) | refine a_store (hr := ?_) | refine a_box (hr := ?_) | refine a_alloc (hr := ?_) | refine a_eqB (hr := ?_) | refine a_neB (hr := ?_) | refine a_eqS (hr := ?_) | refine a_neS (hr := ?_) | refine a_call0 (hcall := hD) (hr := ?_))
    | fail)
    all_goals (try (refine hQ _ _ _ _ (by first | exact .inr rfl | exact .inl rfl) (by simp; exact .r) (by simp; exact .r) ?_))
    all_goals (first | omega | (simp [setP, hdv, *]; exact Fin.drop (by simp; exact .r) (by simp)))
  · have e : 4 ≤ c → setP ⟨k, n, y, d, i, t, o, a⟩ c s = (⟨k, n, y, d, i, t, o, a⟩, false) := fun h => by
      unfold setP
      rw [if_neg (by omega), if_neg (by omega), if_neg (by omega), if_neg (by omega), hdv, if_pos hev]
    refine calls_go (nt := 52) (rs := [.cell 6 27, .tmp 7]) Try.func61 rfl rfl rfl (by simp) (by intro id h; simp at h <;> omega) ?_; intro Q hQ hW
    repeat' (first
    | (with_reducible refine run_n ?_; with_reducible first | refine hK _ _ (by simp) ?_ | refine hK _ _ ?_; clear hK K)
    | (with_reducible first | refine awp_seq ?_ | refine then_n ?_ | refine then_r ?_ | refine then_e ?_ | refine awp_skip ?_ | refine awp_label ?_ | refine awp_ret ?_ | refine awp_exit ?_ | refine awp_block ?_ | refine awp_scope ?_ | refine in_n ?_ | refine in_r ?_ | refine in_e ?_ | refine in_ne (by decide) ?_ | refine ng_n ?_ | refine ng_r ?_ | refine ng_e ?_)
    | (with_reducible refine awp_regT (by kernel_rfl) ?_; intro K hK)
    | (with_reducible refine a_cond (ht := ?_) (hf := ?_) <;> intro hb <;> (try simp at hb) <;> (try contradiction) <;> (try subst hb) <;> (try omega))
    | (with_reducible first | refine a_move (hr := ?_) | refine a_assign (hr := ?_) | refine a_load (hr := ?_) | refine a_fieldAddr (hr := ?_) | refine a_bin (hr := ?_) | refine a_extract (hr := ?_) | refine a_store (hr := ?_) | refine a_box (hr := ?_) | refine a_alloc (hr := ?_) | refine a_eqB (hr := ?_) | refine a_neB (hr := ?_) | refine a_eqS (hr := ?_) | refine a_neS (hr := ?_) | refine a_call0 (hcall := hD) (hr := ?_))
    | fail)
    all_goals (try (refine hQ _ _ _ _ (by first | exact .inr rfl | exact .inl rfl) (by simp; exact .r) (by simp; exact .r) ?_))
    all_goals (first | omega | (rw [e (by omega)]; exact Fin.drop (by simp; exact .r) (by simp)) | (simp [setP, hdv, *]; exact Fin.drop (by simp; exact .r) (by simp)))
theorem codes_range (k : Int) : ∀ c ∈ codes k, 0 ≤ c ∧ c ≤ 6 := by
  intro c hc
  obtain ⟨b, _, rfl⟩ := List.mem_map.1 hc
  exact code_range b
theorem codes_len (k : Int) : (codes k).length ≤ 5 := by simp only [codes, List.length_map, len_bytes]; exact lay_size k
theorem c_rtexts (r : RefV) (hr : r.ok) : CallD Try.prog 57 [r.av] noHeap (.tup [.sl 1 (strs (textsP r)), .raw (.bool (lay r.k).2)]) noHeap := by
  have hp := c_rparts r.k
  have hl := codes_len r.k
  have hg := fun c => c_rget r c hr
  have ht : textsP r = (codes r.k).map (getP r) := rfl
  rw [ht]
  generalize codes r.k = cs at hp hl ⊢
  generalize (lay r.k).2 = is at hp ⊢
  generalize hgr : getP r = g at hg ⊢
  have hav : r.av = refAV r.k r.n r.y r.d r.i r.t r.o r.a := rfl
  rw [hav] at hg ⊢
  generalize r.k = k at *
  generalize r.n = n at *
  generalize r.y = y at *
  generalize r.d = d at *
  generalize r.i = ii at *
  generalize r.t = t at *
  generalize r.o = o at *
  generalize r.a = a at *
  clear hr ht hgr hav
  refine calls_go (nt := 30) (rs := [.tmp 2, .tmp 3]) Try.func57 rfl rfl rfl (by simp) (by intro id h; simp at h <;> omega) ?_; intro Q hQ hW
  repeat' (first
    | (with_reducible refine run_n ?_; with_reducible first | refine hK _ _ (by simp) ?_ | refine hK _ _ ?_; clear hK K)
    | (with_reducible first | refine awp_seq ?_ | refine then_n ?_ | refine then_r ?_ | refine then_e ?_ | refine awp_skip ?_ | refine awp_label ?_ | refine awp_ret ?_ | refine awp_exit ?_ | refine awp_block ?_ | refine awp_scope ?_ | refine in_n ?_ | refine in_r ?_ | refine in_e ?_ | refine in_ne (by decide) ?_ | refine ng_n ?_ | refine ng_r ?_ | refine ng_e ?_)
    | (with_reducible refine awp_regT (by kernel_rfl) ?_; intro K hK)
    | (with_reducible refine a_cond (ht := ?_) (hf := ?_) <;> intro hb <;> (try simp at hb) <;> (try contradiction) <;> (try subst hb) <;> (try omega))
    | (with_reducible first | refine a_move (hr := ?_) | refine a_assign (hr := ?_) | refine a_load (hr := ?_) | refine a_fieldAddr (hr := ?_) | refine a_bin (hr := ?_) | refine a_lenS (hr := ?_) | refine a_lenR (hr := ?_) | refine a_extract (hr := ?_) | refine a_box (hr := ?_) | refine a_idxArr (hr := ?_) | refine a_indexAddr (hr := ?_) | refine a_buildSlice (hr := ?_) | refine a_append (hr := ?_) | refine a_append0 (hr := ?_) | refine a_appendX (hr := ?_) | refine a_call0 (hcall := hp) (hr := ?_))
    | fail)
  refine awp_inv (α := Nat) (fun i => [(1, .ptr 1 0), (5, .raw (.bool is)), (6, orow 60 1 (strs ((cs.take i).map g))), (15, .sl 1 (i64s cs)), (16, .raw (.int .i64 cs.length)), (17, .raw (.int .i64 i))]) (fun i => ohp 60 1 (strs ((cs.take i).map g)) (hpL [(1, .box (refAV k n y d ii t o a))]))
    (fun i => i ≤ cs.length) (fun i => cs.length - i) 0 (by simp) (weak_o (by repeat' (first | refine sub_ohp (by first | (simp; done) | (intro hne; simp at hne; simp [hne])) (by simp) ?_ | exact sub_hpL (by simp))) (by simp) (by simp <;> omega)) ?_
  intro i g1
  rcases Nat.lt_or_ge i cs.length with hlt | hge
  · have hx := List.getElem?_eq_getElem hlt
    have htk : (cs.take (i + 1)).map g = (cs.take i).map g ++ [g cs[i]] := by rw [List.take_add_one, hx, List.map_append]; rfl
    generalize cs[i] = c at hx htk
    have hgc := hg c
    have hlen : ((cs.take i).map g).length ≤ 5 := by simp; omega
    generalize (cs.take i).map g = G at htk hlen ⊢
    generalize g c = gc at htk hgc
    repeat' (first
    | (with_reducible refine run_n ?_; with_reducible first | refine hK _ _ (by simp) ?_ | refine hK _ _ ?_; clear hK K)
    | (with_reducible first | refine awp_seq ?_ | refine then_n ?_ | refine then_r ?_ | refine then_e ?_ | refine awp_skip ?_ | refine awp_label ?_ | refine awp_ret ?_ | refine awp_exit ?_ | refine awp_block ?_ | refine awp_scope ?_ | refine in_n ?_ | refine in_r ?_ | refine in_e ?_ | refine in_ne (by decide) ?_ | refine ng_n ?_ | refine ng_r ?_ | refine ng_e ?_)
    | (with_reducible refine awp_regT (by kernel_rfl) ?_; intro K hK)
    | (with_reducible refine a_cond (ht := ?_) (hf := ?_) <;> intro hb <;> (try simp at hb) <;> (try contradiction) <;> (try subst hb) <;> (try omega))
    | (with_reducible first | refine a_move (hr := ?_) | refine a_assign (hr := ?_) | refine a_load (hr := ?_) | refine a_fieldAddr (hr := ?_) | refine a_bin (hr := ?_) | refine a_lenS (hr := ?_) | refine a_lenR (hr := ?_) | refine a_extract (hr := ?_) | refine a_box (hr := ?_) | refine a_idxArr (hr := ?_) | refine a_indexAddr (hr := ?_) | refine a_buildSlice (hr := ?_) | refine a_append (hr := ?_) | refine a_append0 (hr := ?_) | refine a_appendX (hr := ?_) | refine a_call0 (hcall := hgc) (hr := ?_))
    | fail)
    exact ⟨i + 1, by omega, by omega, by rw [htk]; exact weak_or 60 26 (by decide) (by decide) (by repeat' (first | refine sub_ohp (by first | (simp; done) | (intro hne; simp at hne; simp [hne])) (by simp) ?_ | exact sub_hpL (by simp))) (by simp) (by simp <;> omega)⟩
  · obtain rfl : i = cs.length := by omega
    rw [List.take_length]
    by_cases ho : cs = []
    · subst ho
      repeat' (first
    | (with_reducible refine run_n ?_; with_reducible first | refine hK _ _ (by simp) ?_ | refine hK _ _ ?_; clear hK K)
    | (with_reducible first | refine awp_seq ?_ | refine then_n ?_ | refine then_r ?_ | refine then_e ?_ | refine awp_skip ?_ | refine awp_label ?_ | refine awp_ret ?_ | refine awp_exit ?_ | refine awp_block ?_ | refine awp_scope ?_ | refine in_n ?_ | refine in_r ?_ | refine in_e ?_ | refine in_ne (by decide) ?_ | refine ng_n ?_ | refine ng_r ?_ | refine ng_e ?_)
    | (with_reducible refine awp_regT (by kernel_rfl) ?_; intro K hK)
    | (with_reducible refine a_cond (ht := ?_) (hf := ?_) <;> intro hb <;> (try simp at hb) <;> (try contradiction) <;> (try subst hb) <;> (try omega))
    | (with_reducible first | refine a_move (hr := ?_) | refine a_assign (hr := ?_) | refine a_load (hr := ?_) | refine a_fieldAddr (hr := ?_) | refine a_bin (hr := ?_) | refine a_lenS (hr := ?_) | refine a_lenR (hr := ?_) | refine a_extract (hr := ?_) | refine a_box (hr := ?_) | refine a_idxArr (hr := ?_) | refine a_indexAddr (hr := ?_) | refine a_buildSlice (hr := ?_) | refine a_append (hr := ?_) | refine a_append0 (hr := ?_) | refine a_appendX (hr := ?_))
    | fail)
      (refine hQ _ _ _ _ (by first | exact .inr rfl | exact .inl rfl) (by simp; exact .r) (by simp; exact .r) ?_)
      exact (Fin.drop (by simp; exact .r) (by simp)).trans Fin.tupNil
    · have hne : ¬ cs.map g = [] := by simpa using ho
      have hl2 : (cs.map g).length = cs.length := by simp
      generalize cs.map g = G at hne hl2 hQ ⊢
      have h60 : orow 60 1 (strs G) = .ow 60 1 0 G.length := by rw [orow_ne (by simpa using hne)]; simp
      repeat' (first
    | (with_reducible refine run_n ?_; with_reducible first | refine hK _ _ (by simp) ?_ | refine hK _ _ ?_; clear hK K)
    | (with_reducible first | refine awp_seq ?_ | refine then_n ?_ | refine then_r ?_ | refine then_e ?_ | refine awp_skip ?_ | refine awp_label ?_ | refine awp_ret ?_ | refine awp_exit ?_ | refine awp_block ?_ | refine awp_scope ?_ | refine in_n ?_ | refine in_r ?_ | refine in_e ?_ | refine in_ne (by decide) ?_ | refine ng_n ?_ | refine ng_r ?_ | refine ng_e ?_)
    | (with_reducible refine awp_regT (by kernel_rfl) ?_; intro K hK)
    | (with_reducible refine a_cond (ht := ?_) (hf := ?_) <;> intro hb <;> (try simp at hb) <;> (try contradiction) <;> (try subst hb) <;> (try omega))
    | (with_reducible first | refine a_move (hr := ?_) | refine a_assign (hr := ?_) | refine a_load (hr := ?_) | refine a_fieldAddr (hr := ?_) | refine a_bin (hr := ?_) | refine a_lenS (hr := ?_) | refine a_lenR (hr := ?_) | refine a_extract (hr := ?_) | refine a_box (hr := ?_) | refine a_idxArr (hr := ?_) | refine a_indexAddr (hr := ?_) | refine a_buildSlice (hr := ?_) | refine a_append (hr := ?_) | refine a_append0 (hr := ?_) | refine a_appendX (hr := ?_))
    | fail)
      (refine hQ _ _ _ _ (by first | exact .inr rfl | exact .inl rfl) (by simp; exact .r) (by simp; exact .r) ?_)
      rw [h60]
      exact Fin.frzR (by simp [hne]; exact .r) (by simp [hne, List.take_of_length_le]; exact .r) (by simp; exact .r) (by simp)
def bareL : List Int → RefV → RefV → RefV
  | [], _, x => x
  | c :: cs, r, x => bareL cs r (setP x c (getP r c)).1
theorem bareL_eq (cs : List Int) (r x : RefV) : cs.foldl (fun x c => (setP x c (getP r c)).1) x = bareL cs r x := by
  induction cs generalizing x with
  | nil => rfl
  | cons c cs ih => exact ih _
theorem getP_size (r : RefV) (c : Int) (h : r.short) : (getP r c).size ≤ 1000 := by
  obtain ⟨_, h1, h2, h3, h4, _⟩ := h
  have z : ∀ x, (strOfNums (hexs x)).size = 16 := fun x => by rw [size_of_nums, hexs_len]
  unfold getP
  repeat' split
  all_goals first | omega | (rw [z]; omega)
theorem c_rbare (r : RefV) (hr : r.short) : CallD Try.prog 58 [r.av] noHeap (bareP r).av noHeap := by
  have hp := c_rparts r.k
  have hl := codes_len r.k
  have hcr := codes_range r.k
  have hg := fun c => c_rget r c hr.1
  have hgs := fun c => getP_size r c hr
  have hb : bareP r = bareL (codes r.k) r (.of r.k) := bareL_eq _ _ _
  rw [hb]
  generalize codes r.k = cs at hp hl hcr ⊢
  generalize (lay r.k).2 = is at hp
  have hav : r.av = refAV r.k r.n r.y r.d r.i r.t r.o r.a := rfl
  have hbl : ∀ c l x, bareL (c :: l) r x = bareL l r (setP x c (getP r c)).1 := fun _ _ _ => rfl
  have hbn : ∀ x, bareL [] r x = x := fun _ => rfl
  generalize bareL = BL at hbl hbn ⊢
  generalize getP r = g at hg hgs hbl
  rw [hav] at hg ⊢
  clear hr hav
  generalize hk : r.k = k at *
  generalize r.n = n at *
  generalize r.y = y at *
  generalize r.d = d at *
  generalize r.i = ii at *
  generalize r.t = t at *
  generalize r.o = o at *
  generalize r.a = a at *
  refine calls_go (nt := 34) (rs := [.cell 2 27]) Try.func58 rfl rfl rfl (by simp) (by intro id h; simp at h <;> omega) ?_; intro Q hQ hW
  repeat' (first
    | (with_reducible refine run_n ?_; with_reducible first | refine hK _ _ (by simp) ?_ | refine hK _ _ ?_; clear hK K)
    | (with_reducible first | refine awp_seq ?_ | refine then_n ?_ | refine then_r ?_ | refine then_e ?_ | refine awp_skip ?_ | refine awp_label ?_ | refine awp_ret ?_ | refine awp_exit ?_ | refine awp_block ?_ | refine awp_scope ?_ | refine in_n ?_ | refine in_r ?_ | refine in_e ?_ | refine in_ne (by decide) ?_ | refine ng_n ?_ | refine ng_r ?_ | refine ng_e ?_)
    | (with_reducible refine awp_regT (by kernel_rfl) ?_; intro K hK)
    | (with_reducible refine awp_regAM (id := 6) [(1, some 1), (3, some 3)] mixed (by kernel_rfl) (by kernel_rfl) ?_; intro K hK)
    | (with_reducible refine a_cond (ht := ?_) (hf := ?_) <;> intro hb <;> (try simp at hb) <;> (try contradiction) <;> (try subst hb) <;> (try omega))
    | (with_reducible first | refine a_move (hr := ?_) | refine a_assign (hr := ?_) | refine a_load (hr := ?_) | refine a_fieldAddr (hr := ?_) | refine a_bin (hr := ?_) | refine a_lenS (hr := ?_) | refine a_lenR (hr := ?_) | refine a_extract (hr := ?_) | refine a_store (hr := ?_) | refine a_box (hr := ?_) | refine a_alloc (hr := ?_) | refine a_idxArr (hr := ?_) | refine a_indexAddr (hr := ?_) | refine a_build (hr := ?_) | refine a_call0 (hcall := hp) (hr := ?_))
    | fail)
  refine awp_inv (α := Nat × RefV) (fun p => [(1, .ptr 1 0), (2, .ptr 2 0), (3, .ptr 3 0), (17, .sl 1 (i64s cs)), (18, .raw (.int .i64 cs.length)), (19, .raw (.int .i64 p.1))]) (fun p => hpL [(1, .box (refAV k n y d ii t o a)), (2, .box RefV.zero.av), (3, .box p.2.av)])
    (fun p => p.1 ≤ cs.length ∧ BL (cs.drop p.1) r p.2 = BL cs r (.of k)) (fun p => cs.length - p.1) (0, .of k) ⟨by simp, by simp⟩ (weak_o (by repeat' (first | refine sub_ohp (by first | (simp; done) | (intro hne; simp at hne; simp [hne])) (by simp) ?_ | exact sub_hpL (by simp))) (by simp) (by simp <;> omega)) ?_
  rintro ⟨i, x⟩ ⟨g1, g2⟩
  simp only at g1 g2 ⊢
  rcases Nat.lt_or_ge i cs.length with hlt | hge
  · have hx := List.getElem?_eq_getElem hlt
    rw [List.drop_eq_getElem_cons hlt, hbl] at g2
    have hcc := hcr cs[i] (List.getElem_mem hlt)
    generalize cs[i] = c at hx g2 hcc
    have hgc := hg c
    have hgz := hgs c
    generalize g c = gc at g2 hgc hgz
    have hs := c_rset x c gc (by omega) hcc.1 hcc.2
    generalize setP x c gc = sp at hs g2
    repeat' (first
    | (with_reducible refine run_n ?_; with_reducible first | refine hK _ _ (by simp) ?_ | refine hK _ _ ?_; clear hK K)
    | (with_reducible first | refine awp_seq ?_ | refine then_n ?_ | refine then_r ?_ | refine then_e ?_ | refine awp_skip ?_ | refine awp_label ?_ | refine awp_ret ?_ | refine awp_exit ?_ | refine awp_block ?_ | refine awp_scope ?_ | refine in_n ?_ | refine in_r ?_ | refine in_e ?_ | refine in_ne (by decide) ?_ | refine ng_n ?_ | refine ng_r ?_ | refine ng_e ?_)
    | (with_reducible refine awp_regT (by kernel_rfl) ?_; intro K hK)
    | (with_reducible refine awp_regAM (id := 6) [(1, some 1), (3, some 3)] mixed (by kernel_rfl) (by kernel_rfl) ?_; intro K hK)
    | (with_reducible refine a_cond (ht := ?_) (hf := ?_) <;> intro hb <;> (try simp at hb) <;> (try contradiction) <;> (try subst hb) <;> (try omega))
    | (with_reducible first | refine a_move (hr := ?_) | refine a_assign (hr := ?_) | refine a_load (hr := ?_) | refine a_fieldAddr (hr := ?_) | refine a_bin (hr := ?_) | refine a_lenS (hr := ?_) | refine a_lenR (hr := ?_) | refine a_extract (hr := ?_) | refine a_store (hr := ?_) | refine a_box (hr := ?_) | refine a_alloc (hr := ?_) | refine a_idxArr (hr := ?_) | refine a_indexAddr (hr := ?_) | refine a_build (hr := ?_) | refine a_call0 (hcall := hgc) (hr := ?_) | refine a_call0 (hcall := hs) (hr := ?_))
    | fail)
    exact ⟨(i + 1, sp.1), by simp only; omega, ⟨by simp only; omega, g2⟩, weak_o (by repeat' (first | refine sub_ohp (by first | (simp; done) | (intro hne; simp at hne; simp [hne])) (by simp) ?_ | exact sub_hpL (by simp))) (by simp) (by simp <;> omega)⟩
  · obtain rfl : i = cs.length := by omega
    rw [List.drop_of_length_le (by omega), hbn] at g2
    rw [← g2] at hQ
    repeat' (first
    | (with_reducible refine run_n ?_; with_reducible first | refine hK _ _ (by simp) ?_ | refine hK _ _ ?_; clear hK K)
    | (with_reducible first | refine awp_seq ?_ | refine then_n ?_ | refine then_r ?_ | refine then_e ?_ | refine awp_skip ?_ | refine awp_label ?_ | refine awp_ret ?_ | refine awp_exit ?_ | refine awp_block ?_ | refine awp_scope ?_ | refine in_n ?_ | refine in_r ?_ | refine in_e ?_ | refine in_ne (by decide) ?_ | refine ng_n ?_ | refine ng_r ?_ | refine ng_e ?_)
    | (with_reducible refine awp_regT (by kernel_rfl) ?_; intro K hK)
    | (with_reducible refine awp_regAM (id := 6) [(1, some 1), (3, some 3)] mixed (by kernel_rfl) (by kernel_rfl) ?_; intro K hK)
    | (with_reducible refine a_cond (ht := ?_) (hf := ?_) <;> intro hb <;> (try simp at hb) <;> (try contradiction) <;> (try subst hb) <;> (try omega))
    | (with_reducible first | refine a_move (hr := ?_) | refine a_assign (hr := ?_) | refine a_load (hr := ?_) | refine a_fieldAddr (hr := ?_) | refine a_bin (hr := ?_) | refine a_lenS (hr := ?_) | refine a_lenR (hr := ?_) | refine a_extract (hr := ?_) | refine a_store (hr := ?_) | refine a_box (hr := ?_) | refine a_alloc (hr := ?_) | refine a_idxArr (hr := ?_) | refine a_indexAddr (hr := ?_) | refine a_build (hr := ?_))
    | fail)
    (refine hQ _ _ _ _ (by first | exact .inr rfl | exact .inl rfl) (by simp; exact .r) (by simp; exact .r) ?_)
    exact Fin.drop (by simp; exact .r) (by simp)
end Go.Proofs.Ytdbdajmgfajcpaa.Asl
