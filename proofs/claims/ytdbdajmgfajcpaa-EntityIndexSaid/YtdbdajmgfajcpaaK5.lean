/- Keys as the document has them: numbers, names. -/
import Derived.Test.YtdbdajmgfajcpaaK4
namespace Go.Proofs.Ytdbdajmgfajcpaa.Asl
open Go Go.RowKit
set_option linter.unusedVariables false
set_option linter.unusedSimpArgs false
set_option maxRecDepth 100000
set_option maxHeartbeats 1000000
theorem hex_cut (d : Int) (h0 : 0 ≤ d) (h1 : d < 16) : (⟨#[48, 49, 50, 51, 52, 53, 54, 55, 56, 57, 97, 98, 99, 100, 101, 102]⟩ : ByteArray).extract d.toNat (d + 1).toNat = strOfNums [dg d] := by
  have := hexS_cut ⟨d.toNat, by omega⟩
  simp only at this
  rw [show ((d.toNat : Nat) : Int) = d by omega] at this
  apply bytes_inj
  have hB : IsB [dg d] := isB_cons.2 ⟨by have := dg_bound h0 h1; omega, isB_nil⟩
  rw [bytes_of_nums hB, ← this, show (d + 1).toNat = d.toNat + 1 by omega]
  rfl
theorem c_rNumber (n : Int) (h0 : 0 ≤ n) (h1 : n < 18446744073709551616) : CallD Try.prog 114 [.raw (.int .u64 n)] noHeap (.raw (.string (strOfNums (hexs n)))) noHeap := by
  refine calls_go (nt := 19) (rs := [.tmp 2]) Try.func114 rfl rfl rfl (by simp) (by intro id h; simp at h <;> omega) ?_; intro Q hQ hW
  repeat' (first
    | (with_reducible refine run_n ?_; with_reducible first | refine hK _ _ (by simp) ?_ | refine hK _ _ ?_; clear hK K)
    | (with_reducible first | refine awp_seq ?_ | refine then_n ?_ | refine then_r ?_ | refine then_e ?_ | refine awp_skip ?_ | refine awp_label ?_ | refine awp_ret ?_ | refine awp_exit ?_ | refine awp_block ?_ | refine awp_scope ?_ | refine in_n ?_ | refine in_r ?_ | refine in_e ?_ | refine in_ne (by decide) ?_ | refine ng_n ?_ | refine ng_r ?_ | refine ng_e ?_)
    | (with_reducible refine awp_regT (by kernel_rfl) ?_; intro K hK)
    | (with_reducible refine a_cond (ht := ?_) (hf := ?_) <;> intro hb <;> (try simp at hb) <;> (try contradiction) <;> (try subst hb) <;> (try omega))
    | (with_reducible first | refine a_move (hr := ?_) | refine a_assign (hr := ?_) | refine a_remU (hr := ?_) | refine a_quoU (hr := ?_) | refine a_bin (hr := ?_) | refine a_sliceArr (hr := ?_) | refine a_sliceS (hr := ?_) | refine a_sliceR (hr := ?_))
    | fail)
  refine awp_inv (α := Nat × Int × List Int) (fun p => [(0, .raw (.int .u64 p.2.1)), (3, .raw (.string (strOfNums p.2.2))), (5, .raw (.int .i64 p.1))]) (fun p => hpL [])
    (fun p => p.1 ≤ 16 ∧ 0 ≤ p.2.1 ∧ p.2.1 < 18446744073709551616 ∧ IsB p.2.2 ∧ p.2.2.length = p.1 ∧ hxd p.2.1 (16 - p.1) ++ p.2.2 = hexs n) (fun p => 16 - p.1) (0, n, []) ⟨by simp, h0, h1, isB_nil, rfl, by simp [hexs_eq]⟩ (weak_o (by repeat' (first | exact sub_hpL (by simp))) (by simp) (by simp [strOfNums, -nums_eq])) ?_
  rintro ⟨i, m, S⟩ ⟨g1, g2, g3, g4, g5, g6⟩
  simp only at g1 g2 g3 g4 g5 g6 ⊢
  rw [← g6] at hQ
  rcases Nat.lt_or_ge i 16 with hlt | hge
  · have hd0 : 0 ≤ m % 16 := by omega
    have hd1 : m % 16 < 16 := by omega
    have hcut := hex_cut (m % 16) hd0 hd1
    have hB : IsB [dg (m % 16)] := isB_cons.2 ⟨by have := dg_bound hd0 hd1; omega, isB_nil⟩
    have happ := nums_app hB g4
    have hz1 := size_of_nums S
    have hz2 := size_of_nums [dg (m % 16)]
    rw [List.length_singleton] at hz2
    rw [show 16 - i = (16 - (i + 1)) + 1 by omega] at g6 hQ
    simp only [hxd, List.append_assoc] at g6 hQ
    have hsz : ((⟨#[48, 49, 50, 51, 52, 53, 54, 55, 56, 57, 97, 98, 99, 100, 101, 102]⟩ : ByteArray).extract (m % 16).toNat (m % 16 + 1).toNat).size = 1 := by rw [hcut, hz2]
    repeat' (first
    | (with_reducible refine run_n ?_; with_reducible first | refine hK _ _ (by simp) ?_ | refine hK _ _ ?_; clear hK K)
    | (with_reducible first | refine awp_seq ?_ | refine then_n ?_ | refine then_r ?_ | refine then_e ?_ | refine awp_skip ?_ | refine awp_label ?_ | refine awp_ret ?_ | refine awp_exit ?_ | refine awp_block ?_ | refine awp_scope ?_ | refine in_n ?_ | refine in_r ?_ | refine in_e ?_ | refine in_ne (by decide) ?_ | refine ng_n ?_ | refine ng_r ?_ | refine ng_e ?_)
    | (with_reducible refine awp_regT (by kernel_rfl) ?_; intro K hK)
    | (with_reducible refine a_cond (ht := ?_) (hf := ?_) <;> intro hb <;> (try simp at hb) <;> (try contradiction) <;> (try subst hb) <;> (try omega))
    | (with_reducible first | refine a_move (hr := ?_) | refine a_assign (hr := ?_) | refine a_remU (hr := ?_) | refine a_quoU (hr := ?_) | refine a_bin (hr := ?_) | refine a_sliceArr (hr := ?_) | refine a_sliceS (hr := ?_) | refine a_sliceR (hr := ?_))
    | fail)
    exact ⟨(i + 1, m / 16, [dg (m % 16)] ++ S), by simp only; omega, ⟨by simp only; omega, by simp only; omega, by simp only; omega, isB_app.2 ⟨hB, g4⟩, by simp [g5], g6⟩, weak_o (by repeat' (first | exact sub_hpL (by simp))) (by simp) (by simp [hcut, -nums_eq]; simpa using happ)⟩
  · obtain rfl : i = 16 := by omega
    simp only [Nat.sub_self, hxd, List.nil_append] at hQ
    repeat' (first
    | (with_reducible refine run_n ?_; with_reducible first | refine hK _ _ (by simp) ?_ | refine hK _ _ ?_; clear hK K)
    | (with_reducible first | refine awp_seq ?_ | refine then_n ?_ | refine then_r ?_ | refine then_e ?_ | refine awp_skip ?_ | refine awp_label ?_ | refine awp_ret ?_ | refine awp_exit ?_ | refine awp_block ?_ | refine awp_scope ?_ | refine in_n ?_ | refine in_r ?_ | refine in_e ?_ | refine in_ne (by decide) ?_ | refine ng_n ?_ | refine ng_r ?_ | refine ng_e ?_)
    | (with_reducible refine awp_regT (by kernel_rfl) ?_; intro K hK)
    | (with_reducible refine a_cond (ht := ?_) (hf := ?_) <;> intro hb <;> (try simp at hb) <;> (try contradiction) <;> (try subst hb) <;> (try omega))
    | (with_reducible first | refine a_move (hr := ?_) | refine a_assign (hr := ?_) | refine a_remU (hr := ?_) | refine a_quoU (hr := ?_) | refine a_bin (hr := ?_) | refine a_sliceArr (hr := ?_) | refine a_sliceS (hr := ?_) | refine a_sliceR (hr := ?_))
    | fail)
    (refine hQ _ _ _ _ (by first | exact .inr rfl | exact .inl rfl) (by simp; exact .r) (by simp; exact .r) ?_)
    exact Fin.drop (by simp; exact .r) (by simp)
end Go.Proofs.Ytdbdajmgfajcpaa.Asl
