/- Keys as the document has them. -/
import Derived.Test.YtdbdajmgfajcpaaK2
namespace Go.Proofs.Ytdbdajmgfajcpaa.Asl
open Go Go.RowKit
set_option linter.unusedVariables false
set_option linter.unusedSimpArgs false
set_option maxRecDepth 100000
set_option maxHeartbeats 1000000
def fsR (o : Option (List Int × List Int)) : ByteArray × ByteArray × Bool := match o with | some (p, r) => (strOfNums p, strOfNums r, true) | none => (⟨#[]⟩, ⟨#[]⟩, false)
def fsAV (o : Option (List Int × List Int)) : AV := .tup [.raw (.string (fsR o).1), .raw (.string (fsR o).2.1), .raw (.bool (fsR o).2.2)]
theorem extract_drop (s : ByteArray) (i : Nat) : s.extract i s.size = strOfNums ((bytesOf s).drop i) := by
  apply bytes_inj
  rw [bytes_extract, bytes_of_nums (isB_drop (isB_bytes s) _), List.take_of_length_le (by rw [List.length_drop, len_bytes]; omega)]
theorem c_rfirst (s : ByteArray) (hs : s.size ≤ 1000000) : CallD Try.prog 48 [.raw (.string s)] noHeap (fsAV (fs (bytesOf s) [])) noHeap := by
  refine calls_go (nt := 46) (rs := [.tmp 2, .tmp 3, .tmp 4]) Try.func48 rfl rfl rfl (by simp) (by intro id h; simp at h <;> omega) ?_; intro Q hQ hW
  repeat' (first
    | (with_reducible refine run_n ?_; with_reducible first | refine hK _ _ (by simp) ?_ | refine hK _ _ ?_; clear hK K)
    | (with_reducible first | refine awp_seq ?_ | refine then_n ?_ | refine then_r ?_ | refine then_e ?_ | refine awp_skip ?_ | refine awp_label ?_ | refine awp_ret ?_ | refine awp_exit ?_ | refine awp_block ?_ | refine awp_scope ?_ | refine in_n ?_ | refine in_r ?_ | refine in_e ?_ | refine in_ne (by decide) ?_ | refine ng_n ?_ | refine ng_r ?_ | refine ng_e ?_)
    | (with_reducible refine awp_regT (by kernel_rfl) ?_; intro K hK)
    | (with_reducible refine awp_regAM (id := 8) [] mixed (by kernel_rfl) (by kernel_rfl) ?_; intro K hK)
    | (with_reducible refine a_cond (ht := ?_) (hf := ?_) <;> intro hb <;> (try simp at hb) <;> (try contradiction) <;> (try subst hb) <;> (try omega))
    | (with_reducible first | refine a_move (hr := ?_) | refine a_assign (hr := ?_) | refine a_bin (hr := ?_) | refine a_lenS (hr := ?_) | refine a_lenR (hr := ?_) | refine a_eqB (hr := ?_) | refine a_neB (hr := ?_) | refine a_conv (hr := ?_) | refine a_bytesStr (hr := ?_) | refine a_strBytes (hr := ?_) | refine a_sliceArr (hr := ?_) | refine a_eqS (hr := ?_) | refine a_neS (hr := ?_) | refine a_index (hr := ?_) | refine a_sliceS (hr := ?_) | refine a_sliceR (hr := ?_) | refine a_buildSlice (hr := ?_) | refine a_append (hr := ?_) | refine a_append0 (hr := ?_) | refine a_appendX (hr := ?_))
    | fail)
  refine awp_inv (α := Nat × List Int) (fun p => [(0, .raw (.string s)), (5, .ow 60 1 0 p.2.length), (6, .raw (.int .i64 p.1))]) (fun p => hpL [(60, .arr 1 (u8s p.2))])
    (fun p => p.2.length ≤ p.1 ∧ p.1 ≤ s.size + 2 ∧ fs ((bytesOf s).drop p.1) p.2 = fs (bytesOf s) []) (fun p => s.size + 2 - p.1) (0, []) ⟨by simp, by simp, by simp⟩ (weak_or 60 7 (by decide) (by decide) (by repeat' (first | refine sub_ohp (by first | (simp; done) | (intro hne; simp at hne; simp [hne])) (by simp) ?_ | exact sub_hpL (by simp))) (by simp) (by simp <;> omega)) ?_
  rintro ⟨i, now⟩ ⟨g1, g2, g3⟩
  simp only at g1 g2 g3 ⊢
  rw [← g3] at hQ
  rcases Nat.lt_or_ge (i + 1) s.size with hlt | hge
  · have hd := drop_byte s i (by omega)
    have hd2 : (bytesOf s).drop (i + 1) = byteAt s ((i : Int) + 1) :: (bytesOf s).drop (i + 2) := drop_byte s (i + 1) hlt
    rw [hd] at g3 hQ
    by_cases hz : byteAt s (i : Int) = 0
    · rw [hz, hd2, fs_zero] at g3 hQ
      by_cases h1 : byteAt s ((i : Int) + 1) = 1
      · rw [if_pos h1] at g3 hQ
        have he := extract_drop s (i + 2)
        repeat' (first
    | (with_reducible refine run_n ?_; with_reducible first | refine hK _ _ (by simp) ?_ | refine hK _ _ ?_; clear hK K)
    | (with_reducible first | refine awp_seq ?_ | refine then_n ?_ | refine then_r ?_ | refine then_e ?_ | refine awp_skip ?_ | refine awp_label ?_ | refine awp_ret ?_ | refine awp_exit ?_ | refine awp_block ?_ | refine awp_scope ?_ | refine in_n ?_ | refine in_r ?_ | refine in_e ?_ | refine in_ne (by decide) ?_ | refine ng_n ?_ | refine ng_r ?_ | refine ng_e ?_)
    | (with_reducible refine awp_regT (by kernel_rfl) ?_; intro K hK)
    | (with_reducible refine awp_regAM (id := 8) [] mixed (by kernel_rfl) (by kernel_rfl) ?_; intro K hK)
    | (with_reducible refine a_cond (ht := ?_) (hf := ?_) <;> intro hb <;> (try simp at hb) <;> (try contradiction) <;> (try subst hb) <;> (try omega))
    | (with_reducible first | refine a_move (hr := ?_) | refine a_assign (hr := ?_) | refine a_bin (hr := ?_) | refine a_lenS (hr := ?_) | refine a_lenR (hr := ?_) | refine a_eqB (hr := ?_) | refine a_neB (hr := ?_) | refine a_conv (hr := ?_) | refine a_bytesStr (hr := ?_) | refine a_strBytes (hr := ?_) | refine a_sliceArr (hr := ?_) | refine a_eqS (hr := ?_) | refine a_neS (hr := ?_) | refine a_index (hr := ?_) | refine a_sliceS (hr := ?_) | refine a_sliceR (hr := ?_) | refine a_buildSlice (hr := ?_) | refine a_append (hr := ?_) | refine a_append0 (hr := ?_) | refine a_appendX (hr := ?_))
    | fail)
        (refine hQ _ _ _ _ (by first | exact .inr rfl | exact .inl rfl) (by simp; exact .r) (by simp; exact .r) ?_)
        exact (Fin.drop (by simp; exact .r) (by simp)).trans (by simp [fsAV, fsR, ← he]; exact Fin.refl _ _)
      · rw [if_neg h1] at g3 hQ
        by_cases h2 : byteAt s ((i : Int) + 1) = 255
        · rw [if_pos h2] at g3 hQ
          repeat' (first
    | (with_reducible refine run_n ?_; with_reducible first | refine hK _ _ (by simp) ?_ | refine hK _ _ ?_; clear hK K)
    | (with_reducible first | refine awp_seq ?_ | refine then_n ?_ | refine then_r ?_ | refine then_e ?_ | refine awp_skip ?_ | refine awp_label ?_ | refine awp_ret ?_ | refine awp_exit ?_ | refine awp_block ?_ | refine awp_scope ?_ | refine in_n ?_ | refine in_r ?_ | refine in_e ?_ | refine in_ne (by decide) ?_ | refine ng_n ?_ | refine ng_r ?_ | refine ng_e ?_)
    | (with_reducible refine awp_regT (by kernel_rfl) ?_; intro K hK)
    | (with_reducible refine awp_regAM (id := 8) [] mixed (by kernel_rfl) (by kernel_rfl) ?_; intro K hK)
    | (with_reducible refine a_cond (ht := ?_) (hf := ?_) <;> intro hb <;> (try simp at hb) <;> (try contradiction) <;> (try subst hb) <;> (try omega))
    | (with_reducible first | refine a_move (hr := ?_) | refine a_assign (hr := ?_) | refine a_bin (hr := ?_) | refine a_lenS (hr := ?_) | refine a_lenR (hr := ?_) | refine a_eqB (hr := ?_) | refine a_neB (hr := ?_) | refine a_conv (hr := ?_) | refine a_bytesStr (hr := ?_) | refine a_strBytes (hr := ?_) | refine a_sliceArr (hr := ?_) | refine a_eqS (hr := ?_) | refine a_neS (hr := ?_) | refine a_index (hr := ?_) | refine a_sliceS (hr := ?_) | refine a_sliceR (hr := ?_) | refine a_buildSlice (hr := ?_) | refine a_append (hr := ?_) | refine a_append0 (hr := ?_) | refine a_appendX (hr := ?_))
    | fail)
          exact ⟨(i + 2, now ++ [0]), by simp only; omega, ⟨by simp; omega, by simp only; omega, g3⟩, weak_or 60 43 (by decide) (by decide) (by repeat' (first | refine sub_ohp (by first | (simp; done) | (intro hne; simp at hne; simp [hne])) (by simp) ?_ | exact sub_hpL (by simp))) (by simp) (by simp <;> omega)⟩
        · rw [if_neg h2] at g3 hQ
          repeat' (first
    | (with_reducible refine run_n ?_; with_reducible first | refine hK _ _ (by simp) ?_ | refine hK _ _ ?_; clear hK K)
    | (with_reducible first | refine awp_seq ?_ | refine then_n ?_ | refine then_r ?_ | refine then_e ?_ | refine awp_skip ?_ | refine awp_label ?_ | refine awp_ret ?_ | refine awp_exit ?_ | refine awp_block ?_ | refine awp_scope ?_ | refine in_n ?_ | refine in_r ?_ | refine in_e ?_ | refine in_ne (by decide) ?_ | refine ng_n ?_ | refine ng_r ?_ | refine ng_e ?_)
    | (with_reducible refine awp_regT (by kernel_rfl) ?_; intro K hK)
    | (with_reducible refine awp_regAM (id := 8) [] mixed (by kernel_rfl) (by kernel_rfl) ?_; intro K hK)
    | (with_reducible refine a_cond (ht := ?_) (hf := ?_) <;> intro hb <;> (try simp at hb) <;> (try contradiction) <;> (try subst hb) <;> (try omega))
    | (with_reducible first | refine a_move (hr := ?_) | refine a_assign (hr := ?_) | refine a_bin (hr := ?_) | refine a_lenS (hr := ?_) | refine a_lenR (hr := ?_) | refine a_eqB (hr := ?_) | refine a_neB (hr := ?_) | refine a_conv (hr := ?_) | refine a_bytesStr (hr := ?_) | refine a_strBytes (hr := ?_) | refine a_sliceArr (hr := ?_) | refine a_eqS (hr := ?_) | refine a_neS (hr := ?_) | refine a_index (hr := ?_) | refine a_sliceS (hr := ?_) | refine a_sliceR (hr := ?_) | refine a_buildSlice (hr := ?_) | refine a_append (hr := ?_) | refine a_append0 (hr := ?_) | refine a_appendX (hr := ?_))
    | fail)
          (refine hQ _ _ _ _ (by first | exact .inr rfl | exact .inl rfl) (by simp; exact .r) (by simp; exact .r) ?_)
          exact Fin.drop (by simp; exact .r) (by simp)
    · rw [fs_cons' _ _ hz] at g3 hQ
      repeat' (first
    | (with_reducible refine run_n ?_; with_reducible first | refine hK _ _ (by simp) ?_ | refine hK _ _ ?_; clear hK K)
    | (with_reducible first | refine awp_seq ?_ | refine then_n ?_ | refine then_r ?_ | refine then_e ?_ | refine awp_skip ?_ | refine awp_label ?_ | refine awp_ret ?_ | refine awp_exit ?_ | refine awp_block ?_ | refine awp_scope ?_ | refine in_n ?_ | refine in_r ?_ | refine in_e ?_ | refine in_ne (by decide) ?_ | refine ng_n ?_ | refine ng_r ?_ | refine ng_e ?_)
    | (with_reducible refine awp_regT (by kernel_rfl) ?_; intro K hK)
    | (with_reducible refine awp_regAM (id := 8) [] mixed (by kernel_rfl) (by kernel_rfl) ?_; intro K hK)
    | (with_reducible refine a_cond (ht := ?_) (hf := ?_) <;> intro hb <;> (try simp at hb) <;> (try contradiction) <;> (try subst hb) <;> (try omega))
    | (with_reducible first | refine a_move (hr := ?_) | refine a_assign (hr := ?_) | refine a_bin (hr := ?_) | refine a_lenS (hr := ?_) | refine a_lenR (hr := ?_) | refine a_eqB (hr := ?_) | refine a_neB (hr := ?_) | refine a_conv (hr := ?_) | refine a_bytesStr (hr := ?_) | refine a_strBytes (hr := ?_) | refine a_sliceArr (hr := ?_) | refine a_eqS (hr := ?_) | refine a_neS (hr := ?_) | refine a_index (hr := ?_) | refine a_sliceS (hr := ?_) | refine a_sliceR (hr := ?_) | refine a_buildSlice (hr := ?_) | refine a_append (hr := ?_) | refine a_append0 (hr := ?_) | refine a_appendX (hr := ?_))
    | fail)
      exact ⟨(i + 1, now ++ [byteAt s i]), by simp only; omega, ⟨by simp; omega, by simp only; omega, g3⟩, weak_or 60 24 (by decide) (by decide) (by repeat' (first | refine sub_ohp (by first | (simp; done) | (intro hne; simp at hne; simp [hne])) (by simp) ?_ | exact sub_hpL (by simp))) (by simp) (by simp <;> omega)⟩
  · have e0 : fs ((bytesOf s).drop i) now = none := by
      rcases Nat.lt_or_ge i s.size with h | h
      · rw [drop_byte s i h, List.drop_of_length_le (by rw [len_bytes]; omega), fs_one]
      · rw [List.drop_of_length_le (by rw [len_bytes]; omega), fs_nil]
    rw [e0] at hQ
    repeat' (first
    | (with_reducible refine run_n ?_; with_reducible first | refine hK _ _ (by simp) ?_ | refine hK _ _ ?_; clear hK K)
    | (with_reducible first | refine awp_seq ?_ | refine then_n ?_ | refine then_r ?_ | refine then_e ?_ | refine awp_skip ?_ | refine awp_label ?_ | refine awp_ret ?_ | refine awp_exit ?_ | refine awp_block ?_ | refine awp_scope ?_ | refine in_n ?_ | refine in_r ?_ | refine in_e ?_ | refine in_ne (by decide) ?_ | refine ng_n ?_ | refine ng_r ?_ | refine ng_e ?_)
    | (with_reducible refine awp_regT (by kernel_rfl) ?_; intro K hK)
    | (with_reducible refine awp_regAM (id := 8) [] mixed (by kernel_rfl) (by kernel_rfl) ?_; intro K hK)
    | (with_reducible refine a_cond (ht := ?_) (hf := ?_) <;> intro hb <;> (try simp at hb) <;> (try contradiction) <;> (try subst hb) <;> (try omega))
    | (with_reducible first | refine a_move (hr := ?_) | refine a_assign (hr := ?_) | refine a_bin (hr := ?_) | refine a_lenS (hr := ?_) | refine a_lenR (hr := ?_) | refine a_eqB (hr := ?_) | refine a_neB (hr := ?_) | refine a_conv (hr := ?_) | refine a_bytesStr (hr := ?_) | refine a_strBytes (hr := ?_) | refine a_sliceArr (hr := ?_) | refine a_eqS (hr := ?_) | refine a_neS (hr := ?_) | refine a_index (hr := ?_) | refine a_sliceS (hr := ?_) | refine a_sliceR (hr := ?_) | refine a_buildSlice (hr := ?_) | refine a_append (hr := ?_) | refine a_append0 (hr := ?_) | refine a_appendX (hr := ?_))
    | fail)
    (refine hQ _ _ _ _ (by first | exact .inr rfl | exact .inl rfl) (by simp; exact .r) (by simp; exact .r) ?_)
    exact Fin.drop (by simp; exact .r) (by simp)
theorem c_rParse (k : ByteArray) (hk : k.size ≤ 1000000) : CallD Try.prog 17 [.raw (.string k)] noHeap (parseAV (parseV k)) noHeap := by
  rcases Nat.eq_zero_or_pos k.size with h0 | h0
  · obtain rfl : k = ⟨#[]⟩ := ByteArray.ext (Array.eq_empty_of_size_eq_zero h0)
    refine calls_go (nt := 32) (rs := [.tmp 2, .tmp 3, .tmp 4]) Try.func17 rfl rfl rfl (by simp) (by intro id h; simp at h <;> omega) ?_; intro Q hQ hW
    repeat' (first
    | (with_reducible refine run_n ?_; with_reducible first | refine hK _ _ (by simp) ?_ | refine hK _ _ ?_; clear hK K)
    | (with_reducible first | refine awp_seq ?_ | refine then_n ?_ | refine then_r ?_ | refine then_e ?_ | refine awp_skip ?_ | refine awp_label ?_ | refine awp_ret ?_ | refine awp_exit ?_ | refine awp_block ?_ | refine awp_scope ?_ | refine in_n ?_ | refine in_r ?_ | refine in_e ?_ | refine in_ne (by decide) ?_ | refine ng_n ?_ | refine ng_r ?_ | refine ng_e ?_)
    | (with_reducible refine awp_regT (by kernel_rfl) ?_; intro K hK)
    | (with_reducible refine a_cond (ht := ?_) (hf := ?_) <;> intro hb <;> (try simp at hb) <;> (try contradiction) <;> (try subst hb) <;> (try omega))
    | (with_reducible first | refine a_move (hr := ?_) | refine a_assign (hr := ?_) | refine a_bin (hr := ?_) | refine a_extract (hr := ?_) | refine a_un (hr := ?_) | refine a_eqB (hr := ?_) | refine a_neB (hr := ?_) | refine a_sliceArr (hr := ?_) | refine a_eqS (hr := ?_) | refine a_neS (hr := ?_) | refine a_index (hr := ?_) | refine a_sliceS (hr := ?_) | refine a_sliceR (hr := ?_) | refine a_buildSlice (hr := ?_) | refine a_append (hr := ?_) | refine a_append0 (hr := ?_) | refine a_appendX (hr := ?_))
    | fail)
    (refine hQ _ _ _ _ (by first | exact .inr rfl | exact .inl rfl) (by simp; exact .r) (by simp; exact .r) ?_)
    exact (Fin.drop (by simp; exact .r) (by simp)).trans Fin.tupNil2
  have hne : ¬ k = ⟨#[]⟩ := fun e => by subst e; simp at h0
  have hV : parseV k = psR (byteAt k 0) (pk ((bytesOf k).drop 1)) := by unfold parseV; rw [if_neg (by omega)]
  rw [hV]
  refine calls_go (nt := 32) (rs := [.tmp 2, .tmp 3, .tmp 4]) Try.func17 rfl rfl rfl (by simp) (by intro id h; simp at h <;> omega) ?_; intro Q hQ hW
  repeat' (first
    | (with_reducible refine run_n ?_; with_reducible first | refine hK _ _ (by simp) ?_ | refine hK _ _ ?_; clear hK K)
    | (with_reducible first | refine awp_seq ?_ | refine then_n ?_ | refine then_r ?_ | refine then_e ?_ | refine awp_skip ?_ | refine awp_label ?_ | refine awp_ret ?_ | refine awp_exit ?_ | refine awp_block ?_ | refine awp_scope ?_ | refine in_n ?_ | refine in_r ?_ | refine in_e ?_ | refine in_ne (by decide) ?_ | refine ng_n ?_ | refine ng_r ?_ | refine ng_e ?_)
    | (with_reducible refine awp_regT (by kernel_rfl) ?_; intro K hK)
    | (with_reducible refine a_cond (ht := ?_) (hf := ?_) <;> intro hb <;> (try simp at hb) <;> (try contradiction) <;> (try subst hb) <;> (try omega))
    | (with_reducible first | refine a_move (hr := ?_) | refine a_assign (hr := ?_) | refine a_bin (hr := ?_) | refine a_extract (hr := ?_) | refine a_un (hr := ?_) | refine a_eqB (hr := ?_) | refine a_neB (hr := ?_) | refine a_sliceArr (hr := ?_) | refine a_eqS (hr := ?_) | refine a_neS (hr := ?_) | refine a_index (hr := ?_) | refine a_sliceS (hr := ?_) | refine a_sliceR (hr := ?_) | refine a_buildSlice (hr := ?_) | refine a_append (hr := ?_) | refine a_append0 (hr := ?_) | refine a_appendX (hr := ?_))
    | fail)
  have he := extract_drop k 1
  refine awp_inv (α := List (List Int) × List Int) (fun p => [(0, .raw (.string k)), (5, orow 60 1 (strs (p.1.map strOfNums))), (6, .raw (.string (strOfNums p.2)))]) (fun p => ohp 60 1 (strs (p.1.map strOfNums)) (hpL []))
    (fun p => IsB p.2 ∧ p.2.length + p.1.length ≤ k.size ∧ ((pk p.2).map fun ps => p.1 ++ ps) = pk ((bytesOf k).drop 1)) (fun p => p.2.length) ([], (bytesOf k).drop 1) ⟨isB_drop (isB_bytes k) 1, by simp [len_bytes], by simp⟩ (weak_o (by repeat' (first | refine sub_ohp (by first | (simp; done) | (intro hne; simp at hne; simp [hne])) (by simp) ?_ | exact sub_hpL (by simp))) (by simp) (by simp [he])) ?_
  rintro ⟨out, rest⟩ ⟨g1, g2, g3⟩
  simp only at g1 g2 g3 ⊢
  rw [← g3] at hQ
  by_cases hr : rest = []
  · subst hr
    have e0 : strOfNums [] = ⟨#[]⟩ := rfl
    rw [pk_nil] at g3 hQ
    rw [e0]
    by_cases ho : out = []
    · subst ho
      repeat' (first
    | (with_reducible refine run_n ?_; with_reducible first | refine hK _ _ (by simp) ?_ | refine hK _ _ ?_; clear hK K)
    | (with_reducible first | refine awp_seq ?_ | refine then_n ?_ | refine then_r ?_ | refine then_e ?_ | refine awp_skip ?_ | refine awp_label ?_ | refine awp_ret ?_ | refine awp_exit ?_ | refine awp_block ?_ | refine awp_scope ?_ | refine in_n ?_ | refine in_r ?_ | refine in_e ?_ | refine in_ne (by decide) ?_ | refine ng_n ?_ | refine ng_r ?_ | refine ng_e ?_)
    | (with_reducible refine awp_regT (by kernel_rfl) ?_; intro K hK)
    | (with_reducible refine a_cond (ht := ?_) (hf := ?_) <;> intro hb <;> (try simp at hb) <;> (try contradiction) <;> (try subst hb) <;> (try omega))
    | (with_reducible first | refine a_move (hr := ?_) | refine a_assign (hr := ?_) | refine a_bin (hr := ?_) | refine a_extract (hr := ?_) | refine a_un (hr := ?_) | refine a_eqB (hr := ?_) | refine a_neB (hr := ?_) | refine a_sliceArr (hr := ?_) | refine a_eqS (hr := ?_) | refine a_neS (hr := ?_) | refine a_index (hr := ?_) | refine a_sliceS (hr := ?_) | refine a_sliceR (hr := ?_) | refine a_buildSlice (hr := ?_) | refine a_append (hr := ?_) | refine a_append0 (hr := ?_) | refine a_appendX (hr := ?_))
    | fail)
      (refine hQ _ _ _ _ (by first | exact .inr rfl | exact .inl rfl) (by simp; exact .r) (by simp; exact .r) ?_)
      exact (Fin.drop (by simp; exact .r) (by simp)).trans (by simpa [parseAV, psR] using Fin.tupNil2)
    · have h60 : orow 60 1 (strs (out.map strOfNums)) = .ow 60 1 0 out.length := by rw [orow_ne (by simpa using ho)]; simp
      repeat' (first
    | (with_reducible refine run_n ?_; with_reducible first | refine hK _ _ (by simp) ?_ | refine hK _ _ ?_; clear hK K)
    | (with_reducible first | refine awp_seq ?_ | refine then_n ?_ | refine then_r ?_ | refine then_e ?_ | refine awp_skip ?_ | refine awp_label ?_ | refine awp_ret ?_ | refine awp_exit ?_ | refine awp_block ?_ | refine awp_scope ?_ | refine in_n ?_ | refine in_r ?_ | refine in_e ?_ | refine in_ne (by decide) ?_ | refine ng_n ?_ | refine ng_r ?_ | refine ng_e ?_)
    | (with_reducible refine awp_regT (by kernel_rfl) ?_; intro K hK)
    | (with_reducible refine a_cond (ht := ?_) (hf := ?_) <;> intro hb <;> (try simp at hb) <;> (try contradiction) <;> (try subst hb) <;> (try omega))
    | (with_reducible first | refine a_move (hr := ?_) | refine a_assign (hr := ?_) | refine a_bin (hr := ?_) | refine a_extract (hr := ?_) | refine a_un (hr := ?_) | refine a_eqB (hr := ?_) | refine a_neB (hr := ?_) | refine a_sliceArr (hr := ?_) | refine a_eqS (hr := ?_) | refine a_neS (hr := ?_) | refine a_index (hr := ?_) | refine a_sliceS (hr := ?_) | refine a_sliceR (hr := ?_) | refine a_buildSlice (hr := ?_) | refine a_append (hr := ?_) | refine a_append0 (hr := ?_) | refine a_appendX (hr := ?_))
    | fail)
      (refine hQ _ _ _ _ (by first | exact .inr rfl | exact .inl rfl) (by simp; exact .r) (by simp; exact .r) ?_)
      rw [h60]
      refine Fin.frzR (by simp [ho]; exact .r) (by simp [ho, List.take_of_length_le]; exact .r) (by simp; exact .r) (by simp) |>.trans ?_
      simp [parseAV, psR]
      exact Fin.refl _ _
  · have hre : ¬ strOfNums rest = ⟨#[]⟩ := fun e => hr (by
      have := size_of_nums rest
      rw [e] at this
      exact List.eq_nil_of_length_eq_zero (by simpa using this.symm))
    have hc := c_rfirst (strOfNums rest) (by rw [size_of_nums]; omega)
    rw [bytes_of_nums g1] at hc
    cases hf : fs rest [] with
    | none =>
      rw [hf] at hc
      rw [pk_none hr hf] at hQ
      simp only [fsAV, fsR] at hc
      repeat' (first
    | (with_reducible refine run_n ?_; with_reducible first | refine hK _ _ (by simp) ?_ | refine hK _ _ ?_; clear hK K)
    | (with_reducible first | refine awp_seq ?_ | refine then_n ?_ | refine then_r ?_ | refine then_e ?_ | refine awp_skip ?_ | refine awp_label ?_ | refine awp_ret ?_ | refine awp_exit ?_ | refine awp_block ?_ | refine awp_scope ?_ | refine in_n ?_ | refine in_r ?_ | refine in_e ?_ | refine in_ne (by decide) ?_ | refine ng_n ?_ | refine ng_r ?_ | refine ng_e ?_)
    | (with_reducible refine awp_regT (by kernel_rfl) ?_; intro K hK)
    | (with_reducible refine a_cond (ht := ?_) (hf := ?_) <;> intro hb <;> (try simp at hb) <;> (try contradiction) <;> (try subst hb) <;> (try omega))
    | (with_reducible first | refine a_move (hr := ?_) | refine a_assign (hr := ?_) | refine a_bin (hr := ?_) | refine a_extract (hr := ?_) | refine a_un (hr := ?_) | refine a_eqB (hr := ?_) | refine a_neB (hr := ?_) | refine a_sliceArr (hr := ?_) | refine a_eqS (hr := ?_) | refine a_neS (hr := ?_) | refine a_index (hr := ?_) | refine a_sliceS (hr := ?_) | refine a_sliceR (hr := ?_) | refine a_buildSlice (hr := ?_) | refine a_append (hr := ?_) | refine a_append0 (hr := ?_) | refine a_appendX (hr := ?_) | refine a_call0 (hcall := hc) (hr := ?_))
    | fail)
      (refine hQ _ _ _ _ (by first | exact .inr rfl | exact .inl rfl) (by simp; exact .r) (by simp; exact .r) ?_)
      exact (Fin.drop (by simp; exact .r) (by simp)).trans Fin.tupNil2
    | some x =>
      obtain ⟨p, r⟩ := x
      rw [hf] at hc
      simp only [fsAV, fsR] at hc
      have hl := fs_len _ _ _ _ _ (Nat.le_refl _) hf
      have hB := fs_isB _ _ _ _ _ (Nat.le_refl _) g1 isB_nil hf
      rw [pk_some hr hf] at g3 hQ
      repeat' (first
    | (with_reducible refine run_n ?_; with_reducible first | refine hK _ _ (by simp) ?_ | refine hK _ _ ?_; clear hK K)
    | (with_reducible first | refine awp_seq ?_ | refine then_n ?_ | refine then_r ?_ | refine then_e ?_ | refine awp_skip ?_ | refine awp_label ?_ | refine awp_ret ?_ | refine awp_exit ?_ | refine awp_block ?_ | refine awp_scope ?_ | refine in_n ?_ | refine in_r ?_ | refine in_e ?_ | refine in_ne (by decide) ?_ | refine ng_n ?_ | refine ng_r ?_ | refine ng_e ?_)
    | (with_reducible refine awp_regT (by kernel_rfl) ?_; intro K hK)
    | (with_reducible refine a_cond (ht := ?_) (hf := ?_) <;> intro hb <;> (try simp at hb) <;> (try contradiction) <;> (try subst hb) <;> (try omega))
    | (with_reducible first | refine a_move (hr := ?_) | refine a_assign (hr := ?_) | refine a_bin (hr := ?_) | refine a_extract (hr := ?_) | refine a_un (hr := ?_) | refine a_eqB (hr := ?_) | refine a_neB (hr := ?_) | refine a_sliceArr (hr := ?_) | refine a_eqS (hr := ?_) | refine a_neS (hr := ?_) | refine a_index (hr := ?_) | refine a_sliceS (hr := ?_) | refine a_sliceR (hr := ?_) | refine a_buildSlice (hr := ?_) | refine a_append (hr := ?_) | refine a_append0 (hr := ?_) | refine a_appendX (hr := ?_) | refine a_call0 (hcall := hc) (hr := ?_))
    | fail)
      exact ⟨(out ++ [p], r), by simp only; omega, ⟨hB.2, by simp; omega, by rw [← g3]; simp [Function.comp_def]⟩, weak_or 60 27 (by decide) (by decide) (by repeat' (first | refine sub_ohp (by first | (simp; done) | (intro hne; simp at hne; simp [hne])) (by simp) ?_ | exact sub_hpL (by simp))) (by simp) (by simp <;> omega)⟩
end Go.Proofs.Ytdbdajmgfajcpaa.Asl
