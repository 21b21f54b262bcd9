/- key: what is read of keys, names. -/
import Derived.Test.YtdbdajmgfajcpaaKP
namespace Go.Proofs.Ytdbdajmgfajcpaa.Asl
open Go Go.RowKit
set_option linter.unusedVariables false
set_option linter.unusedSimpArgs false
set_option maxRecDepth 100000
set_option maxHeartbeats 1000000
def parseV (k : ByteArray) : Int × List ByteArray × Int := if k.size = 0 then (0, [], 31) else psR (byteAt k 0) (pk ((bytesOf k).drop 1))
def parseAV (p : Int × List ByteArray × Int) : AV := .tup [.raw (.int .u8 p.1), .sl 1 (strs p.2.1), .raw (.int .i64 p.2.2)]
def pkO (op : Bool) (l now : List Int) : Option (List (List Int)) := if op then pk1 l now else pk l
theorem pkO1 {op : Bool} {l now : List Int} (h : op = false → now = []) (hl : l ≠ []) : pkO op l now = pk1 l now := by
  cases op with
  | true => rfl
  | false => rw [h rfl, ← pk1_nil hl]; rfl
theorem pk1_ne {c : Int} {l now : List Int} (h : ¬ c = 0) : pk1 (c :: l) now = pk1 l (now ++ [c]) := by unfold pk1; rw [fs_cons' _ _ h]
theorem pk1_255 {l now : List Int} : pk1 (0 :: 255 :: l) now = pk1 l (now ++ [0]) := by unfold pk1; rw [fs_zero, if_neg (by decide), if_pos rfl]
theorem pk1_1 {l now : List Int} : pk1 (0 :: 1 :: l) now = (pk l).map fun ps => now :: ps := by unfold pk1; rw [fs_zero, if_pos rfl]
theorem pk1_bad {d : Int} {l now : List Int} (h1 : ¬ d = 1) (h2 : ¬ d = 255) : pk1 (0 :: d :: l) now = none := by unfold pk1; rw [fs_zero, if_neg h1, if_neg h2]
theorem pk1_one {c : Int} {now : List Int} : pk1 [c] now = none := by unfold pk1; rw [fs_one]
theorem size_ne {k : ByteArray} (h : ¬ k = ⟨#[]⟩) : ¬ k.size = 0 := fun e => h (by
  apply ByteArray.ext
  exact Array.eq_empty_of_size_eq_zero e)
@[simp] theorem strs_eq_nil {l : List ByteArray} : strs l = [] ↔ l = [] := by simp [strs]
theorem c_Parse (k : ByteArray) (hk : k.size ≤ 1000000) : CallD Try.prog 52 [.raw (.string k)] noHeap (parseAV (parseV k)) noHeap := by
  refine calls_go (nt := 56) (rs := [.tmp 2, .tmp 3, .tmp 4]) Try.func52 rfl rfl rfl (by simp) (by intro id h; simp at h <;> omega) ?_; intro Q hQ hW
  repeat' (first
    | (with_reducible refine run_n ?_; with_reducible first | refine hK _ _ (by simp) ?_ | refine hK _ _ ?_; clear hK K)
    | (with_reducible first | refine awp_seq ?_ | refine then_n ?_ | refine then_r ?_ | refine then_e ?_ | refine awp_skip ?_ | refine awp_label ?_ | refine awp_ret ?_ | refine awp_exit ?_ | refine awp_block ?_ | refine awp_scope ?_ | refine in_n ?_ | refine in_r ?_ | refine in_e ?_ | refine in_ne (by decide) ?_ | refine ng_n ?_ | refine ng_r ?_ | refine ng_e ?_)
    | (with_reducible refine awp_regT (by kernel_rfl) ?_; intro K hK)
    | (with_reducible refine a_cond (ht := ?_) (hf := ?_) <;> intro hb <;> (try simp at hb) <;> (try contradiction) <;> (try subst hb) <;> (try omega))
    | (with_reducible first | refine a_move (hr := ?_) | refine a_assign (hr := ?_) | refine a_bin (hr := ?_) | refine a_lenS (hr := ?_) | refine a_lenR (hr := ?_) | refine a_eqB (hr := ?_) | refine a_neB (hr := ?_) | refine a_conv (hr := ?_) | refine a_bytesStr (hr := ?_) | refine a_strBytes (hr := ?_) | refine a_eqS (hr := ?_) | refine a_neS (hr := ?_) | refine a_index (hr := ?_) | refine a_buildSlice (hr := ?_) | refine a_append (hr := ?_) | refine a_append0 (hr := ?_) | refine a_appendX (hr := ?_))
    | fail)
  · (refine hQ _ _ _ _ (by first | exact .inr rfl | exact .inl rfl) (by simp; exact .r) (by simp; exact .r) ?_)
    exact (Fin.drop (by simp; exact .r) (by simp)).trans Fin.tupNil2
  have hk0 := size_ne hb
  refine awp_inv (α := Nat × List (List Int) × List Int × Bool) (fun p => [(0, .raw (.string k)), (5, orow 60 1 (strs (p.2.1.map strOfNums))), (6, orow 61 1 (u8s p.2.2.1)), (7, .raw (.bool p.2.2.2)), (8, .raw (.int .i64 p.1))]) (fun p => ohp 60 1 (strs (p.2.1.map strOfNums)) (ohp 61 1 (u8s p.2.2.1) (hpL [])))
    (fun p => p.1 ≤ k.size ∧ p.2.1.length ≤ p.1 ∧ p.2.2.1.length ≤ p.1 ∧ (p.2.2.2 = false → p.2.2.1 = []) ∧ ((pkO p.2.2.2 ((bytesOf k).drop p.1) p.2.2.1).map fun ps => p.2.1 ++ ps) = pk ((bytesOf k).drop 1)) (fun p => k.size - p.1) (1, [], [], false) ⟨by simp only; omega, by simp, by simp, by simp, by simp [pkO]⟩ (weak_o (by repeat' (first | refine sub_ohp (by first | (simp; done) | (intro hne; simp at hne; simp [hne])) (by simp) ?_ | exact sub_hpL (by simp))) (by simp) (by simp <;> omega)) ?_
  rintro ⟨i, out, now, op⟩ ⟨g1, g2, g3, g4, g5⟩
  simp only at g1 g2 g3 g4 g5 ⊢
  have hP : parseV k = psR (byteAt k 0) ((pkO op ((bytesOf k).drop i) now).map fun ps => out ++ ps) := by unfold parseV; rw [if_neg hk0, g5]
  rw [hP] at hQ
  rcases Nat.lt_or_ge i k.size with hlt | hge
  · have hd := drop_byte k i hlt
    rw [pkO1 g4 (by rw [hd]; simp), hd] at g5 hQ
    by_cases hz : byteAt k (i : Int) = 0
    · rcases Nat.lt_or_ge (i + 1) k.size with hlt2 | hge2
      · have hd2 : (bytesOf k).drop (i + 1) = byteAt k ((i : Int) + 1) :: (bytesOf k).drop (i + 2) := drop_byte k (i + 1) hlt2
        rw [hd2, hz] at g5 hQ
        by_cases h255 : byteAt k ((i : Int) + 1) = 255
        · rw [h255, pk1_255] at g5 hQ
          repeat' (first
    | (with_reducible refine run_n ?_; with_reducible first | refine hK _ _ (by simp) ?_ | refine hK _ _ ?_; clear hK K)
    | (with_reducible first | refine awp_seq ?_ | refine then_n ?_ | refine then_r ?_ | refine then_e ?_ | refine awp_skip ?_ | refine awp_label ?_ | refine awp_ret ?_ | refine awp_exit ?_ | refine awp_block ?_ | refine awp_scope ?_ | refine in_n ?_ | refine in_r ?_ | refine in_e ?_ | refine in_ne (by decide) ?_ | refine ng_n ?_ | refine ng_r ?_ | refine ng_e ?_)
    | (with_reducible refine awp_regT (by kernel_rfl) ?_; intro K hK)
    | (with_reducible refine a_cond (ht := ?_) (hf := ?_) <;> intro hb <;> (try simp at hb) <;> (try contradiction) <;> (try subst hb) <;> (try omega))
    | (with_reducible first | refine a_move (hr := ?_) | refine a_assign (hr := ?_) | refine a_bin (hr := ?_) | refine a_lenS (hr := ?_) | refine a_lenR (hr := ?_) | refine a_eqB (hr := ?_) | refine a_neB (hr := ?_) | refine a_conv (hr := ?_) | refine a_bytesStr (hr := ?_) | refine a_strBytes (hr := ?_) | refine a_eqS (hr := ?_) | refine a_neS (hr := ?_) | refine a_index (hr := ?_) | refine a_buildSlice (hr := ?_) | refine a_append (hr := ?_) | refine a_append0 (hr := ?_) | refine a_appendX (hr := ?_))
    | fail)
          exact ⟨(i + 2, out, now ++ [0], true), by simp only; omega, ⟨by simp only; omega, by simp only; omega, by simp; omega, by simp, g5⟩, weak_or 61 41 (by decide) (by decide) (by repeat' (first | refine sub_ohp (by first | (simp; done) | (intro hne; simp at hne; simp [hne])) (by simp) ?_ | exact sub_hpL (by simp))) (by simp) (by simp <;> omega)⟩
        · by_cases h1 : byteAt k ((i : Int) + 1) = 1
          · rw [h1, pk1_1] at g5 hQ
            repeat' (first
    | (with_reducible refine run_n ?_; with_reducible first | refine hK _ _ (by simp) ?_ | refine hK _ _ ?_; clear hK K)
    | (with_reducible first | refine awp_seq ?_ | refine then_n ?_ | refine then_r ?_ | refine then_e ?_ | refine awp_skip ?_ | refine awp_label ?_ | refine awp_ret ?_ | refine awp_exit ?_ | refine awp_block ?_ | refine awp_scope ?_ | refine in_n ?_ | refine in_r ?_ | refine in_e ?_ | refine in_ne (by decide) ?_ | refine ng_n ?_ | refine ng_r ?_ | refine ng_e ?_)
    | (with_reducible refine awp_regT (by kernel_rfl) ?_; intro K hK)
    | (with_reducible refine a_cond (ht := ?_) (hf := ?_) <;> intro hb <;> (try simp at hb) <;> (try contradiction) <;> (try subst hb) <;> (try omega))
    | (with_reducible first | refine a_move (hr := ?_) | refine a_assign (hr := ?_) | refine a_bin (hr := ?_) | refine a_lenS (hr := ?_) | refine a_lenR (hr := ?_) | refine a_eqB (hr := ?_) | refine a_neB (hr := ?_) | refine a_conv (hr := ?_) | refine a_bytesStr (hr := ?_) | refine a_strBytes (hr := ?_) | refine a_eqS (hr := ?_) | refine a_neS (hr := ?_) | refine a_index (hr := ?_) | refine a_buildSlice (hr := ?_) | refine a_append (hr := ?_) | refine a_append0 (hr := ?_) | refine a_appendX (hr := ?_))
    | fail)
            exact ⟨(i + 2, out ++ [now], [], false), by simp only; omega, ⟨by simp only; omega, by simp; omega, by simp, by simp, by simp only [pkO]; rw [← g5]; simp [Function.comp_def]⟩, weak_or 60 51 (by decide) (by decide) (by repeat' (first | refine sub_ohp (by first | (simp; done) | (intro hne; simp at hne; simp [hne])) (by simp) ?_ | exact sub_hpL (by simp))) (by simp) (by simp <;> omega)⟩
          · rw [pk1_bad h1 h255] at g5 hQ
            repeat' (first
    | (with_reducible refine run_n ?_; with_reducible first | refine hK _ _ (by simp) ?_ | refine hK _ _ ?_; clear hK K)
    | (with_reducible first | refine awp_seq ?_ | refine then_n ?_ | refine then_r ?_ | refine then_e ?_ | refine awp_skip ?_ | refine awp_label ?_ | refine awp_ret ?_ | refine awp_exit ?_ | refine awp_block ?_ | refine awp_scope ?_ | refine in_n ?_ | refine in_r ?_ | refine in_e ?_ | refine in_ne (by decide) ?_ | refine ng_n ?_ | refine ng_r ?_ | refine ng_e ?_)
    | (with_reducible refine awp_regT (by kernel_rfl) ?_; intro K hK)
    | (with_reducible refine a_cond (ht := ?_) (hf := ?_) <;> intro hb <;> (try simp at hb) <;> (try contradiction) <;> (try subst hb) <;> (try omega))
    | (with_reducible first | refine a_move (hr := ?_) | refine a_assign (hr := ?_) | refine a_bin (hr := ?_) | refine a_lenS (hr := ?_) | refine a_lenR (hr := ?_) | refine a_eqB (hr := ?_) | refine a_neB (hr := ?_) | refine a_conv (hr := ?_) | refine a_bytesStr (hr := ?_) | refine a_strBytes (hr := ?_) | refine a_eqS (hr := ?_) | refine a_neS (hr := ?_) | refine a_index (hr := ?_) | refine a_buildSlice (hr := ?_) | refine a_append (hr := ?_) | refine a_append0 (hr := ?_) | refine a_appendX (hr := ?_))
    | fail)
            (refine hQ _ _ _ _ (by first | exact .inr rfl | exact .inl rfl) (by simp; exact .r) (by simp; exact .r) ?_)
            exact (Fin.drop (by simp; exact .r) (by simp)).trans Fin.tupNil2
      · rw [List.drop_of_length_le (by rw [len_bytes]; omega), pk1_one] at g5 hQ
        repeat' (first
    | (with_reducible refine run_n ?_; with_reducible first | refine hK _ _ (by simp) ?_ | refine hK _ _ ?_; clear hK K)
    | (with_reducible first | refine awp_seq ?_ | refine then_n ?_ | refine then_r ?_ | refine then_e ?_ | refine awp_skip ?_ | refine awp_label ?_ | refine awp_ret ?_ | refine awp_exit ?_ | refine awp_block ?_ | refine awp_scope ?_ | refine in_n ?_ | refine in_r ?_ | refine in_e ?_ | refine in_ne (by decide) ?_ | refine ng_n ?_ | refine ng_r ?_ | refine ng_e ?_)
    | (with_reducible refine awp_regT (by kernel_rfl) ?_; intro K hK)
    | (with_reducible refine a_cond (ht := ?_) (hf := ?_) <;> intro hb <;> (try simp at hb) <;> (try contradiction) <;> (try subst hb) <;> (try omega))
    | (with_reducible first | refine a_move (hr := ?_) | refine a_assign (hr := ?_) | refine a_bin (hr := ?_) | refine a_lenS (hr := ?_) | refine a_lenR (hr := ?_) | refine a_eqB (hr := ?_) | refine a_neB (hr := ?_) | refine a_conv (hr := ?_) | refine a_bytesStr (hr := ?_) | refine a_strBytes (hr := ?_) | refine a_eqS (hr := ?_) | refine a_neS (hr := ?_) | refine a_index (hr := ?_) | refine a_buildSlice (hr := ?_) | refine a_append (hr := ?_) | refine a_append0 (hr := ?_) | refine a_appendX (hr := ?_))
    | fail)
        (refine hQ _ _ _ _ (by first | exact .inr rfl | exact .inl rfl) (by simp; exact .r) (by simp; exact .r) ?_)
        exact (Fin.drop (by simp; exact .r) (by simp)).trans Fin.tupNil2
    · rw [pk1_ne hz] at g5 hQ
      repeat' (first
    | (with_reducible refine run_n ?_; with_reducible first | refine hK _ _ (by simp) ?_ | refine hK _ _ ?_; clear hK K)
    | (with_reducible first | refine awp_seq ?_ | refine then_n ?_ | refine then_r ?_ | refine then_e ?_ | refine awp_skip ?_ | refine awp_label ?_ | refine awp_ret ?_ | refine awp_exit ?_ | refine awp_block ?_ | refine awp_scope ?_ | refine in_n ?_ | refine in_r ?_ | refine in_e ?_ | refine in_ne (by decide) ?_ | refine ng_n ?_ | refine ng_r ?_ | refine ng_e ?_)
    | (with_reducible refine awp_regT (by kernel_rfl) ?_; intro K hK)
    | (with_reducible refine a_cond (ht := ?_) (hf := ?_) <;> intro hb <;> (try simp at hb) <;> (try contradiction) <;> (try subst hb) <;> (try omega))
    | (with_reducible first | refine a_move (hr := ?_) | refine a_assign (hr := ?_) | refine a_bin (hr := ?_) | refine a_lenS (hr := ?_) | refine a_lenR (hr := ?_) | refine a_eqB (hr := ?_) | refine a_neB (hr := ?_) | refine a_conv (hr := ?_) | refine a_bytesStr (hr := ?_) | refine a_strBytes (hr := ?_) | refine a_eqS (hr := ?_) | refine a_neS (hr := ?_) | refine a_index (hr := ?_) | refine a_buildSlice (hr := ?_) | refine a_append (hr := ?_) | refine a_append0 (hr := ?_) | refine a_appendX (hr := ?_))
    | fail)
      exact ⟨(i + 1, out, now ++ [byteAt k i], true), by simp only; omega, ⟨by simp only; omega, by simp only; omega, by simp; omega, by simp, g5⟩, weak_or 61 26 (by decide) (by decide) (by repeat' (first | refine sub_ohp (by first | (simp; done) | (intro hne; simp at hne; simp [hne])) (by simp) ?_ | exact sub_hpL (by simp))) (by simp) (by simp <;> omega)⟩
  · obtain rfl : i = k.size := by omega
    have hd0 : (bytesOf k).drop k.size = [] := List.drop_of_length_le (by rw [len_bytes]; omega)
    rw [hd0] at g5 hQ
    cases op with
    | true =>
      have e1 : pkO true [] now = none := by simp [pkO, pk1, fs_nil]
      rw [e1] at hQ
      repeat' (first
    | (with_reducible refine run_n ?_; with_reducible first | refine hK _ _ (by simp) ?_ | refine hK _ _ ?_; clear hK K)
    | (with_reducible first | refine awp_seq ?_ | refine then_n ?_ | refine then_r ?_ | refine then_e ?_ | refine awp_skip ?_ | refine awp_label ?_ | refine awp_ret ?_ | refine awp_exit ?_ | refine awp_block ?_ | refine awp_scope ?_ | refine in_n ?_ | refine in_r ?_ | refine in_e ?_ | refine in_ne (by decide) ?_ | refine ng_n ?_ | refine ng_r ?_ | refine ng_e ?_)
    | (with_reducible refine awp_regT (by kernel_rfl) ?_; intro K hK)
    | (with_reducible refine a_cond (ht := ?_) (hf := ?_) <;> intro hb <;> (try simp at hb) <;> (try contradiction) <;> (try subst hb) <;> (try omega))
    | (with_reducible first | refine a_move (hr := ?_) | refine a_assign (hr := ?_) | refine a_bin (hr := ?_) | refine a_lenS (hr := ?_) | refine a_lenR (hr := ?_) | refine a_eqB (hr := ?_) | refine a_neB (hr := ?_) | refine a_conv (hr := ?_) | refine a_bytesStr (hr := ?_) | refine a_strBytes (hr := ?_) | refine a_eqS (hr := ?_) | refine a_neS (hr := ?_) | refine a_index (hr := ?_) | refine a_buildSlice (hr := ?_) | refine a_append (hr := ?_) | refine a_append0 (hr := ?_) | refine a_appendX (hr := ?_))
    | fail)
      (refine hQ _ _ _ _ (by first | exact .inr rfl | exact .inl rfl) (by simp; exact .r) (by simp; exact .r) ?_)
      exact (Fin.drop (by simp; exact .r) (by simp)).trans Fin.tupNil2
    | false =>
      have e1 : pkO false [] now = some [] := by simp [pkO, pk_nil]
      rw [e1] at hQ
      by_cases ho : out = []
      · subst ho
        repeat' (first
    | (with_reducible refine run_n ?_; with_reducible first | refine hK _ _ (by simp) ?_ | refine hK _ _ ?_; clear hK K)
    | (with_reducible first | refine awp_seq ?_ | refine then_n ?_ | refine then_r ?_ | refine then_e ?_ | refine awp_skip ?_ | refine awp_label ?_ | refine awp_ret ?_ | refine awp_exit ?_ | refine awp_block ?_ | refine awp_scope ?_ | refine in_n ?_ | refine in_r ?_ | refine in_e ?_ | refine in_ne (by decide) ?_ | refine ng_n ?_ | refine ng_r ?_ | refine ng_e ?_)
    | (with_reducible refine awp_regT (by kernel_rfl) ?_; intro K hK)
    | (with_reducible refine a_cond (ht := ?_) (hf := ?_) <;> intro hb <;> (try simp at hb) <;> (try contradiction) <;> (try subst hb) <;> (try omega))
    | (with_reducible first | refine a_move (hr := ?_) | refine a_assign (hr := ?_) | refine a_bin (hr := ?_) | refine a_lenS (hr := ?_) | refine a_lenR (hr := ?_) | refine a_eqB (hr := ?_) | refine a_neB (hr := ?_) | refine a_conv (hr := ?_) | refine a_bytesStr (hr := ?_) | refine a_strBytes (hr := ?_) | refine a_eqS (hr := ?_) | refine a_neS (hr := ?_) | refine a_index (hr := ?_) | refine a_buildSlice (hr := ?_) | refine a_append (hr := ?_) | refine a_append0 (hr := ?_) | refine a_appendX (hr := ?_))
    | fail)
        (refine hQ _ _ _ _ (by first | exact .inr rfl | exact .inl rfl) (by simp; exact .r) (by simp; exact .r) ?_)
        exact (Fin.drop (by simp; exact .r) (by simp)).trans (by simpa [parseAV, psR] using Fin.tupNil2)
      · have h60 : orow 60 1 (strs (out.map strOfNums)) = .ow 60 1 0 out.length := by rw [orow_ne (by simpa using ho)]; simp
        repeat' (first
    | (with_reducible refine run_n ?_; with_reducible first | refine hK _ _ (by simp) ?_ | refine hK _ _ ?_; clear hK K)
    | (with_reducible first | refine awp_seq ?_ | refine then_n ?_ | refine then_r ?_ | refine then_e ?_ | refine awp_skip ?_ | refine awp_label ?_ | refine awp_ret ?_ | refine awp_exit ?_ | refine awp_block ?_ | refine awp_scope ?_ | refine in_n ?_ | refine in_r ?_ | refine in_e ?_ | refine in_ne (by decide) ?_ | refine ng_n ?_ | refine ng_r ?_ | refine ng_e ?_)
    | (with_reducible refine awp_regT (by kernel_rfl) ?_; intro K hK)
    | (with_reducible refine a_cond (ht := ?_) (hf := ?_) <;> intro hb <;> (try simp at hb) <;> (try contradiction) <;> (try subst hb) <;> (try omega))
    | (with_reducible first | refine a_move (hr := ?_) | refine a_assign (hr := ?_) | refine a_bin (hr := ?_) | refine a_lenS (hr := ?_) | refine a_lenR (hr := ?_) | refine a_eqB (hr := ?_) | refine a_neB (hr := ?_) | refine a_conv (hr := ?_) | refine a_bytesStr (hr := ?_) | refine a_strBytes (hr := ?_) | refine a_eqS (hr := ?_) | refine a_neS (hr := ?_) | refine a_index (hr := ?_) | refine a_buildSlice (hr := ?_) | refine a_append (hr := ?_) | refine a_append0 (hr := ?_) | refine a_appendX (hr := ?_))
    | fail)
        (refine hQ _ _ _ _ (by first | exact .inr rfl | exact .inl rfl) (by simp; exact .r) (by simp; exact .r) ?_)
        rw [h60]
        refine Fin.frzR (r' := parseAV (psR (byteAt k 0) (Option.map (fun ps => out ++ ps) (some [])))) (by simp [ho]; exact .r) ?_ (by simp; exact .r) (by simp)
        simp [ho, parseAV, psR, List.take_of_length_le]
        exact .r
end Go.Proofs.Ytdbdajmgfajcpaa.Asl
