/- pack: what is written. -/
import Derived.Test.YtdbdajmgfajcpaaAY
import Derived.Test.YtdbdajmgfajcpaaP0
namespace Go.Proofs.Ytdbdajmgfajcpaa.Asl
open Go Go.RowKit
set_option linter.unusedVariables false
set_option linter.unusedSimpArgs false
set_option maxRecDepth 100000
set_option maxHeartbeats 1000000
@[simp] theorem shr7_u64 (x : Int) : shrI .u64 x 7 = x / 128 := rfl
theorem c_Uint (n : Int) (h0 : 0 ≤ n) (h1 : n < 18446744073709551616) : CallD Try.prog 50 [.raw (.int .u64 n)] noHeap (.ow 99999 1 0 (enc 9 n).length) (setH noHeap 99999 (.arr 1 (u8s (enc 9 n)))) := by
  refine calls_go (nt := 20) (rs := [.tmp 2]) Try.func50 rfl rfl rfl (by simp) (by intro id h; simp at h <;> omega) ?_; intro Q hQ hW
  repeat' (first
    | (with_reducible refine run_n ?_; with_reducible first | refine hK _ _ (by simp) ?_ | refine hK _ _ ?_; clear hK K)
    | (with_reducible first | refine awp_seq ?_ | refine then_n ?_ | refine then_r ?_ | refine then_e ?_ | refine awp_skip ?_ | refine awp_label ?_ | refine awp_ret ?_ | refine awp_exit ?_ | refine awp_block ?_ | refine awp_scope ?_ | refine in_n ?_ | refine in_r ?_ | refine in_e ?_ | refine in_ne (by decide) ?_ | refine ng_n ?_ | refine ng_r ?_ | refine ng_e ?_)
    | (with_reducible refine awp_regT (by kernel_rfl) ?_; intro K hK)
    | (with_reducible refine a_cond (ht := ?_) (hf := ?_) <;> intro hb <;> (try simp at hb) <;> (try contradiction) <;> (try subst hb) <;> (try omega))
    | (with_reducible first | refine a_move (hr := ?_) | refine a_assign (hr := ?_) | refine a_or (hr := ?_) | refine a_shr (hr := ?_) | refine a_bin (hr := ?_) | refine a_conv (hr := ?_) | refine a_bytesStr (hr := ?_) | refine a_strBytes (hr := ?_) | refine a_makeSlice (hr := ?_) | refine a_buildSlice (hr := ?_) | refine a_append (hr := ?_) | refine a_append0 (hr := ?_) | refine a_appendX (hr := ?_))
    | fail)
  refine awp_inv (α := Int × List Int) (fun p => [(0, .raw (.int .u64 p.1)), (3, .ow 4 1 0 p.2.length)]) (fun p => hpL [(4, .arr 1 (u8s p.2))]) (fun p => 0 ≤ p.1 ∧ p.1 * 128 ^ p.2.length < 18446744073709551616 ∧ p.2.length ≤ 9 ∧ p.2 ++ enc (9 - p.2.length) p.1 = enc 9 n) (fun p => p.1.toNat) (n, []) ⟨h0, by simpa using h1, by simp, by simp⟩ (weak_sub (by simp <;> rfl) (by simp) (by simp)) ?_
  rintro ⟨m, out⟩ ⟨g0, g1, g2, g3⟩
  simp only at g0 g1 g2 g3 ⊢
  have g5 : m < 18446744073709551616 := by
    have : (1 : Int) ≤ 128 ^ out.length := by
      have := Int.pow_pos (n := 128) (m := out.length) (by decide)
      omega
    have := Int.mul_le_mul_of_nonneg_left this g0
    omega
  repeat' (first
    | (with_reducible refine run_n ?_; with_reducible first | refine hK _ _ (by simp) ?_ | refine hK _ _ ?_; clear hK K)
    | (with_reducible first | refine awp_seq ?_ | refine then_n ?_ | refine then_r ?_ | refine then_e ?_ | refine awp_skip ?_ | refine awp_label ?_ | refine awp_ret ?_ | refine awp_exit ?_ | refine awp_block ?_ | refine awp_scope ?_ | refine in_n ?_ | refine in_r ?_ | refine in_e ?_ | refine in_ne (by decide) ?_ | refine ng_n ?_ | refine ng_r ?_ | refine ng_e ?_)
    | (with_reducible refine awp_regT (by kernel_rfl) ?_; intro K hK)
    | (with_reducible refine a_cond (ht := ?_) (hf := ?_) <;> intro hb <;> (try simp at hb) <;> (try contradiction) <;> (try subst hb) <;> (try omega))
    | (with_reducible first | refine a_move (hr := ?_) | refine a_assign (hr := ?_) | refine a_or (hr := ?_) | refine a_shr (hr := ?_) | refine a_bin (hr := ?_) | refine a_conv (hr := ?_) | refine a_bytesStr (hr := ?_) | refine a_strBytes (hr := ?_) | refine a_makeSlice (hr := ?_) | refine a_buildSlice (hr := ?_) | refine a_append (hr := ?_) | refine a_append0 (hr := ?_) | refine a_appendX (hr := ?_))
    | fail)
  · have hw : IntKind.u8.wrap m % 128 + 128 = m % 128 + 128 := by rw [wrap_u8']; omega
    have hlt : out.length < 9 := by
      rcases Nat.lt_or_ge out.length 9 with h | h
      · exact h
      · have e : out.length = 9 := by omega
        rw [e] at g1
        exfalso
        omega
    have hp : (0 : Int) < 128 ^ out.length := Int.pow_pos (by decide)
    have hstep : enc (9 - out.length) m = (m % 128 + 128) :: enc (9 - (out.length + 1)) (m / 128) := by
      rw [show 9 - out.length = (9 - (out.length + 1)) + 1 by omega, enc, if_pos hb]
    rw [hw]
    refine ⟨(m / 128, out ++ [m % 128 + 128]), by simp only; omega, ⟨by simp only; omega, ?_, by simp; omega, ?_⟩, weak_ren 4 14 (by decide) (by decide) (by simp) (by simp) (by simp)⟩
    · simp only [List.length_append, List.length_singleton, pow_128_succ]
      have : m / 128 * (128 * 128 ^ out.length) ≤ m * 128 ^ out.length := by
        rw [← Int.mul_assoc]
        exact Int.mul_le_mul_of_nonneg_right (by omega) (Int.le_of_lt hp)
      omega
    · simp only [List.length_append, List.length_singleton, List.append_assoc]
      rw [← g3, hstep]; rfl
  · have he : out ++ [m] = enc 9 n := by
      rw [← g3]
      congr 1
      cases hq : 9 - out.length with
      | zero => rfl
      | succ k => rw [enc, if_neg (by omega)]
    have hl : out.length + 1 = (enc 9 n).length := by rw [← he]; simp
    (refine hQ _ _ _ _ (by first | exact .inr rfl | exact .inl rfl) (by simp; exact .r) (by simp; exact .r) ?_)
    rw [he, hl]
    exact Fin.row (by simp; exact .r) (by simp; exact .r) (by decide) (by simp)
theorem c_UintT (n : Int) (h0 : 0 ≤ n) (h1 : n < 18446744073709551616) : CallD Try.prog 50 [.raw (.int .u64 n)] noHeap (.sl 1 (u8s (enc 9 n))) noHeap := by
  have := (c_Uint n h0 h1).told (by simp) (by simp)
  simpa using this

/-- Rows of rows of bytes. -/
def rws (ps : List (List Int)) : List AV := ps.map fun p => AV.sl 1 (u8s p)
@[simp] theorem rws_nil : rws [] = [] := rfl
@[simp] theorem rws_cons (p : List Int) (ps : List (List Int)) : rws (p :: ps) = AV.sl 1 (u8s p) :: rws ps := rfl
@[simp] theorem rws_len (l : List (List Int)) : (rws l).length = l.length := by simp [rws]
@[simp] theorem rws_get (l : List (List Int)) (i : Nat) : (rws l)[i]? = (l[i]?).map fun p => AV.sl 1 (u8s p) := by simp [rws]
theorem rws_noid (l : List (List Int)) : AV.noids (rws l) = true := by
  rw [AV.noids_iff]; intro x hx
  obtain ⟨n, _, rfl⟩ := List.mem_map.1 hx
  rfl
@[simp] theorem rws_noids (l : List (List Int)) : AV.noids (rws l) = true := rws_noid l
@[simp] theorem rws_rows (l : List (List Int)) : AV.rowsOfs (rws l) = [] := noid_rows.2 _ (rws_noid l)
@[simp] theorem rws_deeps (h : Hp) (l : List (List Int)) : AV.deeps h (rws l) = rws l := noid_deep.2 _ (rws_noid l) h
@[simp] theorem rws_withins (h : Hp) (l : List (List Int)) : AV.withins h (rws l) = true := (noid_withins h).2 _ (rws_noid l)
@[simp] theorem rws_rens (π : Nat → Nat) (l : List (List Int)) : AV.rens π (rws l) = rws l := noid_ren.2 _ (rws_noid l) π
theorem flat_take (ps : List (List Int)) (i : Nat) (p : List Int) (hi : ps[i]? = some p) : (ps.take (i + 1)).flatten = (ps.take i).flatten ++ p := by
  rw [List.take_add_one, hi, List.flatten_append]; simp
theorem flat_le (ps : List (List Int)) (i : Nat) : (ps.take i).flatten.length ≤ ps.flatten.length := by
  have : ps.flatten = (ps.take i).flatten ++ (ps.drop i).flatten := by rw [← List.flatten_append, List.take_append_drop]
  rw [this, List.length_append]; omega
attribute [-simp] List.length_flatten in
theorem c_Join (ps : List (List Int)) (hb : ps.flatten.length ≤ 140737488355328) (hn : ps.length < 9223372036854775808) : CallD Try.prog 64 [.sl 1 (rws ps)] noHeap (.ow 99999 1 0 ps.flatten.length) (setH noHeap 99999 (.arr 1 (u8s ps.flatten))) := by
  refine calls_go (nt := 33) (rs := [.tmp 2]) Try.func64 rfl rfl rfl (by simp) (by intro id h; simp at h <;> omega) ?_; intro Q hQ hW
  repeat' (first
    | (with_reducible refine run_n ?_; with_reducible first | refine hK _ _ (by simp) ?_ | refine hK _ _ ?_; clear hK K)
    | (with_reducible first | refine awp_seq ?_ | refine then_n ?_ | refine then_r ?_ | refine then_e ?_ | refine awp_skip ?_ | refine awp_label ?_ | refine awp_ret ?_ | refine awp_exit ?_ | refine awp_block ?_ | refine awp_scope ?_ | refine in_n ?_ | refine in_r ?_ | refine in_e ?_ | refine in_ne (by decide) ?_ | refine ng_n ?_ | refine ng_r ?_ | refine ng_e ?_)
    | (with_reducible refine awp_regT (by kernel_rfl) ?_; intro K hK)
    | (with_reducible refine a_cond (ht := ?_) (hf := ?_) <;> intro hb <;> (try simp at hb) <;> (try contradiction) <;> (try subst hb) <;> (try omega))
    | (with_reducible first | refine a_move (hr := ?_) | refine a_assign (hr := ?_) | refine a_load (hr := ?_) | refine a_bin (hr := ?_) | refine a_lenS (hr := ?_) | refine a_lenR (hr := ?_) | refine a_idxArr (hr := ?_) | refine a_makeSlice (hr := ?_) | refine a_indexAddr (hr := ?_) | refine a_append (hr := ?_) | refine a_append0 (hr := ?_) | refine a_appendX (hr := ?_))
    | fail)
  refine awp_inv (α := Nat) (fun i => [(0, .sl 1 (rws ps)), (3, .raw (.int .i64 (ps.take i).flatten.length)), (9, .sl 1 (rws ps)), (10, .raw (.int .i64 ps.length)), (11, .raw (.int .i64 i))]) (fun i => noHeap) (fun i => i ≤ ps.length) (fun i => ps.length - i) 0 (by simp) (weak_env (by simp) rfl) ?_
  intro i hi
  have hle := flat_le ps i
  rcases Nat.lt_or_ge i ps.length with hlt | hge
  · have hx := List.getElem?_eq_getElem hlt
    generalize ps[i] = p at hx
    have hft := flat_take ps i p hx
    have hfl := flat_le ps (i + 1)
    rw [hft, List.length_append] at hfl
    repeat' (first
    | (with_reducible refine run_n ?_; with_reducible first | refine hK _ _ (by simp) ?_ | refine hK _ _ ?_; clear hK K)
    | (with_reducible first | refine awp_seq ?_ | refine then_n ?_ | refine then_r ?_ | refine then_e ?_ | refine awp_skip ?_ | refine awp_label ?_ | refine awp_ret ?_ | refine awp_exit ?_ | refine awp_block ?_ | refine awp_scope ?_ | refine in_n ?_ | refine in_r ?_ | refine in_e ?_ | refine in_ne (by decide) ?_ | refine ng_n ?_ | refine ng_r ?_ | refine ng_e ?_)
    | (with_reducible refine awp_regT (by kernel_rfl) ?_; intro K hK)
    | (with_reducible refine a_cond (ht := ?_) (hf := ?_) <;> intro hb <;> (try simp at hb) <;> (try contradiction) <;> (try subst hb) <;> (try omega))
    | (with_reducible first | refine a_move (hr := ?_) | refine a_assign (hr := ?_) | refine a_load (hr := ?_) | refine a_bin (hr := ?_) | refine a_lenS (hr := ?_) | refine a_lenR (hr := ?_) | refine a_idxArr (hr := ?_) | refine a_makeSlice (hr := ?_) | refine a_indexAddr (hr := ?_) | refine a_append (hr := ?_) | refine a_append0 (hr := ?_) | refine a_appendX (hr := ?_))
    | fail)
    exact ⟨i + 1, by omega, by omega, weak_env (by simp [hft]) rfl⟩
  · obtain rfl : i = ps.length := by omega
    repeat' (first
    | (with_reducible refine run_n ?_; with_reducible first | refine hK _ _ (by simp) ?_ | refine hK _ _ ?_; clear hK K)
    | (with_reducible first | refine awp_seq ?_ | refine then_n ?_ | refine then_r ?_ | refine then_e ?_ | refine awp_skip ?_ | refine awp_label ?_ | refine awp_ret ?_ | refine awp_exit ?_ | refine awp_block ?_ | refine awp_scope ?_ | refine in_n ?_ | refine in_r ?_ | refine in_e ?_ | refine in_ne (by decide) ?_ | refine ng_n ?_ | refine ng_r ?_ | refine ng_e ?_)
    | (with_reducible refine awp_regT (by kernel_rfl) ?_; intro K hK)
    | (with_reducible refine a_cond (ht := ?_) (hf := ?_) <;> intro hb <;> (try simp at hb) <;> (try contradiction) <;> (try subst hb) <;> (try omega))
    | (with_reducible first | refine a_move (hr := ?_) | refine a_assign (hr := ?_) | refine a_load (hr := ?_) | refine a_bin (hr := ?_) | refine a_lenS (hr := ?_) | refine a_lenR (hr := ?_) | refine a_idxArr (hr := ?_) | refine a_makeSlice (hr := ?_) | refine a_indexAddr (hr := ?_) | refine a_append (hr := ?_) | refine a_append0 (hr := ?_) | refine a_appendX (hr := ?_))
    | fail)
    refine awp_inv (α := Nat) (fun i => [(6, .ow 21 1 0 (ps.take i).flatten.length), (22, .sl 1 (rws ps)), (23, .raw (.int .i64 ps.length)), (24, .raw (.int .i64 i))]) (fun i => hpL [(21, .arr 1 (u8s (ps.take i).flatten))]) (fun i => i ≤ ps.length) (fun i => ps.length - i) 0 (by simp) (weak_sub (by simp <;> rfl) (by simp) (by simp)) ?_
    intro i hi
    have hle := flat_le ps i
    rcases Nat.lt_or_ge i ps.length with hlt | hge
    · have hx := List.getElem?_eq_getElem hlt
      generalize ps[i] = p at hx
      have hft := flat_take ps i p hx
      have hfl := flat_le ps (i + 1)
      rw [hft, List.length_append] at hfl
      repeat' (first
    | (with_reducible refine run_n ?_; with_reducible first | refine hK _ _ (by simp) ?_ | refine hK _ _ ?_; clear hK K)
    | (with_reducible first | refine awp_seq ?_ | refine then_n ?_ | refine then_r ?_ | refine then_e ?_ | refine awp_skip ?_ | refine awp_label ?_ | refine awp_ret ?_ | refine awp_exit ?_ | refine awp_block ?_ | refine awp_scope ?_ | refine in_n ?_ | refine in_r ?_ | refine in_e ?_ | refine in_ne (by decide) ?_ | refine ng_n ?_ | refine ng_r ?_ | refine ng_e ?_)
    | (with_reducible refine awp_regT (by kernel_rfl) ?_; intro K hK)
    | (with_reducible refine a_cond (ht := ?_) (hf := ?_) <;> intro hb <;> (try simp at hb) <;> (try contradiction) <;> (try subst hb) <;> (try omega))
    | (with_reducible first | refine a_move (hr := ?_) | refine a_assign (hr := ?_) | refine a_load (hr := ?_) | refine a_bin (hr := ?_) | refine a_lenS (hr := ?_) | refine a_lenR (hr := ?_) | refine a_idxArr (hr := ?_) | refine a_makeSlice (hr := ?_) | refine a_indexAddr (hr := ?_) | refine a_append (hr := ?_) | refine a_append0 (hr := ?_) | refine a_appendX (hr := ?_))
    | fail)
      exact ⟨i + 1, by omega, by omega, weak_ren 21 30 (by decide) (by decide) (by simp [hft]) (by simp) (by simp [hft])⟩
    · obtain rfl : i = ps.length := by omega
      repeat' (first
    | (with_reducible refine run_n ?_; with_reducible first | refine hK _ _ (by simp) ?_ | refine hK _ _ ?_; clear hK K)
    | (with_reducible first | refine awp_seq ?_ | refine then_n ?_ | refine then_r ?_ | refine then_e ?_ | refine awp_skip ?_ | refine awp_label ?_ | refine awp_ret ?_ | refine awp_exit ?_ | refine awp_block ?_ | refine awp_scope ?_ | refine in_n ?_ | refine in_r ?_ | refine in_e ?_ | refine in_ne (by decide) ?_ | refine ng_n ?_ | refine ng_r ?_ | refine ng_e ?_)
    | (with_reducible refine awp_regT (by kernel_rfl) ?_; intro K hK)
    | (with_reducible refine a_cond (ht := ?_) (hf := ?_) <;> intro hb <;> (try simp at hb) <;> (try contradiction) <;> (try subst hb) <;> (try omega))
    | (with_reducible first | refine a_move (hr := ?_) | refine a_assign (hr := ?_) | refine a_load (hr := ?_) | refine a_bin (hr := ?_) | refine a_lenS (hr := ?_) | refine a_lenR (hr := ?_) | refine a_idxArr (hr := ?_) | refine a_makeSlice (hr := ?_) | refine a_indexAddr (hr := ?_) | refine a_append (hr := ?_) | refine a_append0 (hr := ?_) | refine a_appendX (hr := ?_))
    | fail)
      (refine hQ _ _ _ _ (by first | exact .inr rfl | exact .inl rfl) (by simp; exact .r) (by simp; exact .r) ?_)
      simp only [List.take_length]
      exact Fin.row (by simp; exact .r) (by simp; exact .r) (by decide) (by simp)
end Go.Proofs.Ytdbdajmgfajcpaa.Asl
