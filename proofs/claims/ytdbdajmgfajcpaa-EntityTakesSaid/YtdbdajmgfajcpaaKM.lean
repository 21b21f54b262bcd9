/- key.Make -/
import Derived.Test.YtdbdajmgfajcpaaKS
import Derived.Test.YtdbdajmgfajcpaaAY
namespace Go.Proofs.Ytdbdajmgfajcpaa.Asl
open Go Go.RowKit
set_option linter.unusedVariables false
set_option linter.unusedSimpArgs false
set_option maxRecDepth 100000
set_option maxHeartbeats 1000000
def esc (l : List Int) : List Int := l.flatMap fun b => if b = 0 then [0, 255] else [b]
def keyb (k : Int) (ps : List ByteArray) : List Int := k :: ps.flatMap fun p => esc (bytesOf p) ++ [0, 1]
theorem keyb_take (k : Int) (ps : List ByteArray) (i : Nat) (p : ByteArray) (hi : ps[i]? = some p) : keyb k (ps.take (i + 1)) = keyb k (ps.take i) ++ (esc (bytesOf p) ++ [0, 1]) := by
  rw [keyb, keyb, List.take_add_one, hi]; simp
theorem keyb_le (k : Int) (ps : List ByteArray) (i : Nat) : (keyb k (ps.take i)).length ≤ (keyb k ps).length := by
  have : keyb k ps = keyb k (ps.take i) ++ (ps.drop i).flatMap fun p => esc (bytesOf p) ++ [0, 1] := by
    simp only [keyb, List.cons_append]
    rw [← List.flatMap_append, List.take_append_drop]
  rw [this, List.length_append]; omega
theorem esc_take (l : List Int) (j : Nat) (b : Int) (hj : l[j]? = some b) : esc (l.take (j + 1)) = esc (l.take j) ++ (if b = 0 then [0, 255] else [b]) := by
  rw [esc, esc, List.take_add_one, hj, List.flatMap_append]; simp
theorem esc_le (l : List Int) (j : Nat) : (esc (l.take j)).length ≤ (esc l).length := by
  have : esc l = esc (l.take j) ++ esc (l.drop j) := by simp only [esc]; rw [← List.flatMap_append, List.take_append_drop]
  rw [this, List.length_append]; omega
theorem c_Make (k : Int) (ps : List ByteArray) (hk : 0 ≤ k ∧ k < 256) (hb : (keyb k ps).length ≤ 140737488355328) (hn : ps.length < 9223372036854775808) (hs : ∀ p ∈ ps, p.size < 9223372036854775808) : CallD Try.prog 46 [.raw (.int .u8 k), .sl 1 (strs ps)] noHeap (.raw (.string (strOfNums (keyb k ps)))) noHeap := by
  refine calls_go (nt := 42) (rs := [.tmp 4]) Try.func46 rfl rfl rfl (by simp) (by intro id h; simp at h <;> omega) ?_; intro Q hQ hW
  repeat' (first
    | (with_reducible refine run_n ?_; with_reducible first | refine hK _ _ (by simp) ?_ | refine hK _ _ ?_; clear hK K)
    | (with_reducible first | refine awp_seq ?_ | refine then_n ?_ | refine then_r ?_ | refine then_e ?_ | refine awp_skip ?_ | refine awp_label ?_ | refine awp_ret ?_ | refine awp_exit ?_ | refine awp_block ?_ | refine awp_scope ?_ | refine in_n ?_ | refine in_r ?_ | refine in_e ?_ | refine in_ne (by decide) ?_ | refine ng_n ?_ | refine ng_r ?_ | refine ng_e ?_)
    | (with_reducible refine awp_regT (by kernel_rfl) ?_; intro K hK)
    | (with_reducible refine a_cond (ht := ?_) (hf := ?_) <;> intro hb <;> (try simp at hb) <;> (try contradiction) <;> (try subst hb) <;> (try omega))
    | (with_reducible first | refine a_move (hr := ?_) | refine a_assign (hr := ?_) | refine a_load (hr := ?_) | refine a_bin (hr := ?_) | refine a_lenS (hr := ?_) | refine a_lenR (hr := ?_) | refine a_eqB (hr := ?_) | refine a_conv (hr := ?_) | refine a_bytesStr (hr := ?_) | refine a_strBytes (hr := ?_) | refine a_idxArr (hr := ?_) | refine a_eqS (hr := ?_) | refine a_index (hr := ?_) | refine a_indexAddr (hr := ?_) | refine a_buildSlice (hr := ?_) | refine a_append (hr := ?_) | refine a_append0 (hr := ?_) | refine a_appendX (hr := ?_))
    | fail)
  refine awp_inv (α := Nat) (fun i => [(5, .ow 10 1 0 (keyb k (ps.take i)).length), (11, .sl 1 (strs ps)), (12, .raw (.int .i64 ps.length)), (13, .raw (.int .i64 i))]) (fun i => hpL [(10, .arr 1 (u8s (keyb k (ps.take i))))]) (fun i => i ≤ ps.length) (fun i => ps.length - i) 0 (by simp) (weak_sub (by simp [keyb] <;> rfl) (by simp) (by simp [keyb])) ?_
  intro i hi
  have hle := keyb_le k ps i
  rcases Nat.lt_or_ge i ps.length with hlt | hge
  · have hx := List.getElem?_eq_getElem hlt
    generalize ps[i] = p at hx
    have hsp := hs p (List.mem_of_getElem? hx)
    have hkt := keyb_take k ps i p hx
    have hkl := keyb_le k ps (i + 1)
    rw [hkt, List.length_append, List.length_append] at hkl
    have hl2 : ([0, 1] : List Int).length = 2 := rfl
    generalize hG0 : keyb k (ps.take i) = G0 at hkt hkl hle ⊢
    repeat' (first
    | (with_reducible refine run_n ?_; with_reducible first | refine hK _ _ (by simp) ?_ | refine hK _ _ ?_; clear hK K)
    | (with_reducible first | refine awp_seq ?_ | refine then_n ?_ | refine then_r ?_ | refine then_e ?_ | refine awp_skip ?_ | refine awp_label ?_ | refine awp_ret ?_ | refine awp_exit ?_ | refine awp_block ?_ | refine awp_scope ?_ | refine in_n ?_ | refine in_r ?_ | refine in_e ?_ | refine in_ne (by decide) ?_ | refine ng_n ?_ | refine ng_r ?_ | refine ng_e ?_)
    | (with_reducible refine awp_regT (by kernel_rfl) ?_; intro K hK)
    | (with_reducible refine a_cond (ht := ?_) (hf := ?_) <;> intro hb <;> (try simp at hb) <;> (try contradiction) <;> (try subst hb) <;> (try omega))
    | (with_reducible first | refine a_move (hr := ?_) | refine a_assign (hr := ?_) | refine a_load (hr := ?_) | refine a_bin (hr := ?_) | refine a_lenS (hr := ?_) | refine a_lenR (hr := ?_) | refine a_eqB (hr := ?_) | refine a_conv (hr := ?_) | refine a_bytesStr (hr := ?_) | refine a_strBytes (hr := ?_) | refine a_idxArr (hr := ?_) | refine a_eqS (hr := ?_) | refine a_index (hr := ?_) | refine a_indexAddr (hr := ?_) | refine a_buildSlice (hr := ?_) | refine a_append (hr := ?_) | refine a_append0 (hr := ?_) | refine a_appendX (hr := ?_))
    | fail)
    refine awp_inv (α := Nat) (fun j => [(5, .ow 10 1 0 (G0 ++ esc ((bytesOf p).take j)).length), (7, .raw (.string p)), (11, .sl 1 (strs ps)), (12, .raw (.int .i64 ps.length)), (13, .raw (.int .i64 i)), (18, .raw (.int .i64 p.size)), (19, .raw (.int .i64 j))]) (fun j => hpL [(10, .arr 1 (u8s (G0 ++ esc ((bytesOf p).take j))))]) (fun j => j ≤ p.size) (fun j => p.size - j) 0 (by simp) (weak_sub (by simp [esc]) (by simp) (by simp [esc])) ?_
    intro j hj
    have hel := esc_le (bytesOf p) j
    rcases Nat.lt_or_ge j p.size with hlt2 | hge2
    · have hy : (bytesOf p)[j]? = some (byteAt p j) := by
        rw [byteAt_at, List.getElem?_eq_getElem (by rw [len_bytes]; exact hlt2)]; rfl
      have het := esc_take (bytesOf p) j _ hy
      have hel2 := esc_le (bytesOf p) (j + 1)
      have hlen : (G0 ++ esc ((bytesOf p).take j)).length = G0.length + (esc ((bytesOf p).take j)).length := List.length_append
      have hG1 : G0 ++ esc ((bytesOf p).take (j + 1)) = (G0 ++ esc ((bytesOf p).take j)) ++ (if byteAt p j = 0 then [0, 255] else [byteAt p j]) := by rw [het, List.append_assoc]
      have hlen1 : (G0 ++ esc ((bytesOf p).take (j + 1))).length = G0.length + (esc ((bytesOf p).take (j + 1))).length := List.length_append
      rw [hG1, List.length_append] at hlen1
      have hl0 : (if byteAt p j = 0 then [0, 255] else [byteAt p j] : List Int).length = if byteAt p j = 0 then 2 else 1 := by split <;> rfl
      rw [hl0] at hlen1
      generalize hG : G0 ++ esc ((bytesOf p).take j) = G at hG1 hlen hlen1 ⊢
      clear hG
      by_cases hbz : byteAt p j = 0
      · rw [if_pos hbz] at hlen1 hG1
        repeat' (first
    | (with_reducible refine run_n ?_; with_reducible first | refine hK _ _ (by simp) ?_ | refine hK _ _ ?_; clear hK K)
    | (with_reducible first | refine awp_seq ?_ | refine then_n ?_ | refine then_r ?_ | refine then_e ?_ | refine awp_skip ?_ | refine awp_label ?_ | refine awp_ret ?_ | refine awp_exit ?_ | refine awp_block ?_ | refine awp_scope ?_ | refine in_n ?_ | refine in_r ?_ | refine in_e ?_ | refine in_ne (by decide) ?_ | refine ng_n ?_ | refine ng_r ?_ | refine ng_e ?_)
    | (with_reducible refine awp_regT (by kernel_rfl) ?_; intro K hK)
    | (with_reducible refine a_cond (ht := ?_) (hf := ?_) <;> intro hb <;> (try simp at hb) <;> (try contradiction) <;> (try subst hb) <;> (try omega))
    | (with_reducible first | refine a_move (hr := ?_) | refine a_assign (hr := ?_) | refine a_load (hr := ?_) | refine a_bin (hr := ?_) | refine a_lenS (hr := ?_) | refine a_lenR (hr := ?_) | refine a_eqB (hr := ?_) | refine a_conv (hr := ?_) | refine a_bytesStr (hr := ?_) | refine a_strBytes (hr := ?_) | refine a_idxArr (hr := ?_) | refine a_eqS (hr := ?_) | refine a_index (hr := ?_) | refine a_indexAddr (hr := ?_) | refine a_buildSlice (hr := ?_) | refine a_append (hr := ?_) | refine a_append0 (hr := ?_) | refine a_appendX (hr := ?_))
    | fail)
        exact ⟨j + 1, by omega, by omega, weak_ren 10 34 (by decide) (by decide) (by simp [hG1, hbz]) (by simp) (by simp [hG1])⟩
      · rw [if_neg hbz] at hlen1 hG1
        repeat' (first
    | (with_reducible refine run_n ?_; with_reducible first | refine hK _ _ (by simp) ?_ | refine hK _ _ ?_; clear hK K)
    | (with_reducible first | refine awp_seq ?_ | refine then_n ?_ | refine then_r ?_ | refine then_e ?_ | refine awp_skip ?_ | refine awp_label ?_ | refine awp_ret ?_ | refine awp_exit ?_ | refine awp_block ?_ | refine awp_scope ?_ | refine in_n ?_ | refine in_r ?_ | refine in_e ?_ | refine in_ne (by decide) ?_ | refine ng_n ?_ | refine ng_r ?_ | refine ng_e ?_)
    | (with_reducible refine awp_regT (by kernel_rfl) ?_; intro K hK)
    | (with_reducible refine a_cond (ht := ?_) (hf := ?_) <;> intro hb <;> (try simp at hb) <;> (try contradiction) <;> (try subst hb) <;> (try omega))
    | (with_reducible first | refine a_move (hr := ?_) | refine a_assign (hr := ?_) | refine a_load (hr := ?_) | refine a_bin (hr := ?_) | refine a_lenS (hr := ?_) | refine a_lenR (hr := ?_) | refine a_eqB (hr := ?_) | refine a_conv (hr := ?_) | refine a_bytesStr (hr := ?_) | refine a_strBytes (hr := ?_) | refine a_idxArr (hr := ?_) | refine a_eqS (hr := ?_) | refine a_index (hr := ?_) | refine a_indexAddr (hr := ?_) | refine a_buildSlice (hr := ?_) | refine a_append (hr := ?_) | refine a_append0 (hr := ?_) | refine a_appendX (hr := ?_))
    | fail)
        exact ⟨j + 1, by omega, by omega, weak_ren 10 27 (by decide) (by decide) (by simp [hG1]) (by simp) (by simp [hG1])⟩
    · obtain rfl : j = p.size := by omega
      have htk : (bytesOf p).take p.size = bytesOf p := List.take_of_length_le (by rw [len_bytes]; omega)
      simp only [htk]
      have hlen : (G0 ++ esc (bytesOf p)).length = G0.length + (esc (bytesOf p)).length := List.length_append
      rw [← List.append_assoc] at hkt
      generalize hG : G0 ++ esc (bytesOf p) = G at hkt hlen ⊢
      clear hG
      repeat' (first
    | (with_reducible refine run_n ?_; with_reducible first | refine hK _ _ (by simp) ?_ | refine hK _ _ ?_; clear hK K)
    | (with_reducible first | refine awp_seq ?_ | refine then_n ?_ | refine then_r ?_ | refine then_e ?_ | refine awp_skip ?_ | refine awp_label ?_ | refine awp_ret ?_ | refine awp_exit ?_ | refine awp_block ?_ | refine awp_scope ?_ | refine in_n ?_ | refine in_r ?_ | refine in_e ?_ | refine in_ne (by decide) ?_ | refine ng_n ?_ | refine ng_r ?_ | refine ng_e ?_)
    | (with_reducible refine awp_regT (by kernel_rfl) ?_; intro K hK)
    | (with_reducible refine a_cond (ht := ?_) (hf := ?_) <;> intro hb <;> (try simp at hb) <;> (try contradiction) <;> (try subst hb) <;> (try omega))
    | (with_reducible first | refine a_move (hr := ?_) | refine a_assign (hr := ?_) | refine a_load (hr := ?_) | refine a_bin (hr := ?_) | refine a_lenS (hr := ?_) | refine a_lenR (hr := ?_) | refine a_eqB (hr := ?_) | refine a_conv (hr := ?_) | refine a_bytesStr (hr := ?_) | refine a_strBytes (hr := ?_) | refine a_idxArr (hr := ?_) | refine a_eqS (hr := ?_) | refine a_index (hr := ?_) | refine a_indexAddr (hr := ?_) | refine a_buildSlice (hr := ?_) | refine a_append (hr := ?_) | refine a_append0 (hr := ?_) | refine a_appendX (hr := ?_))
    | fail)
      exact ⟨i + 1, by omega, by omega, weak_ren 10 38 (by decide) (by decide) (by simp [hkt]) (by simp) (by simp [hkt])⟩
  · obtain rfl : i = ps.length := by omega
    have htk : ps.take ps.length = ps := List.take_length
    simp only [htk]
    repeat' (first
    | (with_reducible refine run_n ?_; with_reducible first | refine hK _ _ (by simp) ?_ | refine hK _ _ ?_; clear hK K)
    | (with_reducible first | refine awp_seq ?_ | refine then_n ?_ | refine then_r ?_ | refine then_e ?_ | refine awp_skip ?_ | refine awp_label ?_ | refine awp_ret ?_ | refine awp_exit ?_ | refine awp_block ?_ | refine awp_scope ?_ | refine in_n ?_ | refine in_r ?_ | refine in_e ?_ | refine in_ne (by decide) ?_ | refine ng_n ?_ | refine ng_r ?_ | refine ng_e ?_)
    | (with_reducible refine awp_regT (by kernel_rfl) ?_; intro K hK)
    | (with_reducible refine a_cond (ht := ?_) (hf := ?_) <;> intro hb <;> (try simp at hb) <;> (try contradiction) <;> (try subst hb) <;> (try omega))
    | (with_reducible first | refine a_move (hr := ?_) | refine a_assign (hr := ?_) | refine a_load (hr := ?_) | refine a_bin (hr := ?_) | refine a_lenS (hr := ?_) | refine a_lenR (hr := ?_) | refine a_eqB (hr := ?_) | refine a_conv (hr := ?_) | refine a_bytesStr (hr := ?_) | refine a_strBytes (hr := ?_) | refine a_idxArr (hr := ?_) | refine a_eqS (hr := ?_) | refine a_index (hr := ?_) | refine a_indexAddr (hr := ?_) | refine a_buildSlice (hr := ?_) | refine a_append (hr := ?_) | refine a_append0 (hr := ?_) | refine a_appendX (hr := ?_))
    | fail)
    (refine hQ _ _ _ _ (by first | exact .inr rfl | exact .inl rfl) (by simp; exact .r) (by simp; exact .r) ?_)
    exact Fin.drop (by simp; exact .r) (by simp)
end Go.Proofs.Ytdbdajmgfajcpaa.Asl
