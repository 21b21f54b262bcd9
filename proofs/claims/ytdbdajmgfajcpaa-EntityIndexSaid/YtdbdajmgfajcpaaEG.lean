/- EntityIndex. -/
import Derived.Test.YtdbdajmgfajcpaaEF
import Derived.Test.YtdbdajmgfajcpaaE6
namespace Go.Proofs.Ytdbdajmgfajcpaa.Asl
open Go Go.RowKit
set_option linter.unusedVariables false
set_option linter.unusedSimpArgs false
set_option maxRecDepth 100000
set_option maxHeartbeats 4000000
theorem keyV_of {r : RefV} (hl : (lay r.k).2 = true) (hb : r = bareP r) : ∃ a, keyV r = (a, 0) := ⟨_, by unfold keyV; rw [if_neg (by simp [hl]), if_pos hb]⟩
theorem keyV_idx {i n y : ByteArray} {t o k d : Int} (h : armB k n y d = true) (ht : inU t) (ho : inU o) (hd : inU d) : ∃ a, keyV (idx i t o k n y d) = (a, 0) := by
  have e1 := digV_hexs ht
  have e2 := digV_hexs ho
  have e3 := digV_hexs hd
  rcases armB_k h with ⟨rfl, rfl, rfl⟩ | ⟨rfl, _, _, rfl⟩ | ⟨rfl, _, rfl, rfl⟩
  all_goals (refine keyV_of (by simp [idx, lay]) ?_)
  all_goals (simp [idx, lay, bareP, codes, bytesOf, code, setP, getP, RefV.of, e1, e2, e3])
theorem idx_inj {i n y i' n' y' : ByteArray} {t o k d t' o' k' d' : Int} (h : armB k n y d = true) (h' : armB k' n' y' d' = true) (e : idx i t o k n y d = idx i' t' o' k' n' y' d') : (i = i' ∧ t = t' ∧ o = o') ∧ k = k' ∧ n = n' ∧ y = y' ∧ d = d' := by
  rcases armB_k h with ⟨rfl, rfl, rfl⟩ | ⟨rfl, _, _, rfl⟩ | ⟨rfl, _, rfl, rfl⟩ <;> rcases armB_k h' with ⟨rfl, rfl, rfl⟩ | ⟨rfl, _, _, rfl⟩ | ⟨rfl, _, rfl, rfl⟩ <;> simp [idx] at e <;> simp [e]
theorem idx_short {i n y : ByteArray} {t o k d : Int} (ht : inU t) (ho : inU o) (hd : inU d) (hi : i.size ≤ 1000) (hn : n.size ≤ 1000) (hy : y.size ≤ 1000) : (idx i t o k n y d).short := by
  unfold idx RefV.short RefV.ok inU at *
  repeat' split
  all_goals simp; try omega
theorem law_EntityIndex (i i' : ByteArray) (t o t' o' k k' : Int) (n y n' y' : ByteArray) (d d' : Int) (ht : inU t) (ho : inU o) (ht' : inU t') (ho' : inU o') (hd : inU d) (hd' : inU d')
    (z1 : i.size ≤ 140737488351232) (z2 : i'.size ≤ 140737488351232) (z3 : n.size ≤ 140737488351232) (z4 : y.size ≤ 140737488351232) (z5 : n'.size ≤ 140737488351232) (z6 : y'.size ≤ 140737488351232) :
    CallD Try.prog 5 [.raw (.string i), .raw (.string i'), .raw (.int .u64 t), .raw (.int .u64 o), .raw (.int .u64 t'), .raw (.int .u64 o'), armAV k n y d, armAV k' n' y' d'] noHeap (.raw (.bool true)) noHeap := by
  have hlv := c_live
  by_cases hz : 1000 < i.size + i'.size + n.size + y.size + n'.size + y'.size
  · refine calls_go (nt := 118) (rs := [.tmp 16]) Try.func5 rfl rfl rfl (by simp) (by intro id h; simp at h <;> omega) ?_; intro Q hQ hW
    repeat' (first
    | (with_reducible refine run_n ?_; with_reducible first | refine hK _ _ (by simp) ?_ | refine hK _ _ ?_; clear hK K)
    | (with_reducible first | refine awp_seq ?_ | refine then_n ?_ | refine then_r ?_ | refine then_e ?_ | refine awp_skip ?_ | refine awp_label ?_ | refine awp_ret ?_ | refine awp_exit ?_ | refine awp_block ?_ | refine awp_scope ?_ | refine in_n ?_ | refine in_r ?_ | refine in_e ?_ | refine in_ne (by decide) ?_ | refine ng_n ?_ | refine ng_r ?_ | refine ng_e ?_)
    | (with_reducible refine awp_regT (by kernel_rfl) ?_; intro K hK)
    | (with_reducible refine a_cond (ht := ?_) (hf := ?_) <;> intro hb <;> (try simp at hb) <;> (try contradiction) <;> (try subst hb) <;> (try omega))
    | (with_reducible first | refine a_move (hr := ?_) | refine a_assign (hr := ?_) | refine a_load (hr := ?_) | refine a_fieldAddr (hr := ?_) | refine a_bin (hr := ?_) | refine a_lenS (hr := ?_) | refine a_lenR (hr := ?_) | refine a_extract (hr := ?_) | refine a_pick (hr := ?_) | refine a_un (hr := ?_) | refine a_box (hr := ?_) | refine a_eqB (hr := ?_) | refine a_neB (hr := ?_) | refine a_eqS (hr := ?_) | refine a_neS (hr := ?_) | refine a_call0 (hcall := hlv) (hr := ?_) | refine a_gT (hr := ?_) | refine a_gF (hr := ?_) | refine a_gU (hr := ?_))
    | (with_reducible refine a_gB (hT := ?_) (hF := ?_) <;> intro hb <;> (try simp at hb) <;> (try contradiction) <;> (try subst hb) <;> (try omega))
    | fail)
    all_goals ((refine hQ _ _ _ _ (by first | exact .inr rfl | exact .inl rfl) (by simp; exact .r) (by simp; exact .r) ?_))
    all_goals (exact Fin.drop (by simp; exact .r) (by simp))
  have p1 := c_PutArm k n y d z3 z4 hd
  have p2 := c_PutArm k' n' y' d' z5 z6 hd'
  by_cases hB1 : armB k n y d = true
  · have hne1 : putArm k n y d ≠ [] := by
      unfold putArm; rw [if_pos hB1]; repeat' split
      all_goals simp
    by_cases hB2 : armB k' n' y' d' = true
    · have hne2 : putArm k' n' y' d' ≠ [] := by
        unfold putArm; rw [if_pos hB2]; repeat' split
        all_goals simp
      generalize putArm k n y d = pa at p1 hne1
      generalize putArm k' n' y' d' = pb at p2 hne2
      have x1 := c_Index i t o k n y d
      have x2 := c_Index i' t' o' k' n' y' d'
      obtain ⟨a1, e1⟩ := keyV_idx (i := i) hB1 ht ho hd
      obtain ⟨a2, e2⟩ := keyV_idx (i := i') hB2 ht' ho' hd'
      have s1 := idx_short (k := k) ht ho hd (show i.size ≤ 1000 by omega) (show n.size ≤ 1000 by omega) (show y.size ≤ 1000 by omega)
      have s2 := idx_short (k := k') ht' ho' hd' (show i'.size ≤ 1000 by omega) (show n'.size ≤ 1000 by omega) (show y'.size ≤ 1000 by omega)
      have k1 := c_Key _ s1
      have k2 := c_Key _ s2
      rw [e1] at k1
      rw [e2] at k2
      simp only at k1 k2
      have q1 := key_split s1.1 s1.2.2.2.2.2 e1
      have q2 := key_split s2.1 s2.2.2.2.2.2 e2
      have hl1 : (pa.length : Int) ≠ 0 := by have := List.length_pos_iff.2 hne1; omega
      have hl2 : (pb.length : Int) ≠ 0 := by have := List.length_pos_iff.2 hne2; omega
      by_cases ha : a1 = a2
      · subst ha
        have hi := idx_inj hB1 hB2 (by rw [q1] at q2; exact (Prod.mk.inj q2).1)
        obtain ⟨⟨rfl, rfl, rfl⟩, rfl, rfl, rfl, rfl⟩ := hi
        clear q1 q2 e1 e2 s1 s2 k2 x2 p2
        generalize idx i t o k n y d = r at x1 k1
        obtain ⟨r1, r2, r3, r4, r5, r6, r7, r8⟩ := r
        refine calls_go (nt := 118) (rs := [.tmp 16]) Try.func5 rfl rfl rfl (by simp) (by intro id h; simp at h <;> omega) ?_; intro Q hQ hW
        repeat' (first
    | (with_reducible refine run_n ?_; with_reducible first | refine hK _ _ (by simp) ?_ | refine hK _ _ ?_; clear hK K)
    | (with_reducible first | refine awp_seq ?_ | refine then_n ?_ | refine then_r ?_ | refine then_e ?_ | refine awp_skip ?_ | refine awp_label ?_ | refine awp_ret ?_ | refine awp_exit ?_ | refine awp_block ?_ | refine awp_scope ?_ | refine in_n ?_ | refine in_r ?_ | refine in_e ?_ | refine in_ne (by decide) ?_ | refine ng_n ?_ | refine ng_r ?_ | refine ng_e ?_)
    | (with_reducible refine awp_regT (by kernel_rfl) ?_; intro K hK)
    | (with_reducible refine a_cond (ht := ?_) (hf := ?_) <;> intro hb <;> (try simp at hb) <;> (try contradiction) <;> (try subst hb) <;> (try omega))
    | (with_reducible first | refine a_move (hr := ?_) | refine a_assign (hr := ?_) | refine a_load (hr := ?_) | refine a_fieldAddr (hr := ?_) | refine a_bin (hr := ?_) | refine a_lenS (hr := ?_) | refine a_lenR (hr := ?_) | refine a_extract (hr := ?_) | refine a_pick (hr := ?_) | refine a_un (hr := ?_) | refine a_box (hr := ?_) | refine a_eqB (hr := ?_) | refine a_neB (hr := ?_) | refine a_eqS (hr := ?_) | refine a_neS (hr := ?_) | refine a_call0 (hcall := hlv) (hr := ?_) | refine a_callN (hcall := p1) (hr := ?_) | refine a_call0 (hcall := x1) (hr := ?_) | refine a_call0 (hcall := k1) (hr := ?_) | refine a_gT (hr := ?_) | refine a_gF (hr := ?_) | refine a_gU (hr := ?_))
    | (with_reducible refine a_gB (hT := ?_) (hF := ?_) <;> intro hb <;> (try simp at hb) <;> (try contradiction) <;> (try subst hb) <;> (try omega))
    | fail)
        all_goals ((refine hQ _ _ _ _ (by first | exact .inr rfl | exact .inl rfl) (by simp; exact .r) (by simp; exact .r) ?_))
        all_goals (exact Fin.drop (by simp; exact .r) (by simp))
      · clear q1 q2 e1 e2 s1 s2
        generalize idx i t o k n y d = r at x1 k1
        obtain ⟨r1, r2, r3, r4, r5, r6, r7, r8⟩ := r
        generalize idx i' t' o' k' n' y' d' = w at x2 k2
        obtain ⟨w1, w2, w3, w4, w5, w6, w7, w8⟩ := w
        refine calls_go (nt := 118) (rs := [.tmp 16]) Try.func5 rfl rfl rfl (by simp) (by intro id h; simp at h <;> omega) ?_; intro Q hQ hW
        repeat' (first
    | (with_reducible refine run_n ?_; with_reducible first | refine hK _ _ (by simp) ?_ | refine hK _ _ ?_; clear hK K)
    | (with_reducible first | refine awp_seq ?_ | refine then_n ?_ | refine then_r ?_ | refine then_e ?_ | refine awp_skip ?_ | refine awp_label ?_ | refine awp_ret ?_ | refine awp_exit ?_ | refine awp_block ?_ | refine awp_scope ?_ | refine in_n ?_ | refine in_r ?_ | refine in_e ?_ | refine in_ne (by decide) ?_ | refine ng_n ?_ | refine ng_r ?_ | refine ng_e ?_)
    | (with_reducible refine awp_regT (by kernel_rfl) ?_; intro K hK)
    | (with_reducible refine a_cond (ht := ?_) (hf := ?_) <;> intro hb <;> (try simp at hb) <;> (try contradiction) <;> (try subst hb) <;> (try omega))
    | (with_reducible first | refine a_move (hr := ?_) | refine a_assign (hr := ?_) | refine a_load (hr := ?_) | refine a_fieldAddr (hr := ?_) | refine a_bin (hr := ?_) | refine a_lenS (hr := ?_) | refine a_lenR (hr := ?_) | refine a_extract (hr := ?_) | refine a_pick (hr := ?_) | refine a_un (hr := ?_) | refine a_box (hr := ?_) | refine a_eqB (hr := ?_) | refine a_neB (hr := ?_) | refine a_eqS (hr := ?_) | refine a_neS (hr := ?_) | refine a_call0 (hcall := hlv) (hr := ?_) | refine a_callN (hcall := p1) (hr := ?_) | refine a_callN (hcall := p2) (hr := ?_) | refine a_call0 (hcall := x1) (hr := ?_) | refine a_call0 (hcall := x2) (hr := ?_) | refine a_call0 (hcall := k1) (hr := ?_) | refine a_call0 (hcall := k2) (hr := ?_) | refine a_gT (hr := ?_) | refine a_gF (hr := ?_) | refine a_gU (hr := ?_))
    | (with_reducible refine a_gB (hT := ?_) (hF := ?_) <;> intro hb <;> (try simp at hb) <;> (try contradiction) <;> (try subst hb) <;> (try omega))
    | fail)
        all_goals ((refine hQ _ _ _ _ (by first | exact .inr rfl | exact .inl rfl) (by simp; exact .r) (by simp; exact .r) ?_))
        all_goals (try simp only [decide_eq_false ha, Bool.not_false])
        all_goals (exact Fin.drop (by simp; exact .r) (by simp))
    · rw [show putArm k' n' y' d' = [] by unfold putArm; rw [if_neg hB2]] at p2
      generalize putArm k n y d = pa at p1 hne1
      have hl1 : (pa.length : Int) ≠ 0 := by have := List.length_pos_iff.2 hne1; omega
      refine calls_go (nt := 118) (rs := [.tmp 16]) Try.func5 rfl rfl rfl (by simp) (by intro id h; simp at h <;> omega) ?_; intro Q hQ hW
      repeat' (first
    | (with_reducible refine run_n ?_; with_reducible first | refine hK _ _ (by simp) ?_ | refine hK _ _ ?_; clear hK K)
    | (with_reducible first | refine awp_seq ?_ | refine then_n ?_ | refine then_r ?_ | refine then_e ?_ | refine awp_skip ?_ | refine awp_label ?_ | refine awp_ret ?_ | refine awp_exit ?_ | refine awp_block ?_ | refine awp_scope ?_ | refine in_n ?_ | refine in_r ?_ | refine in_e ?_ | refine in_ne (by decide) ?_ | refine ng_n ?_ | refine ng_r ?_ | refine ng_e ?_)
    | (with_reducible refine awp_regT (by kernel_rfl) ?_; intro K hK)
    | (with_reducible refine a_cond (ht := ?_) (hf := ?_) <;> intro hb <;> (try simp at hb) <;> (try contradiction) <;> (try subst hb) <;> (try omega))
    | (with_reducible first | refine a_move (hr := ?_) | refine a_assign (hr := ?_) | refine a_load (hr := ?_) | refine a_fieldAddr (hr := ?_) | refine a_bin (hr := ?_) | refine a_lenS (hr := ?_) | refine a_lenR (hr := ?_) | refine a_extract (hr := ?_) | refine a_pick (hr := ?_) | refine a_un (hr := ?_) | refine a_box (hr := ?_) | refine a_eqB (hr := ?_) | refine a_neB (hr := ?_) | refine a_eqS (hr := ?_) | refine a_neS (hr := ?_) | refine a_call0 (hcall := hlv) (hr := ?_) | refine a_callN (hcall := p1) (hr := ?_) | refine a_callN (hcall := p2) (hr := ?_) | refine a_gT (hr := ?_) | refine a_gF (hr := ?_) | refine a_gU (hr := ?_))
    | (with_reducible refine a_gB (hT := ?_) (hF := ?_) <;> intro hb <;> (try simp at hb) <;> (try contradiction) <;> (try subst hb) <;> (try omega))
    | fail)
      all_goals ((refine hQ _ _ _ _ (by first | exact .inr rfl | exact .inl rfl) (by simp; exact .r) (by simp; exact .r) ?_))
      all_goals (exact Fin.drop (by simp; exact .r) (by simp))
  · rw [show putArm k n y d = [] by unfold putArm; rw [if_neg hB1]] at p1
    refine calls_go (nt := 118) (rs := [.tmp 16]) Try.func5 rfl rfl rfl (by simp) (by intro id h; simp at h <;> omega) ?_; intro Q hQ hW
    repeat' (first
    | (with_reducible refine run_n ?_; with_reducible first | refine hK _ _ (by simp) ?_ | refine hK _ _ ?_; clear hK K)
    | (with_reducible first | refine awp_seq ?_ | refine then_n ?_ | refine then_r ?_ | refine then_e ?_ | refine awp_skip ?_ | refine awp_label ?_ | refine awp_ret ?_ | refine awp_exit ?_ | refine awp_block ?_ | refine awp_scope ?_ | refine in_n ?_ | refine in_r ?_ | refine in_e ?_ | refine in_ne (by decide) ?_ | refine ng_n ?_ | refine ng_r ?_ | refine ng_e ?_)
    | (with_reducible refine awp_regT (by kernel_rfl) ?_; intro K hK)
    | (with_reducible refine a_cond (ht := ?_) (hf := ?_) <;> intro hb <;> (try simp at hb) <;> (try contradiction) <;> (try subst hb) <;> (try omega))
    | (with_reducible first | refine a_move (hr := ?_) | refine a_assign (hr := ?_) | refine a_load (hr := ?_) | refine a_fieldAddr (hr := ?_) | refine a_bin (hr := ?_) | refine a_lenS (hr := ?_) | refine a_lenR (hr := ?_) | refine a_extract (hr := ?_) | refine a_pick (hr := ?_) | refine a_un (hr := ?_) | refine a_box (hr := ?_) | refine a_eqB (hr := ?_) | refine a_neB (hr := ?_) | refine a_eqS (hr := ?_) | refine a_neS (hr := ?_) | refine a_call0 (hcall := hlv) (hr := ?_) | refine a_callN (hcall := p1) (hr := ?_) | refine a_gT (hr := ?_) | refine a_gF (hr := ?_) | refine a_gU (hr := ?_))
    | (with_reducible refine a_gB (hT := ?_) (hF := ?_) <;> intro hb <;> (try simp at hb) <;> (try contradiction) <;> (try subst hb) <;> (try omega))
    | fail)
    all_goals ((refine hQ _ _ _ _ (by first | exact .inr rfl | exact .inl rfl) (by simp; exact .r) (by simp; exact .r) ?_))
    all_goals (exact Fin.drop (by simp; exact .r) (by simp))
end Go.Proofs.Ytdbdajmgfajcpaa.Asl
