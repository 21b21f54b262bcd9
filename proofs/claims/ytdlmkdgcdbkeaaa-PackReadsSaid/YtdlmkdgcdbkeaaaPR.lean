/- PackReads. -/
import Derived.Test.YtdlmkdgcdbkeaaaPA
namespace Go.Proofs.Ytdlmkdgcdbkeaaa.Asl
open Go Go.RowKit
set_option linter.unusedVariables false
set_option linter.unusedSimpArgs false
set_option maxRecDepth 100000
set_option maxHeartbeats 4000000
attribute [local simp] len_bytes
def opsAV (ps : List (Int × Int)) : List AV := ps.map opAV
@[simp] theorem opsAV_len (l : List (Int × Int)) : (opsAV l).length = l.length := by simp [opsAV]
@[simp] theorem opsAV_get (l : List (Int × Int)) (i : Nat) : (opsAV l)[i]? = (l[i]?).map opAV := by simp [opsAV]
@[simp] theorem opsAV_noids (l : List (Int × Int)) : AV.noids (opsAV l) = true := by
  rw [AV.noids_iff]; intro x hx
  obtain ⟨n, _, rfl⟩ := List.mem_map.1 hx
  rfl
@[simp] theorem opsAV_rows (l : List (Int × Int)) : AV.rowsOfs (opsAV l) = [] := noid_rows.2 _ (opsAV_noids l)
@[simp] theorem opsAV_deeps (h : Hp) (l : List (Int × Int)) : AV.deeps h (opsAV l) = opsAV l := noid_deep.2 _ (opsAV_noids l) h
@[simp] theorem opsAV_withins (h : Hp) (l : List (Int × Int)) : AV.withins h (opsAV l) = true := (noid_withins h).2 _ (opsAV_noids l)
@[simp] theorem opsAV_rens (π : Nat → Nat) (l : List (Int × Int)) : AV.rens π (opsAV l) = opsAV l := noid_ren.2 _ (opsAV_noids l) π
theorem law_PackReads (bs : List Int) (l : List (Int × Int)) (hB : IsB bs) (hb' : bs.length ≤ 140737488351232) (hl : l.length ≤ 140737488351232) (hr : ∀ o ∈ l, -9223372036854775808 ≤ o.2 ∧ o.2 < 9223372036854775808) : CallD Try.prog 8 [.sl 1 (u8s bs), .sl 2 (opsAV l)] noHeap (.raw (.bool true)) noHeap := by
  have hlv := c_Live1
  by_cases h1 : 65536 < bs.length
  · refine calls_go (nt := 101) (rs := [.tmp 4]) Try.func8 rfl rfl rfl (by simp) (by intro id h; simp at h <;> omega) ?_; intro Q hQ hW
    repeat' (first
    | (with_reducible refine run_n ?_; with_reducible first | refine hK _ _ (by simp) ?_ | refine hK _ _ ?_; clear hK K)
    | (with_reducible first | refine awp_seq ?_ | refine then_n ?_ | refine then_r ?_ | refine then_e ?_ | refine awp_skip ?_ | refine awp_label ?_ | refine awp_ret ?_ | refine awp_exit ?_ | refine awp_block ?_ | refine awp_scope ?_ | refine in_n ?_ | refine in_r ?_ | refine in_e ?_ | refine in_ne (by decide) ?_ | refine ng_n ?_ | refine ng_r ?_ | refine ng_e ?_)
    | (with_reducible refine awp_regM mixed (by kernel_rfl) ?_; intro K hK)
    | (with_reducible refine awp_regAM (id := 12) [] mixed (by kernel_rfl) (by kernel_rfl) ?_; intro K hK)
    | (with_reducible refine a_cond (ht := ?_) (hf := ?_) <;> intro hb <;> (try simp at hb) <;> (try contradiction) <;> (try subst hb) <;> (try omega))
    | (with_reducible first | refine a_move (hr := ?_) | refine a_assign (hr := ?_) | refine a_load (hr := ?_) | refine a_fieldAddr (hr := ?_) | refine a_nilCheck (hr := ?_) | refine a_bin (hr := ?_) | refine a_lenS (hr := ?_) | refine a_lenR (hr := ?_) | refine a_extract (hr := ?_) | refine a_pick (hr := ?_) | refine a_un (hr := ?_) | refine a_store (hr := ?_) | refine a_alloc (hr := ?_) | refine a_eqP (hr := ?_) | refine a_neP (hr := ?_) | refine a_eqB (hr := ?_) | refine a_neB (hr := ?_) | refine a_conv (hr := ?_) | refine a_bytesStr (hr := ?_) | refine a_strBytes (hr := ?_) | refine a_idxArr (hr := ?_) | refine a_eqS (hr := ?_) | refine a_neS (hr := ?_) | refine a_indexAddr (hr := ?_) | refine a_call0 (hcall := hlv) (hr := ?_) | refine a_gT (hr := ?_) | refine a_gF (hr := ?_) | refine a_gU (hr := ?_))
    | (with_reducible refine a_gB (hT := ?_) (hF := ?_) <;> intro hb <;> (try simp at hb) <;> (try contradiction) <;> (try subst hb) <;> (try omega))
    | fail)
    (refine hQ _ _ _ _ (by first | exact .inr rfl | exact .inl rfl) (by simp; exact .r) (by simp; exact .r) ?_)
    exact Fin.drop (by simp; exact .r) (by simp)
  by_cases h2 : 200 < l.length
  · refine calls_go (nt := 101) (rs := [.tmp 4]) Try.func8 rfl rfl rfl (by simp) (by intro id h; simp at h <;> omega) ?_; intro Q hQ hW
    repeat' (first
    | (with_reducible refine run_n ?_; with_reducible first | refine hK _ _ (by simp) ?_ | refine hK _ _ ?_; clear hK K)
    | (with_reducible first | refine awp_seq ?_ | refine then_n ?_ | refine then_r ?_ | refine then_e ?_ | refine awp_skip ?_ | refine awp_label ?_ | refine awp_ret ?_ | refine awp_exit ?_ | refine awp_block ?_ | refine awp_scope ?_ | refine in_n ?_ | refine in_r ?_ | refine in_e ?_ | refine in_ne (by decide) ?_ | refine ng_n ?_ | refine ng_r ?_ | refine ng_e ?_)
    | (with_reducible refine awp_regM mixed (by kernel_rfl) ?_; intro K hK)
    | (with_reducible refine awp_regAM (id := 12) [] mixed (by kernel_rfl) (by kernel_rfl) ?_; intro K hK)
    | (with_reducible refine a_cond (ht := ?_) (hf := ?_) <;> intro hb <;> (try simp at hb) <;> (try contradiction) <;> (try subst hb) <;> (try omega))
    | (with_reducible first | refine a_move (hr := ?_) | refine a_assign (hr := ?_) | refine a_load (hr := ?_) | refine a_fieldAddr (hr := ?_) | refine a_nilCheck (hr := ?_) | refine a_bin (hr := ?_) | refine a_lenS (hr := ?_) | refine a_lenR (hr := ?_) | refine a_extract (hr := ?_) | refine a_pick (hr := ?_) | refine a_un (hr := ?_) | refine a_store (hr := ?_) | refine a_alloc (hr := ?_) | refine a_eqP (hr := ?_) | refine a_neP (hr := ?_) | refine a_eqB (hr := ?_) | refine a_neB (hr := ?_) | refine a_conv (hr := ?_) | refine a_bytesStr (hr := ?_) | refine a_strBytes (hr := ?_) | refine a_idxArr (hr := ?_) | refine a_eqS (hr := ?_) | refine a_neS (hr := ?_) | refine a_indexAddr (hr := ?_) | refine a_call0 (hcall := hlv) (hr := ?_) | refine a_gT (hr := ?_) | refine a_gF (hr := ?_) | refine a_gU (hr := ?_))
    | (with_reducible refine a_gB (hT := ?_) (hF := ?_) <;> intro hb <;> (try simp at hb) <;> (try contradiction) <;> (try subst hb) <;> (try omega))
    | fail)
    (refine hQ _ _ _ _ (by first | exact .inr rfl | exact .inl rfl) (by simp; exact .r) (by simp; exact .r) ?_)
    exact Fin.drop (by simp; exact .r) (by simp)
  have ca := c_Read bs hb'
  have cb := c_RfRead bs hb'
  refine calls_go (nt := 101) (rs := [.tmp 4]) Try.func8 rfl rfl rfl (by simp) (by intro id h; simp at h <;> omega) ?_; intro Q hQ hW
  repeat' (first
    | (with_reducible refine run_n ?_; with_reducible first | refine hK _ _ (by simp) ?_ | refine hK _ _ ?_; clear hK K)
    | (with_reducible first | refine awp_seq ?_ | refine then_n ?_ | refine then_r ?_ | refine then_e ?_ | refine awp_skip ?_ | refine awp_label ?_ | refine awp_ret ?_ | refine awp_exit ?_ | refine awp_block ?_ | refine awp_scope ?_ | refine in_n ?_ | refine in_r ?_ | refine in_e ?_ | refine in_ne (by decide) ?_ | refine ng_n ?_ | refine ng_r ?_ | refine ng_e ?_)
    | (with_reducible refine awp_regM mixed (by kernel_rfl) ?_; intro K hK)
    | (with_reducible refine awp_regAM (id := 12) [] mixed (by kernel_rfl) (by kernel_rfl) ?_; intro K hK)
    | (with_reducible refine a_cond (ht := ?_) (hf := ?_) <;> intro hb <;> (try simp at hb) <;> (try contradiction) <;> (try subst hb) <;> (try omega))
    | (with_reducible first | refine a_move (hr := ?_) | refine a_assign (hr := ?_) | refine a_load (hr := ?_) | refine a_fieldAddr (hr := ?_) | refine a_nilCheck (hr := ?_) | refine a_bin (hr := ?_) | refine a_lenS (hr := ?_) | refine a_lenR (hr := ?_) | refine a_extract (hr := ?_) | refine a_pick (hr := ?_) | refine a_un (hr := ?_) | refine a_store (hr := ?_) | refine a_alloc (hr := ?_) | refine a_eqP (hr := ?_) | refine a_neP (hr := ?_) | refine a_eqB (hr := ?_) | refine a_neB (hr := ?_) | refine a_conv (hr := ?_) | refine a_bytesStr (hr := ?_) | refine a_strBytes (hr := ?_) | refine a_idxArr (hr := ?_) | refine a_eqS (hr := ?_) | refine a_neS (hr := ?_) | refine a_indexAddr (hr := ?_) | refine a_call0 (hcall := hlv) (hr := ?_) | refine a_callB (hcall := ca) (hr := ?_) | refine a_callB (hcall := cb) (hr := ?_) | refine a_gT (hr := ?_) | refine a_gF (hr := ?_) | refine a_gU (hr := ?_))
    | (with_reducible refine a_gB (hT := ?_) (hF := ?_) <;> intro hb <;> (try simp at hb) <;> (try contradiction) <;> (try subst hb) <;> (try omega))
    | fail)
  refine awp_inv (α := Nat × Nat × Int) (fun p => [(0, .sl 1 (u8s bs)), (5, .raw (.string (strOfNums bs))), (6, .ptr 32 0), (7, .ptr 34 0), (37, .sl 2 (opsAV l)), (38, .raw (.int .i64 l.length)), (39, .raw (.int .i64 p.1))]) (fun p => hpL [(32, .box (rdAV bs p.2.1 p.2.2)), (34, .box (rfAV (bs.drop p.2.1) p.2.2))]) (fun p => p.1 ≤ l.length ∧ p.2.1 ≤ bs.length) (fun p => l.length - p.1) (0, 0, 0) ⟨by simp, by simp⟩ (weak_o (by repeat' (first | refine sub_ohp (by first | (simp; done) | (intro hne; simp at hne; simp [hne])) (by simp) ?_ | exact sub_hpL (by simp))) (by simp) (by simp <;> omega)) ?_
  rintro ⟨i, a, e⟩ ⟨g1, g2⟩
  simp only at g1 g2 ⊢
  rcases Nat.lt_or_ge i l.length with hlt | hge
  · have hx := List.getElem?_eq_getElem hlt
    have hro := hr l[i] (List.getElem_mem hlt)
    generalize l[i] = o at hx hro
    obtain ⟨d, n⟩ := o
    have c1 := c_does bs a e d n hB (by omega) g2 hro
    have c2 := c_should (bs.drop a) e d n (isB_drop hB a) (by rw [List.length_drop]; omega) hro
    have hk := rd1_le (isB_drop hB a) d n e
    rw [List.length_drop] at hk
    generalize rd1 d n (bs.drop a) e = z at c1 c2 hk
    obtain ⟨⟨r1, r2, r3⟩, k, e2⟩ := z
    simp only at c1 c2 hk
    have c3 := c_Left bs (a + k) e2 (by omega) (by omega)
    rw [show (bs.length : Int) - ((a + k : Nat) : Int) = ((bs.length - (a + k) : Nat) : Int) by omega, ← List.length_drop] at c3
    have c4 := c_Err bs ((a + k : Nat) : Int) e2
    have c5 := c_End bs (a + k) e2 (by omega) (by omega)
    have c6 := c_RfEnd (bs.drop (a + k)) e2 (by rw [List.length_drop]; omega)
    rw [List.drop_drop] at c2
    generalize hz : a + k = a2 at c1 c2 c3 c4 c5 c6
    repeat' (first
    | (with_reducible refine run_n ?_; with_reducible first | refine hK _ _ (by simp) ?_ | refine hK _ _ ?_; clear hK K)
    | (with_reducible first | refine awp_seq ?_ | refine then_n ?_ | refine then_r ?_ | refine then_e ?_ | refine awp_skip ?_ | refine awp_label ?_ | refine awp_ret ?_ | refine awp_exit ?_ | refine awp_block ?_ | refine awp_scope ?_ | refine in_n ?_ | refine in_r ?_ | refine in_e ?_ | refine in_ne (by decide) ?_ | refine ng_n ?_ | refine ng_r ?_ | refine ng_e ?_)
    | (with_reducible refine awp_regM mixed (by kernel_rfl) ?_; intro K hK)
    | (with_reducible refine awp_regCM (id := 12) [] [(71, some 32), (75, some 34), (76, none), (81, some 32), (85, some 34), (90, some 32), (92, some 34)] mixed (by kernel_rfl) (by kernel_rfl) (by kernel_rfl) ?_; intro K hK)
    | (with_reducible refine a_cond (ht := ?_) (hf := ?_) <;> intro hb <;> (try simp at hb) <;> (try contradiction) <;> (try subst hb) <;> (try omega))
    | (with_reducible first | refine a_move (hr := ?_) | refine a_assign (hr := ?_) | refine a_load (hr := ?_) | refine a_fieldAddr (hr := ?_) | refine a_nilCheck (hr := ?_) | refine a_bin (hr := ?_) | refine a_lenS (hr := ?_) | refine a_lenR (hr := ?_) | refine a_extract (hr := ?_) | refine a_pick (hr := ?_) | refine a_un (hr := ?_) | refine a_store (hr := ?_) | refine a_alloc (hr := ?_) | refine a_eqP (hr := ?_) | refine a_neP (hr := ?_) | refine a_eqB (hr := ?_) | refine a_neB (hr := ?_) | refine a_conv (hr := ?_) | refine a_bytesStr (hr := ?_) | refine a_strBytes (hr := ?_) | refine a_idxArr (hr := ?_) | refine a_eqS (hr := ?_) | refine a_neS (hr := ?_) | refine a_indexAddr (hr := ?_) | refine a_callP (p := 32) (hcall := c1) (hr := ?_) | refine a_callP (p := 34) (hcall := c2) (hr := ?_) | refine a_callP (p := 32) (hcall := c3) (hr := ?_) | refine a_callP (p := 32) (hcall := c4) (hr := ?_) | refine a_callP (p := 32) (hcall := c5) (hr := ?_) | refine a_callP (p := 34) (hcall := c6) (hr := ?_) | refine a_gT (hr := ?_) | refine a_gF (hr := ?_) | refine a_gU (hr := ?_))
    | (with_reducible refine a_gB (hT := ?_) (hF := ?_) <;> intro hb <;> (try simp at hb) <;> (try contradiction) <;> (try subst hb) <;> (try omega))
    | fail)
    exact ⟨(i + 1, a2, e2), by simp only; omega, ⟨by simp only; omega, by simp only; omega⟩, weak_o (by repeat' (first | refine sub_ohp (by first | (simp; done) | (intro hne; simp at hne; simp [hne])) (by simp) ?_ | exact sub_hpL (by simp))) (by simp) (by simp <;> omega)⟩
  · obtain rfl : i = l.length := by omega
    repeat' (first
    | (with_reducible refine run_n ?_; with_reducible first | refine hK _ _ (by simp) ?_ | refine hK _ _ ?_; clear hK K)
    | (with_reducible first | refine awp_seq ?_ | refine then_n ?_ | refine then_r ?_ | refine then_e ?_ | refine awp_skip ?_ | refine awp_label ?_ | refine awp_ret ?_ | refine awp_exit ?_ | refine awp_block ?_ | refine awp_scope ?_ | refine in_n ?_ | refine in_r ?_ | refine in_e ?_ | refine in_ne (by decide) ?_ | refine ng_n ?_ | refine ng_r ?_ | refine ng_e ?_)
    | (with_reducible refine awp_regM mixed (by kernel_rfl) ?_; intro K hK)
    | (with_reducible refine awp_regAM (id := 12) [] mixed (by kernel_rfl) (by kernel_rfl) ?_; intro K hK)
    | (with_reducible refine a_cond (ht := ?_) (hf := ?_) <;> intro hb <;> (try simp at hb) <;> (try contradiction) <;> (try subst hb) <;> (try omega))
    | (with_reducible first | refine a_move (hr := ?_) | refine a_assign (hr := ?_) | refine a_load (hr := ?_) | refine a_fieldAddr (hr := ?_) | refine a_nilCheck (hr := ?_) | refine a_bin (hr := ?_) | refine a_lenS (hr := ?_) | refine a_lenR (hr := ?_) | refine a_extract (hr := ?_) | refine a_pick (hr := ?_) | refine a_un (hr := ?_) | refine a_store (hr := ?_) | refine a_alloc (hr := ?_) | refine a_eqP (hr := ?_) | refine a_neP (hr := ?_) | refine a_eqB (hr := ?_) | refine a_neB (hr := ?_) | refine a_conv (hr := ?_) | refine a_bytesStr (hr := ?_) | refine a_strBytes (hr := ?_) | refine a_idxArr (hr := ?_) | refine a_eqS (hr := ?_) | refine a_neS (hr := ?_) | refine a_indexAddr (hr := ?_) | refine a_gT (hr := ?_) | refine a_gF (hr := ?_) | refine a_gU (hr := ?_))
    | (with_reducible refine a_gB (hT := ?_) (hF := ?_) <;> intro hb <;> (try simp at hb) <;> (try contradiction) <;> (try subst hb) <;> (try omega))
    | fail)
    (refine hQ _ _ _ _ (by first | exact .inr rfl | exact .inl rfl) (by simp; exact .r) (by simp; exact .r) ?_)
    exact Fin.drop (by simp; exact .r) (by simp)
end Go.Proofs.Ytdlmkdgcdbkeaaa.Asl
