/- Chapter 15: the law EntityKeys. -/
import Derived.Test.YtdbdajmgfajcpaaED
import Derived.Test.YtdbdajmgfajcpaaE4
namespace Go.Proofs.Ytdbdajmgfajcpaa.Asl
open Go Go.RowKit
set_option linter.unusedVariables false
set_option linter.unusedSimpArgs false
set_option maxRecDepth 100000
set_option maxHeartbeats 2000000
theorem shortB_of {r : RefV} (h : shortB r = true) : r.n.size ≤ 200 ∧ r.y.size ≤ 200 ∧ r.d.size ≤ 200 ∧ r.i.size ≤ 200 := by
  simpa [shortB] using h
theorem law_EntityKeys (r : RefV) (s : ByteArray) (m : Int) (hk : 0 ≤ r.k ∧ r.k < 256) (hr : r.ok) (hm0 : -9223372036854775808 ≤ m) (hm1 : m < 9223372036854775808) (hs : s.size ≤ 140737488351232) :
    CallD Try.prog 7 [r.av, .raw (.string s), .raw (.int .i64 m)] noHeap (.raw (.bool true)) noHeap := by
  have hsh := c_short r
  by_cases hB : shortB r = true ∧ s.size ≤ 1000
  · rw [hB.1] at hsh
    have hz := shortB_of hB.1
    have hrs : r.short := ⟨hr, by omega, by omega, by omega, by omega, hk.1, hk.2⟩
    have h1 := c_Key r hrs
    have h2 := c_rKey r hrs
    have h3 := c_Split s (by omega)
    have h4 := c_rSplit s (by omega)
    have h5 := c_Under15 r m hrs hm0 hm1
    have h6 := c_rUnder r m hrs hm0 hm1
    have hB2 := hB.2
    generalize keyV r = kv at h1 h2
    generalize splitV s = sv at h3 h4
    generalize underV r m = uv at h5 h6
    obtain ⟨sr, se⟩ := sv
    obtain ⟨k', n', y', d', i', t', o', a'⟩ := sr
    simp only [splitAV] at h3 h4
    clear hB hz hrs hr hk
    obtain ⟨k, n, y, d, i, t, o, a⟩ := r
    refine calls_go (nt := 92) (rs := [.tmp 6]) Try.func7 rfl rfl rfl (by simp) (by intro id h; simp at h <;> omega) ?_; intro Q hQ hW
    repeat' (first
    | (with_reducible refine run_n ?_; with_reducible first | refine hK _ _ (by simp) ?_ | refine hK _ _ ?_; clear hK K)
    | (with_reducible first | refine awp_seq ?_ | refine then_n ?_ | refine then_r ?_ | refine then_e ?_ | refine awp_skip ?_ | refine awp_label ?_ | refine awp_ret ?_ | refine awp_exit ?_ | refine awp_block ?_ | refine awp_scope ?_ | refine in_n ?_ | refine in_r ?_ | refine in_e ?_ | refine in_ne (by decide) ?_ | refine ng_n ?_ | refine ng_r ?_ | refine ng_e ?_)
    | (with_reducible refine awp_regL 8 mixed (by kernel_rfl) ?_; intro K hK)
    | (with_reducible refine a_cond (ht := ?_) (hf := ?_) <;> intro hb <;> (try simp at hb) <;> (try contradiction) <;> (try subst hb) <;> (try omega))
    | (with_reducible first | refine a_move (hr := ?_) | refine a_assign (hr := ?_) | refine a_load (hr := ?_) | refine a_bin (hr := ?_) | refine a_lenS (hr := ?_) | refine a_lenR (hr := ?_) | refine a_extract (hr := ?_) | refine a_pick (hr := ?_) | refine a_un (hr := ?_) | refine a_store (hr := ?_) | refine a_box (hr := ?_) | refine a_alloc (hr := ?_) | refine a_eqB (hr := ?_) | refine a_eqS (hr := ?_) | refine a_call0 (hcall := c_live) (hr := ?_) | refine a_call0 (hcall := hsh) (hr := ?_) | refine a_call0 (hcall := h1) (hr := ?_) | refine a_call0 (hcall := h2) (hr := ?_) | refine a_call0 (hcall := h3) (hr := ?_) | refine a_call0 (hcall := h4) (hr := ?_) | refine a_call0 (hcall := h5) (hr := ?_) | refine a_call0 (hcall := h6) (hr := ?_) | refine a_gT (hr := ?_) | refine a_gF (hr := ?_) | refine a_gU (hr := ?_))
    | (with_reducible refine a_gB (hT := ?_) (hF := ?_) <;> intro hb <;> (try simp at hb) <;> (try contradiction) <;> (try subst hb) <;> (try omega))
    | fail)
    (refine hQ _ _ _ _ (by first | exact .inr rfl | exact .inl rfl) (by simp; exact .r) (by simp; exact .r) ?_)
    exact Fin.drop (by simp; exact .r) (by simp)
  · clear hr hk
    by_cases hb1 : shortB r = true
    · rw [hb1] at hsh
      have hz : ¬ s.size ≤ 1000 := fun h => hB ⟨hb1, h⟩
      clear hB hb1
      obtain ⟨k, n, y, d, i, t, o, a⟩ := r
      refine calls_go (nt := 92) (rs := [.tmp 6]) Try.func7 rfl rfl rfl (by simp) (by intro id h; simp at h <;> omega) ?_; intro Q hQ hW
      repeat' (first
    | (with_reducible refine run_n ?_; with_reducible first | refine hK _ _ (by simp) ?_ | refine hK _ _ ?_; clear hK K)
    | (with_reducible first | refine awp_seq ?_ | refine then_n ?_ | refine then_r ?_ | refine then_e ?_ | refine awp_skip ?_ | refine awp_label ?_ | refine awp_ret ?_ | refine awp_exit ?_ | refine awp_block ?_ | refine awp_scope ?_ | refine in_n ?_ | refine in_r ?_ | refine in_e ?_ | refine in_ne (by decide) ?_ | refine ng_n ?_ | refine ng_r ?_ | refine ng_e ?_)
    | (with_reducible refine awp_regL 8 mixed (by kernel_rfl) ?_; intro K hK)
    | (with_reducible refine a_cond (ht := ?_) (hf := ?_) <;> intro hb <;> (try simp at hb) <;> (try contradiction) <;> (try subst hb) <;> (try omega))
    | (with_reducible first | refine a_move (hr := ?_) | refine a_assign (hr := ?_) | refine a_load (hr := ?_) | refine a_bin (hr := ?_) | refine a_lenS (hr := ?_) | refine a_lenR (hr := ?_) | refine a_extract (hr := ?_) | refine a_pick (hr := ?_) | refine a_un (hr := ?_) | refine a_store (hr := ?_) | refine a_box (hr := ?_) | refine a_alloc (hr := ?_) | refine a_eqB (hr := ?_) | refine a_eqS (hr := ?_) | refine a_call0 (hcall := c_live) (hr := ?_) | refine a_call0 (hcall := hsh) (hr := ?_) | refine a_gT (hr := ?_) | refine a_gF (hr := ?_) | refine a_gU (hr := ?_))
    | (with_reducible refine a_gB (hT := ?_) (hF := ?_) <;> intro hb <;> (try simp at hb) <;> (try contradiction) <;> (try subst hb) <;> (try omega))
    | fail)
      (refine hQ _ _ _ _ (by first | exact .inr rfl | exact .inl rfl) (by simp; exact .r) (by simp; exact .r) ?_)
      exact Fin.drop (by simp; exact .r) (by simp)
    · rw [show shortB r = false by simpa using hb1] at hsh
      clear hB hb1
      obtain ⟨k, n, y, d, i, t, o, a⟩ := r
      refine calls_go (nt := 92) (rs := [.tmp 6]) Try.func7 rfl rfl rfl (by simp) (by intro id h; simp at h <;> omega) ?_; intro Q hQ hW
      repeat' (first
    | (with_reducible refine run_n ?_; with_reducible first | refine hK _ _ (by simp) ?_ | refine hK _ _ ?_; clear hK K)
    | (with_reducible first | refine awp_seq ?_ | refine then_n ?_ | refine then_r ?_ | refine then_e ?_ | refine awp_skip ?_ | refine awp_label ?_ | refine awp_ret ?_ | refine awp_exit ?_ | refine awp_block ?_ | refine awp_scope ?_ | refine in_n ?_ | refine in_r ?_ | refine in_e ?_ | refine in_ne (by decide) ?_ | refine ng_n ?_ | refine ng_r ?_ | refine ng_e ?_)
    | (with_reducible refine awp_regL 8 mixed (by kernel_rfl) ?_; intro K hK)
    | (with_reducible refine a_cond (ht := ?_) (hf := ?_) <;> intro hb <;> (try simp at hb) <;> (try contradiction) <;> (try subst hb) <;> (try omega))
    | (with_reducible first | refine a_move (hr := ?_) | refine a_assign (hr := ?_) | refine a_load (hr := ?_) | refine a_bin (hr := ?_) | refine a_lenS (hr := ?_) | refine a_lenR (hr := ?_) | refine a_extract (hr := ?_) | refine a_pick (hr := ?_) | refine a_un (hr := ?_) | refine a_store (hr := ?_) | refine a_box (hr := ?_) | refine a_alloc (hr := ?_) | refine a_eqB (hr := ?_) | refine a_eqS (hr := ?_) | refine a_call0 (hcall := c_live) (hr := ?_) | refine a_call0 (hcall := hsh) (hr := ?_) | refine a_gT (hr := ?_) | refine a_gF (hr := ?_) | refine a_gU (hr := ?_))
    | (with_reducible refine a_gB (hT := ?_) (hF := ?_) <;> intro hb <;> (try simp at hb) <;> (try contradiction) <;> (try subst hb) <;> (try omega))
    | fail)
      (refine hQ _ _ _ _ (by first | exact .inr rfl | exact .inl rfl) (by simp; exact .r) (by simp; exact .r) ?_)
      exact Fin.drop (by simp; exact .r) (by simp)
theorem ok_ref {k t o a : Int} {n y d i : ByteArray} (hk : (Lit.int .u8 k).wf = true) (ht : (Lit.int .u64 t).wf = true) (ho : (Lit.int .u64 o).wf = true) (ha : (Lit.int .u64 a).wf = true) : (0 ≤ k ∧ k < 256) ∧ (⟨k, n, y, d, i, t, o, a⟩ : RefV).ok :=
  ⟨⟨(wf_u8 hk).1, by have := (wf_u8 hk).2; omega⟩, wf_u64 ht, wf_u64 ho, wf_u64 ha⟩
end Go.Proofs.Ytdbdajmgfajcpaa.Asl
