/- Chapter 15: the laws EntityBack and EntityUnder. -/
import Derived.Test.YtdbdajmgfajcpaaE5
import Derived.Test.YtdbdajmgfajcpaaE6
namespace Go.Proofs.Ytdbdajmgfajcpaa.Asl
open Go Go.RowKit
set_option linter.unusedVariables false
set_option linter.unusedSimpArgs false
set_option maxRecDepth 100000
set_option maxHeartbeats 2000000
def smallR (M : Nat) (r : RefV) : Prop := r.n.size ≤ M ∧ r.y.size ≤ M ∧ r.d.size ≤ M ∧ r.i.size ≤ M
theorem setP_small {M : Nat} {r : RefV} {c : Int} {s : ByteArray} (hr : smallR M r) (hs : s.size ≤ M) : smallR M (setP r c s).1 := by
  obtain ⟨h1, h2, h3, h4⟩ := hr
  unfold setP
  repeat' split
  all_goals exact ⟨by first | exact h1 | exact hs, by first | exact h2 | exact hs, by first | exact h3 | exact hs, by first | exact h4 | exact hs⟩
theorem setL_small {M : Nat} : ∀ (cs : List Int) (l : List ByteArray) (r x : RefV), (∀ p ∈ l, p.size ≤ M) → smallR M r → setL cs l r = some x → smallR M x
  | [], l, r, x, _, hr, h => by
    cases l <;> (simp only [setL] at h; cases h; exact hr)
  | c :: cs, [], r, x, _, hr, h => by simp only [setL] at h; cases h; exact hr
  | c :: cs, s :: l, r, x, hl, hr, h => by
    simp only [setL] at h
    split at h
    · exact setL_small cs l _ x (fun p hp => hl p (List.mem_cons_of_mem _ hp)) (setP_small hr (hl s List.mem_cons_self)) h
    · cases h
theorem split_small {s : ByteArray} {x : RefV} (h : splitV s = (x, 0)) : smallR s.size x := by
  unfold splitV at h
  split at h
  · rename_i he; simp only [Prod.mk.injEq] at h; exact absurd h.2 he
  · split at h
    · simp at h
    · split at h
      · rename_i r hs
        simp only [Prod.mk.injEq, and_true] at h
        subst h
        refine setL_small _ _ _ _ (fun p hp => ?_) ⟨by simp [RefV.of], by simp [RefV.of], by simp [RefV.of], by simp [RefV.of]⟩ hs
        unfold parseV at hp
        split at hp
        · simp at hp
        · have := (psR_few (byteAt s 0) ((bytesOf s).drop 1)).2 p hp
          rw [List.length_drop, len_bytes] at this
          omega
      · simp at h
theorem keyb_lenM {M : Nat} {k : Int} : ∀ {ps : List ByteArray}, (∀ p ∈ ps, p.size ≤ M) → (keyb k ps).length ≤ 1 + (2 * M + 2) * ps.length
  | [], _ => by simp [keyb]
  | p :: ps, h => by
    have h1 := keyb_lenM (k := k) (ps := ps) (fun q hq => h q (List.mem_cons_of_mem _ hq))
    have h2 := h p List.mem_cons_self
    have h3 := es1_len (bytesOf p)
    rw [len_bytes] at h3
    simp only [keyb, List.length_cons, List.flatMap_cons, List.length_append, esc_es1, List.length_nil] at h1 ⊢
    rw [Nat.mul_add, Nat.mul_one]
    omega
theorem keyV_size {r : RefV} (h : r.short) : (keyV r).1.size ≤ 20000 := by
  unfold keyV
  split
  · simp
  · split
    · have h1 := keyb_lenM (k := r.k) (ps := textsP r) (M := 1000) (fun p hp => by obtain ⟨c, _, rfl⟩ := List.mem_map.1 hp; exact getP_size r c h)
      have h2 := (texts_small h).1
      simp only
      rw [size_of_nums]
      have : (2 * 1000 + 2) * (textsP r).length ≤ (2 * 1000 + 2) * 5 := Nat.mul_le_mul_left _ h2
      omega
    · simp
theorem keyV_none {r : RefV} (h : (keyV r).2 ≠ 0) : (keyV r).1 = ⟨#[]⟩ := by
  unfold keyV at h ⊢
  split
  · rfl
  · split
    · rename_i h1 h2; rw [if_neg h1, if_pos h2] at h; simp at h
    · rfl
theorem law_EntityBack (r : RefV) (s : ByteArray) (hk : 0 ≤ r.k ∧ r.k < 256) (hr : r.ok) (hs : s.size ≤ 140737488351232) :
    CallD Try.prog 6 [r.av, .raw (.string s)] noHeap (.raw (.bool true)) noHeap := by
  have hsh := c_short r
  by_cases hB : shortB r = true ∧ s.size ≤ 1000
  · rw [hB.1] at hsh
    have hz := shortB_of hB.1
    have hrs : r.short := ⟨hr, by omega, by omega, by omega, by omega, hk.1, hk.2⟩
    have h1 := c_Key r hrs
    have h3 := c_Split s (by omega)
    have hB2 := hB.2
    have hks := keyV_size hrs
    have h5 := c_Split (keyV r).1 (by omega)
    have hback : (keyV r).2 = 0 → splitV (keyV r).1 = (r, 0) := fun h => key_split hr hk (by rw [← h])
    have hnone := keyV_none (r := r)
    have hkey : (splitV s).2 = 0 → CallD Try.prog 15 [(splitV s).1.av] noHeap (.tup [.raw (.string s), .raw (.int .i64 0)]) noHeap := fun h => by
      have e1 : splitV s = ((splitV s).1, 0) := by rw [← h]
      obtain ⟨q1, q2, q3, q4, q5⟩ := split_key e1
      have q6 := split_small e1
      have := c_Key (splitV s).1 ⟨q2, by have := q6.1; omega, by have := q6.2.1; omega, by have := q6.2.2.1; omega, by have := q6.2.2.2; omega, q3, q4⟩
      rw [q1] at this
      exact this
    generalize keyV r = kv at h1 h5 hback hnone
    generalize splitV s = sv at h3 hkey
    obtain ⟨sr, se⟩ := sv
    obtain ⟨k', n', y', d', i', t', o', a'⟩ := sr
    obtain ⟨ka, ke⟩ := kv
    simp only [splitAV] at h3 hkey h1 h5 hback hnone
    clear hB hz hrs hr hk hks
    obtain ⟨k, n, y, d, i, t, o, a⟩ := r
    by_cases hke : ke = 0
    · subst hke
      rw [hback rfl] at h5
      clear hback hnone
      by_cases hse : se = 0
      · subst hse
        have hkey := hkey rfl
        refine calls_go (nt := 66) (rs := [.tmp 4]) Try.func6 rfl rfl rfl (by simp) (by intro id h; simp at h <;> omega) ?_; intro Q hQ hW
        repeat' (first
    | (with_reducible refine run_n ?_; with_reducible first | refine hK _ _ (by simp) ?_ | refine hK _ _ ?_; clear hK K)
    | (with_reducible first | refine awp_seq ?_ | refine then_n ?_ | refine then_r ?_ | refine then_e ?_ | refine awp_skip ?_ | refine awp_label ?_ | refine awp_ret ?_ | refine awp_exit ?_ | refine awp_block ?_ | refine awp_scope ?_ | refine in_n ?_ | refine in_r ?_ | refine in_e ?_ | refine in_ne (by decide) ?_ | refine ng_n ?_ | refine ng_r ?_ | refine ng_e ?_)
    | (with_reducible refine awp_regL 8 mixed (by kernel_rfl) ?_; intro K hK)
    | (with_reducible refine a_cond (ht := ?_) (hf := ?_) <;> intro hb <;> (try simp at hb) <;> (try contradiction) <;> (try subst hb) <;> (try omega))
    | (with_reducible first | refine a_move (hr := ?_) | refine a_assign (hr := ?_) | refine a_load (hr := ?_) | refine a_bin (hr := ?_) | refine a_lenS (hr := ?_) | refine a_lenR (hr := ?_) | refine a_extract (hr := ?_) | refine a_pick (hr := ?_) | refine a_un (hr := ?_) | refine a_store (hr := ?_) | refine a_box (hr := ?_) | refine a_alloc (hr := ?_) | refine a_eqB (hr := ?_) | refine a_neB (hr := ?_) | refine a_eqS (hr := ?_) | refine a_neS (hr := ?_) | refine a_call0 (hcall := c_live) (hr := ?_) | refine a_call0 (hcall := hsh) (hr := ?_) | refine a_call0 (hcall := h1) (hr := ?_) | refine a_call0 (hcall := h3) (hr := ?_) | refine a_call0 (hcall := h5) (hr := ?_) | refine a_call0 (hcall := hkey) (hr := ?_) | refine a_gT (hr := ?_) | refine a_gF (hr := ?_) | refine a_gU (hr := ?_))
    | (with_reducible refine a_gB (hT := ?_) (hF := ?_) <;> intro hb <;> (try simp at hb) <;> (try contradiction) <;> (try subst hb) <;> (try omega))
    | fail)
        (refine hQ _ _ _ _ (by first | exact .inr rfl | exact .inl rfl) (by simp; exact .r) (by simp; exact .r) ?_)
        exact Fin.drop (by simp; exact .r) (by simp)
      · clear hkey
        refine calls_go (nt := 66) (rs := [.tmp 4]) Try.func6 rfl rfl rfl (by simp) (by intro id h; simp at h <;> omega) ?_; intro Q hQ hW
        repeat' (first
    | (with_reducible refine run_n ?_; with_reducible first | refine hK _ _ (by simp) ?_ | refine hK _ _ ?_; clear hK K)
    | (with_reducible first | refine awp_seq ?_ | refine then_n ?_ | refine then_r ?_ | refine then_e ?_ | refine awp_skip ?_ | refine awp_label ?_ | refine awp_ret ?_ | refine awp_exit ?_ | refine awp_block ?_ | refine awp_scope ?_ | refine in_n ?_ | refine in_r ?_ | refine in_e ?_ | refine in_ne (by decide) ?_ | refine ng_n ?_ | refine ng_r ?_ | refine ng_e ?_)
    | (with_reducible refine awp_regL 8 mixed (by kernel_rfl) ?_; intro K hK)
    | (with_reducible refine a_cond (ht := ?_) (hf := ?_) <;> intro hb <;> (try simp at hb) <;> (try contradiction) <;> (try subst hb) <;> (try omega))
    | (with_reducible first | refine a_move (hr := ?_) | refine a_assign (hr := ?_) | refine a_load (hr := ?_) | refine a_bin (hr := ?_) | refine a_lenS (hr := ?_) | refine a_lenR (hr := ?_) | refine a_extract (hr := ?_) | refine a_pick (hr := ?_) | refine a_un (hr := ?_) | refine a_store (hr := ?_) | refine a_box (hr := ?_) | refine a_alloc (hr := ?_) | refine a_eqB (hr := ?_) | refine a_neB (hr := ?_) | refine a_eqS (hr := ?_) | refine a_neS (hr := ?_) | refine a_call0 (hcall := c_live) (hr := ?_) | refine a_call0 (hcall := hsh) (hr := ?_) | refine a_call0 (hcall := h1) (hr := ?_) | refine a_call0 (hcall := h3) (hr := ?_) | refine a_call0 (hcall := h5) (hr := ?_) | refine a_gT (hr := ?_) | refine a_gF (hr := ?_) | refine a_gU (hr := ?_))
    | (with_reducible refine a_gB (hT := ?_) (hF := ?_) <;> intro hb <;> (try simp at hb) <;> (try contradiction) <;> (try subst hb) <;> (try omega))
    | fail)
        (refine hQ _ _ _ _ (by first | exact .inr rfl | exact .inl rfl) (by simp; exact .r) (by simp; exact .r) ?_)
        exact Fin.drop (by simp; exact .r) (by simp)
    · have hn := hnone hke
      subst hn
      clear hback hnone h5
      by_cases hse : se = 0
      · subst hse
        have hkey := hkey rfl
        refine calls_go (nt := 66) (rs := [.tmp 4]) Try.func6 rfl rfl rfl (by simp) (by intro id h; simp at h <;> omega) ?_; intro Q hQ hW
        repeat' (first
    | (with_reducible refine run_n ?_; with_reducible first | refine hK _ _ (by simp) ?_ | refine hK _ _ ?_; clear hK K)
    | (with_reducible first | refine awp_seq ?_ | refine then_n ?_ | refine then_r ?_ | refine then_e ?_ | refine awp_skip ?_ | refine awp_label ?_ | refine awp_ret ?_ | refine awp_exit ?_ | refine awp_block ?_ | refine awp_scope ?_ | refine in_n ?_ | refine in_r ?_ | refine in_e ?_ | refine in_ne (by decide) ?_ | refine ng_n ?_ | refine ng_r ?_ | refine ng_e ?_)
    | (with_reducible refine awp_regL 8 mixed (by kernel_rfl) ?_; intro K hK)
    | (with_reducible refine a_cond (ht := ?_) (hf := ?_) <;> intro hb <;> (try simp at hb) <;> (try contradiction) <;> (try subst hb) <;> (try omega))
    | (with_reducible first | refine a_move (hr := ?_) | refine a_assign (hr := ?_) | refine a_load (hr := ?_) | refine a_bin (hr := ?_) | refine a_lenS (hr := ?_) | refine a_lenR (hr := ?_) | refine a_extract (hr := ?_) | refine a_pick (hr := ?_) | refine a_un (hr := ?_) | refine a_store (hr := ?_) | refine a_box (hr := ?_) | refine a_alloc (hr := ?_) | refine a_eqB (hr := ?_) | refine a_neB (hr := ?_) | refine a_eqS (hr := ?_) | refine a_neS (hr := ?_) | refine a_call0 (hcall := c_live) (hr := ?_) | refine a_call0 (hcall := hsh) (hr := ?_) | refine a_call0 (hcall := h1) (hr := ?_) | refine a_call0 (hcall := h3) (hr := ?_) | refine a_call0 (hcall := hkey) (hr := ?_) | refine a_gT (hr := ?_) | refine a_gF (hr := ?_) | refine a_gU (hr := ?_))
    | (with_reducible refine a_gB (hT := ?_) (hF := ?_) <;> intro hb <;> (try simp at hb) <;> (try contradiction) <;> (try subst hb) <;> (try omega))
    | fail)
        (refine hQ _ _ _ _ (by first | exact .inr rfl | exact .inl rfl) (by simp; exact .r) (by simp; exact .r) ?_)
        exact Fin.drop (by simp; exact .r) (by simp)
      · clear hkey
        refine calls_go (nt := 66) (rs := [.tmp 4]) Try.func6 rfl rfl rfl (by simp) (by intro id h; simp at h <;> omega) ?_; intro Q hQ hW
        repeat' (first
    | (with_reducible refine run_n ?_; with_reducible first | refine hK _ _ (by simp) ?_ | refine hK _ _ ?_; clear hK K)
    | (with_reducible first | refine awp_seq ?_ | refine then_n ?_ | refine then_r ?_ | refine then_e ?_ | refine awp_skip ?_ | refine awp_label ?_ | refine awp_ret ?_ | refine awp_exit ?_ | refine awp_block ?_ | refine awp_scope ?_ | refine in_n ?_ | refine in_r ?_ | refine in_e ?_ | refine in_ne (by decide) ?_ | refine ng_n ?_ | refine ng_r ?_ | refine ng_e ?_)
    | (with_reducible refine awp_regL 8 mixed (by kernel_rfl) ?_; intro K hK)
    | (with_reducible refine a_cond (ht := ?_) (hf := ?_) <;> intro hb <;> (try simp at hb) <;> (try contradiction) <;> (try subst hb) <;> (try omega))
    | (with_reducible first | refine a_move (hr := ?_) | refine a_assign (hr := ?_) | refine a_load (hr := ?_) | refine a_bin (hr := ?_) | refine a_lenS (hr := ?_) | refine a_lenR (hr := ?_) | refine a_extract (hr := ?_) | refine a_pick (hr := ?_) | refine a_un (hr := ?_) | refine a_store (hr := ?_) | refine a_box (hr := ?_) | refine a_alloc (hr := ?_) | refine a_eqB (hr := ?_) | refine a_neB (hr := ?_) | refine a_eqS (hr := ?_) | refine a_neS (hr := ?_) | refine a_call0 (hcall := c_live) (hr := ?_) | refine a_call0 (hcall := hsh) (hr := ?_) | refine a_call0 (hcall := h1) (hr := ?_) | refine a_call0 (hcall := h3) (hr := ?_) | refine a_gT (hr := ?_) | refine a_gF (hr := ?_) | refine a_gU (hr := ?_))
    | (with_reducible refine a_gB (hT := ?_) (hF := ?_) <;> intro hb <;> (try simp at hb) <;> (try contradiction) <;> (try subst hb) <;> (try omega))
    | fail)
        (refine hQ _ _ _ _ (by first | exact .inr rfl | exact .inl rfl) (by simp; exact .r) (by simp; exact .r) ?_)
        exact Fin.drop (by simp; exact .r) (by simp)
  · clear hr hk
    by_cases hb1 : shortB r = true
    · rw [hb1] at hsh
      have hz : ¬ s.size ≤ 1000 := fun h => hB ⟨hb1, h⟩
      clear hB hb1
      obtain ⟨k, n, y, d, i, t, o, a⟩ := r
      refine calls_go (nt := 66) (rs := [.tmp 4]) Try.func6 rfl rfl rfl (by simp) (by intro id h; simp at h <;> omega) ?_; intro Q hQ hW
      repeat' (first
    | (with_reducible refine run_n ?_; with_reducible first | refine hK _ _ (by simp) ?_ | refine hK _ _ ?_; clear hK K)
    | (with_reducible first | refine awp_seq ?_ | refine then_n ?_ | refine then_r ?_ | refine then_e ?_ | refine awp_skip ?_ | refine awp_label ?_ | refine awp_ret ?_ | refine awp_exit ?_ | refine awp_block ?_ | refine awp_scope ?_ | refine in_n ?_ | refine in_r ?_ | refine in_e ?_ | refine in_ne (by decide) ?_ | refine ng_n ?_ | refine ng_r ?_ | refine ng_e ?_)
    | (with_reducible refine awp_regL 8 mixed (by kernel_rfl) ?_; intro K hK)
    | (with_reducible refine a_cond (ht := ?_) (hf := ?_) <;> intro hb <;> (try simp at hb) <;> (try contradiction) <;> (try subst hb) <;> (try omega))
    | (with_reducible first | refine a_move (hr := ?_) | refine a_assign (hr := ?_) | refine a_load (hr := ?_) | refine a_bin (hr := ?_) | refine a_lenS (hr := ?_) | refine a_lenR (hr := ?_) | refine a_extract (hr := ?_) | refine a_pick (hr := ?_) | refine a_un (hr := ?_) | refine a_store (hr := ?_) | refine a_box (hr := ?_) | refine a_alloc (hr := ?_) | refine a_eqB (hr := ?_) | refine a_neB (hr := ?_) | refine a_eqS (hr := ?_) | refine a_neS (hr := ?_) | refine a_call0 (hcall := c_live) (hr := ?_) | refine a_call0 (hcall := hsh) (hr := ?_) | refine a_gT (hr := ?_) | refine a_gF (hr := ?_) | refine a_gU (hr := ?_))
    | (with_reducible refine a_gB (hT := ?_) (hF := ?_) <;> intro hb <;> (try simp at hb) <;> (try contradiction) <;> (try subst hb) <;> (try omega))
    | fail)
      (refine hQ _ _ _ _ (by first | exact .inr rfl | exact .inl rfl) (by simp; exact .r) (by simp; exact .r) ?_)
      exact Fin.drop (by simp; exact .r) (by simp)
    · rw [show shortB r = false by simpa using hb1] at hsh
      clear hB hb1
      obtain ⟨k, n, y, d, i, t, o, a⟩ := r
      refine calls_go (nt := 66) (rs := [.tmp 4]) Try.func6 rfl rfl rfl (by simp) (by intro id h; simp at h <;> omega) ?_; intro Q hQ hW
      repeat' (first
    | (with_reducible refine run_n ?_; with_reducible first | refine hK _ _ (by simp) ?_ | refine hK _ _ ?_; clear hK K)
    | (with_reducible first | refine awp_seq ?_ | refine then_n ?_ | refine then_r ?_ | refine then_e ?_ | refine awp_skip ?_ | refine awp_label ?_ | refine awp_ret ?_ | refine awp_exit ?_ | refine awp_block ?_ | refine awp_scope ?_ | refine in_n ?_ | refine in_r ?_ | refine in_e ?_ | refine in_ne (by decide) ?_ | refine ng_n ?_ | refine ng_r ?_ | refine ng_e ?_)
    | (with_reducible refine awp_regL 8 mixed (by kernel_rfl) ?_; intro K hK)
    | (with_reducible refine a_cond (ht := ?_) (hf := ?_) <;> intro hb <;> (try simp at hb) <;> (try contradiction) <;> (try subst hb) <;> (try omega))
    | (with_reducible first | refine a_move (hr := ?_) | refine a_assign (hr := ?_) | refine a_load (hr := ?_) | refine a_bin (hr := ?_) | refine a_lenS (hr := ?_) | refine a_lenR (hr := ?_) | refine a_extract (hr := ?_) | refine a_pick (hr := ?_) | refine a_un (hr := ?_) | refine a_store (hr := ?_) | refine a_box (hr := ?_) | refine a_alloc (hr := ?_) | refine a_eqB (hr := ?_) | refine a_neB (hr := ?_) | refine a_eqS (hr := ?_) | refine a_neS (hr := ?_) | refine a_call0 (hcall := c_live) (hr := ?_) | refine a_call0 (hcall := hsh) (hr := ?_) | refine a_gT (hr := ?_) | refine a_gF (hr := ?_) | refine a_gU (hr := ?_))
    | (with_reducible refine a_gB (hT := ?_) (hF := ?_) <;> intro hb <;> (try simp at hb) <;> (try contradiction) <;> (try subst hb) <;> (try omega))
    | fail)
      (refine hQ _ _ _ _ (by first | exact .inr rfl | exact .inl rfl) (by simp; exact .r) (by simp; exact .r) ?_)
      exact Fin.drop (by simp; exact .r) (by simp)
end Go.Proofs.Ytdbdajmgfajcpaa.Asl
