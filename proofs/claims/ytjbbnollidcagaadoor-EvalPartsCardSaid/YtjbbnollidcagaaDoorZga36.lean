/- Part 36 of what the row leans on: abstract values and states, their rules, and the contracts of the functions. -/
import Derived.Test.YtjbbnollidcagaaDoorZga35
namespace Go.Proofs.YtjbbnollidcagaaDoor.Asl
open Go Go.RowKit
open Go.Proofs.YtjbbnollidcagaaDoor.Errs (EV)
set_option linter.unusedVariables false
set_option linter.unusedSimpArgs false
set_option maxRecDepth 100000
set_option maxHeartbeats 8000000
@[simp] theorem take_map_len3 {α β : Type} (f : α → AV) (g : β → AV) (l : List α) (m : List β) (x : AV) : (l.map f ++ (m.map g ++ [x])).take (l.length + m.length + 1) = l.map f ++ (m.map g ++ [x]) := List.take_of_length_le (by simp; omega)
@[simp] theorem len3_le (a b : Nat) : (a + b + 1 ≤ a + (b + 1)) = True := eq_true (by omega)
theorem c_done (e : List TermV) (l : List VarV) (r : Val × Int × E6) (hel : e.length ≤ 100) (h0 : 0 ≤ r.2.1 ∧ r.2.1 ≤ e.length) (q : CallD Tryd.prog 18 [.sl 5 (e.map termAV), .sl 4 (l.map varAV), .raw (.int .i64 e.length)] noHeap (.tup [Val.av r.1, .raw (.int .i64 r.2.1), errO r.2.2.ev]) noHeap) : CallD Tryd.prog 20 [.sl 5 (e.map termAV), .sl 4 (l.map varAV)] noHeap (.raw (.int .i64 (e.length - r.2.1))) noHeap := by
  obtain ⟨⟨k, n, s⟩, f, x⟩ := r
  simp only at q h0 ⊢
  generalize x.ev = y at q
  refine calls_go (nt := 21) (rs := [.tmp 4]) Tryd.func20 rfl rfl rfl (by simp) (by intro id h; simp at h <;> omega) ?_; intro Q hQ hW
  repeat' (first
    | (with_reducible refine run_n ?_; with_reducible first | refine hK _ _ (by simp) ?_ | refine hK _ _ ?_; clear hK K)
    | (refine zzc ?_)
    | (with_reducible refine awp_regT (by kernel_rfl) ?_; intro K hK)
    | (with_reducible refine a_cond (ht := ?_) (hf := ?_) <;> intro hb <;> (try simp at hb) <;> (try contradiction) <;> (try subst hb) <;> (try omega))
    | (with_reducible first | refine a_move (hr:=?_) | refine a_assign (hr:=?_) | refine a_bin (hr:=?_) | refine a_lenS (hr:=?_) | refine a_lenR (hr:=?_) | refine a_extract (hr:=?_) | refine a_store (hr:=?_) | refine a_alloc (hr:=?_) | refine a_callF (hcall := q) (hr:=?_))
    | fail)
  all_goals ((refine zzr hQ ?_))
  all_goals (exact Fin.drop (by simp; exact .r) (by simp))
theorem few_nil {P : Program} {f : FuncId} {sz : Nat} {a r : AV} {g g' : Hp} (hc : CallD P f [a, .sl sz []] g r g') : CallD P f [a, .raw (.slice none 0 0)] g r g' := CallD.nil2s hc
theorem law_EvalParts (a b : List TermV) (op : Int) (l : List VarV) (hal : a.length < 140737488351232) (hbl : b.length < 140737488351232) (hll : l.length < 9223372036854775808) (hia : ∀ t ∈ a, inR t.v) (hib : ∀ t ∈ b, inR t.v) (hv : ∀ x ∈ l, inR x.v) (hop : inR op) : CallD Tryd.prog 5 [.sl 5 (a.map termAV), .sl 5 (b.map termAV), .raw (.int .i64 op), .sl 4 (l.map varAV)] noHeap (.raw (.bool true)) noHeap := by
  have fw := c_few6 a l (by omega) hll
  have fw2 := few_nil (c_few6 b [] (by omega) (by decide))
  obtain ⟨b1, hb1⟩ : ∃ x, fewT a l = x := ⟨_, rfl⟩
  obtain ⟨b2, hb2⟩ : ∃ x, fewT b [] = x := ⟨_, rfl⟩
  rw [hb1] at fw
  rw [hb2] at fw2
  by_cases hbb : ¬ (b1 = true ∧ b2 = true ∧ 6 ≤ op ∧ op ≤ 18)
  · clear hb1 hb2 hia hib hv
    cases b1 with
    | false =>
      refine calls_go (nt := 138) (rs := [.tmp 8]) Tryd.func5 rfl rfl rfl (by simp) (by intro id h; simp at h <;> omega) ?_; intro Q hQ hW
      repeat' (first
    | (with_reducible refine run_n ?_; with_reducible first | refine hK _ _ (by simp) ?_ | refine hK _ _ ?_; clear hK K)
    | (refine zzc ?_)
    | (with_reducible refine awp_regT (by kernel_rfl) ?_; intro K hK)
    | (with_reducible refine a_cond (ht := ?_) (hf := ?_) <;> intro hb <;> (try simp at hb) <;> (try contradiction) <;> (try subst hb) <;> (try omega))
    | (with_reducible first | refine a_move (hr:=?_) | refine a_assign (hr:=?_) | refine a_load (hr:=?_) | refine a_bin (hr:=?_) | refine a_lenS (hr:=?_) | refine a_lenR (hr:=?_) | refine a_extract (hr:=?_) | refine a_pick (hr:=?_) | refine a_un (hr:=?_) | refine a_store (hr:=?_) | refine a_alloc (hr:=?_) | refine a_eqI (hr:=?_) | refine a_neI (hr:=?_) | refine a_eqB (hr:=?_) | refine a_neB (hr:=?_) | refine a_eqS (hr:=?_) | refine a_neS (hr:=?_) | refine a_build (hr:=?_) | refine a_buildSlice (hr:=?_) | refine a_append (hr:=?_) | refine a_append0 (hr:=?_) | refine a_appendX (hr:=?_) | refine a_call0 (hcall := c_live6) (hr:=?_) | refine a_callF (hcall := fw) (hr:=?_) | refine a_callF (hcall := fw2) (hr:=?_) | refine a_gT (hr:=?_) | refine a_gF (hr:=?_) | refine a_gU (hr:=?_))
    | (with_reducible refine a_gB (hT := ?_) (hF := ?_) <;> intro hb <;> (try simp at hb) <;> (try contradiction) <;> (try subst hb) <;> (try omega))
    | fail)
      all_goals ((refine zzr hQ ?_))
      all_goals (exact Fin.drop (by simp; exact .r) (by simp))
    | true =>
      cases b2 with
      | false =>
        refine calls_go (nt := 138) (rs := [.tmp 8]) Tryd.func5 rfl rfl rfl (by simp) (by intro id h; simp at h <;> omega) ?_; intro Q hQ hW
        repeat' (first
    | (with_reducible refine run_n ?_; with_reducible first | refine hK _ _ (by simp) ?_ | refine hK _ _ ?_; clear hK K)
    | (refine zzc ?_)
    | (with_reducible refine awp_regT (by kernel_rfl) ?_; intro K hK)
    | (with_reducible refine a_cond (ht := ?_) (hf := ?_) <;> intro hb <;> (try simp at hb) <;> (try contradiction) <;> (try subst hb) <;> (try omega))
    | (with_reducible first | refine a_move (hr:=?_) | refine a_assign (hr:=?_) | refine a_load (hr:=?_) | refine a_bin (hr:=?_) | refine a_lenS (hr:=?_) | refine a_lenR (hr:=?_) | refine a_extract (hr:=?_) | refine a_pick (hr:=?_) | refine a_un (hr:=?_) | refine a_store (hr:=?_) | refine a_alloc (hr:=?_) | refine a_eqI (hr:=?_) | refine a_neI (hr:=?_) | refine a_eqB (hr:=?_) | refine a_neB (hr:=?_) | refine a_eqS (hr:=?_) | refine a_neS (hr:=?_) | refine a_build (hr:=?_) | refine a_buildSlice (hr:=?_) | refine a_append (hr:=?_) | refine a_append0 (hr:=?_) | refine a_appendX (hr:=?_) | refine a_call0 (hcall := c_live6) (hr:=?_) | refine a_callF (hcall := fw) (hr:=?_) | refine a_callF (hcall := fw2) (hr:=?_) | refine a_gT (hr:=?_) | refine a_gF (hr:=?_) | refine a_gU (hr:=?_))
    | (with_reducible refine a_gB (hT := ?_) (hF := ?_) <;> intro hb <;> (try simp at hb) <;> (try contradiction) <;> (try subst hb) <;> (try omega))
    | fail)
        all_goals ((refine zzr hQ ?_))
        all_goals (exact Fin.drop (by simp; exact .r) (by simp))
      | true =>
        have hop2 : op < 6 ∨ 18 < op := by
          rcases Int.lt_or_le op 6 with h | h
          · exact .inl h
          · rcases Int.lt_or_le 18 op with h3 | h3
            · exact .inr h3
            · exact absurd ⟨rfl, rfl, h, h3⟩ hbb
        clear hbb
        rcases hop2 with h | h
        · refine calls_go (nt := 138) (rs := [.tmp 8]) Tryd.func5 rfl rfl rfl (by simp) (by intro id h; simp at h <;> omega) ?_; intro Q hQ hW
          repeat' (first
    | (with_reducible refine run_n ?_; with_reducible first | refine hK _ _ (by simp) ?_ | refine hK _ _ ?_; clear hK K)
    | (refine zzc ?_)
    | (with_reducible refine awp_regT (by kernel_rfl) ?_; intro K hK)
    | (with_reducible refine a_cond (ht := ?_) (hf := ?_) <;> intro hb <;> (try simp at hb) <;> (try contradiction) <;> (try subst hb) <;> (try omega))
    | (with_reducible first | refine a_move (hr:=?_) | refine a_assign (hr:=?_) | refine a_load (hr:=?_) | refine a_bin (hr:=?_) | refine a_lenS (hr:=?_) | refine a_lenR (hr:=?_) | refine a_extract (hr:=?_) | refine a_pick (hr:=?_) | refine a_un (hr:=?_) | refine a_store (hr:=?_) | refine a_alloc (hr:=?_) | refine a_eqI (hr:=?_) | refine a_neI (hr:=?_) | refine a_eqB (hr:=?_) | refine a_neB (hr:=?_) | refine a_eqS (hr:=?_) | refine a_neS (hr:=?_) | refine a_build (hr:=?_) | refine a_buildSlice (hr:=?_) | refine a_append (hr:=?_) | refine a_append0 (hr:=?_) | refine a_appendX (hr:=?_) | refine a_call0 (hcall := c_live6) (hr:=?_) | refine a_callF (hcall := fw) (hr:=?_) | refine a_callF (hcall := fw2) (hr:=?_) | refine a_gT (hr:=?_) | refine a_gF (hr:=?_) | refine a_gU (hr:=?_))
    | (with_reducible refine a_gB (hT := ?_) (hF := ?_) <;> intro hb <;> (try simp at hb) <;> (try contradiction) <;> (try subst hb) <;> (try omega))
    | fail)
          all_goals ((refine zzr hQ ?_))
          all_goals (exact Fin.drop (by simp; exact .r) (by simp))
        · refine calls_go (nt := 138) (rs := [.tmp 8]) Tryd.func5 rfl rfl rfl (by simp) (by intro id h; simp at h <;> omega) ?_; intro Q hQ hW
          repeat' (first
    | (with_reducible refine run_n ?_; with_reducible first | refine hK _ _ (by simp) ?_ | refine hK _ _ ?_; clear hK K)
    | (refine zzc ?_)
    | (with_reducible refine awp_regT (by kernel_rfl) ?_; intro K hK)
    | (with_reducible refine a_cond (ht := ?_) (hf := ?_) <;> intro hb <;> (try simp at hb) <;> (try contradiction) <;> (try subst hb) <;> (try omega))
    | (with_reducible first | refine a_move (hr:=?_) | refine a_assign (hr:=?_) | refine a_load (hr:=?_) | refine a_bin (hr:=?_) | refine a_lenS (hr:=?_) | refine a_lenR (hr:=?_) | refine a_extract (hr:=?_) | refine a_pick (hr:=?_) | refine a_un (hr:=?_) | refine a_store (hr:=?_) | refine a_alloc (hr:=?_) | refine a_eqI (hr:=?_) | refine a_neI (hr:=?_) | refine a_eqB (hr:=?_) | refine a_neB (hr:=?_) | refine a_eqS (hr:=?_) | refine a_neS (hr:=?_) | refine a_build (hr:=?_) | refine a_buildSlice (hr:=?_) | refine a_append (hr:=?_) | refine a_append0 (hr:=?_) | refine a_appendX (hr:=?_) | refine a_call0 (hcall := c_live6) (hr:=?_) | refine a_callF (hcall := fw) (hr:=?_) | refine a_callF (hcall := fw2) (hr:=?_) | refine a_gT (hr:=?_) | refine a_gF (hr:=?_) | refine a_gU (hr:=?_))
    | (with_reducible refine a_gB (hT := ?_) (hF := ?_) <;> intro hb <;> (try simp at hb) <;> (try contradiction) <;> (try subst hb) <;> (try omega))
    | fail)
          all_goals ((refine zzr hQ ?_))
          all_goals (exact Fin.drop (by simp; exact .r) (by simp))
  have hbb : b1 = true ∧ b2 = true ∧ 6 ≤ op ∧ op ≤ 18 := Classical.not_not.1 hbb
  obtain ⟨rfl, rfl, hop1, hop2⟩ := hbb
  have ok := few_ok hb1 hia hv
  have ok2 := few_ok hb2 hib (fun x hx => by cases hx)
  have oa := ok.e
  have ob := ok2.e
  have ol := ok.l
  have hwe : ∀ t ∈ a ++ b ++ [opT op], wfT t ∧ okV (valT t) := by
    intro t ht
    rcases List.mem_append.1 ht with ht | ht
    · rcases List.mem_append.1 ht with ht | ht
      · exact ok.t t ht
      · exact ok2.t t ht
    · obtain rfl := List.mem_singleton.1 ht
      exact ⟨⟨by unfold opT; simp, by unfold opT; simp, by unfold opT; simp, by unfold opT; simp⟩, ⟨by unfold inR valT opT; simp, by unfold valT opT; simp⟩⟩
  have hle : (a ++ b ++ [opT op]).length = a.length + b.length + 1 := by simp only [List.length_append, List.length_singleton]
  have c0 := c_rCheck (a ++ b ++ [opT op]) (fun t ht => (hwe t ht).1) (by omega)
  have ca := c_rCheck a (fun t ht => (ok.t t ht).1) (by omega)
  have cb := c_rCheck b (fun t ht => (ok2.t t ht).1) (by omega)
  have em : (a ++ b ++ [opT op]).map termAV = a.map termAV ++ (b.map termAV ++ [.agg [.raw (.int .i64 op), .agg [.raw (.int .i64 0), .raw (.int .i64 0), .raw (.string ⟨#[]⟩)], .raw (.string ⟨#[]⟩)]]) := by
    rw [List.map_append, List.map_append, List.append_assoc]; rfl
  rw [em] at c0
  by_cases hw : ¬ ((wholeE (a ++ b ++ [opT op])).2 = 0 ∧ (wholeE a).2 = 0 ∧ (wholeE b).2 = 0)
  · have h3 : (wholeE (a ++ b ++ [opT op])).2 = 0 → (wholeE a).2 = 0 → ¬ (wholeE b).2 = 0 := fun x y z => hw ⟨x, y, z⟩
    generalize (wholeE (a ++ b ++ [opT op])).2 = w0 at c0 h3
    generalize (wholeE a).2 = wa at ca h3
    generalize (wholeE b).2 = wb at cb h3
    clear hw hwe em ok ok2 hb1 hb2 hia hib hv
    by_cases e0 : w0 = 0
    · subst e0
      by_cases ea : wa = 0
      · subst ea
        have eb := h3 rfl rfl
        refine calls_go (nt := 138) (rs := [.tmp 8]) Tryd.func5 rfl rfl rfl (by simp) (by intro id h; simp at h <;> omega) ?_; intro Q hQ hW
        repeat' (first
    | (with_reducible refine run_n ?_; with_reducible first | refine hK _ _ (by simp) ?_ | refine hK _ _ ?_; clear hK K)
    | (refine zzc ?_)
    | (with_reducible refine awp_regT (by kernel_rfl) ?_; intro K hK)
    | (with_reducible refine a_cond (ht := ?_) (hf := ?_) <;> intro hb <;> (try simp at hb) <;> (try contradiction) <;> (try subst hb) <;> (try omega))
    | (with_reducible first | refine a_move (hr:=?_) | refine a_assign (hr:=?_) | refine a_load (hr:=?_) | refine a_bin (hr:=?_) | refine a_lenS (hr:=?_) | refine a_lenR (hr:=?_) | refine a_extract (hr:=?_) | refine a_pick (hr:=?_) | refine a_un (hr:=?_) | refine a_store (hr:=?_) | refine a_alloc (hr:=?_) | refine a_eqI (hr:=?_) | refine a_neI (hr:=?_) | refine a_eqB (hr:=?_) | refine a_neB (hr:=?_) | refine a_eqS (hr:=?_) | refine a_neS (hr:=?_) | refine a_build (hr:=?_) | refine a_buildSlice (hr:=?_) | refine a_append (hr:=?_) | refine a_append0 (hr:=?_) | refine a_appendX (hr:=?_) | refine a_call0 (hcall := c_live6) (hr:=?_) | refine a_callF (hcall := fw) (hr:=?_) | refine a_callF (hcall := fw2) (hr:=?_) | refine a_callF (hcall := c0) (hr:=?_) | refine a_callF (hcall := ca) (hr:=?_) | refine a_callF (hcall := cb) (hr:=?_) | refine a_gT (hr:=?_) | refine a_gF (hr:=?_) | refine a_gU (hr:=?_))
    | (with_reducible refine a_gB (hT := ?_) (hF := ?_) <;> intro hb <;> (try simp at hb) <;> (try contradiction) <;> (try subst hb) <;> (try omega))
    | fail)
        all_goals ((refine zzr hQ ?_))
        all_goals (exact Fin.drop (by simp; exact .r) (by simp))
      · clear h3
        refine calls_go (nt := 138) (rs := [.tmp 8]) Tryd.func5 rfl rfl rfl (by simp) (by intro id h; simp at h <;> omega) ?_; intro Q hQ hW
        repeat' (first
    | (with_reducible refine run_n ?_; with_reducible first | refine hK _ _ (by simp) ?_ | refine hK _ _ ?_; clear hK K)
    | (refine zzc ?_)
    | (with_reducible refine awp_regT (by kernel_rfl) ?_; intro K hK)
    | (with_reducible refine a_cond (ht := ?_) (hf := ?_) <;> intro hb <;> (try simp at hb) <;> (try contradiction) <;> (try subst hb) <;> (try omega))
    | (with_reducible first | refine a_move (hr:=?_) | refine a_assign (hr:=?_) | refine a_load (hr:=?_) | refine a_bin (hr:=?_) | refine a_lenS (hr:=?_) | refine a_lenR (hr:=?_) | refine a_extract (hr:=?_) | refine a_pick (hr:=?_) | refine a_un (hr:=?_) | refine a_store (hr:=?_) | refine a_alloc (hr:=?_) | refine a_eqI (hr:=?_) | refine a_neI (hr:=?_) | refine a_eqB (hr:=?_) | refine a_neB (hr:=?_) | refine a_eqS (hr:=?_) | refine a_neS (hr:=?_) | refine a_build (hr:=?_) | refine a_buildSlice (hr:=?_) | refine a_append (hr:=?_) | refine a_append0 (hr:=?_) | refine a_appendX (hr:=?_) | refine a_call0 (hcall := c_live6) (hr:=?_) | refine a_callF (hcall := fw) (hr:=?_) | refine a_callF (hcall := fw2) (hr:=?_) | refine a_callF (hcall := c0) (hr:=?_) | refine a_callF (hcall := ca) (hr:=?_) | refine a_callF (hcall := cb) (hr:=?_) | refine a_gT (hr:=?_) | refine a_gF (hr:=?_) | refine a_gU (hr:=?_))
    | (with_reducible refine a_gB (hT := ?_) (hF := ?_) <;> intro hb <;> (try simp at hb) <;> (try contradiction) <;> (try subst hb) <;> (try omega))
    | fail)
        all_goals ((refine zzr hQ ?_))
        all_goals (exact Fin.drop (by simp; exact .r) (by simp))
    · clear h3
      refine calls_go (nt := 138) (rs := [.tmp 8]) Tryd.func5 rfl rfl rfl (by simp) (by intro id h; simp at h <;> omega) ?_; intro Q hQ hW
      repeat' (first
    | (with_reducible refine run_n ?_; with_reducible first | refine hK _ _ (by simp) ?_ | refine hK _ _ ?_; clear hK K)
    | (refine zzc ?_)
    | (with_reducible refine awp_regT (by kernel_rfl) ?_; intro K hK)
    | (with_reducible refine a_cond (ht := ?_) (hf := ?_) <;> intro hb <;> (try simp at hb) <;> (try contradiction) <;> (try subst hb) <;> (try omega))
    | (with_reducible first | refine a_move (hr:=?_) | refine a_assign (hr:=?_) | refine a_load (hr:=?_) | refine a_bin (hr:=?_) | refine a_lenS (hr:=?_) | refine a_lenR (hr:=?_) | refine a_extract (hr:=?_) | refine a_pick (hr:=?_) | refine a_un (hr:=?_) | refine a_store (hr:=?_) | refine a_alloc (hr:=?_) | refine a_eqI (hr:=?_) | refine a_neI (hr:=?_) | refine a_eqB (hr:=?_) | refine a_neB (hr:=?_) | refine a_eqS (hr:=?_) | refine a_neS (hr:=?_) | refine a_build (hr:=?_) | refine a_buildSlice (hr:=?_) | refine a_append (hr:=?_) | refine a_append0 (hr:=?_) | refine a_appendX (hr:=?_) | refine a_call0 (hcall := c_live6) (hr:=?_) | refine a_callF (hcall := fw) (hr:=?_) | refine a_callF (hcall := fw2) (hr:=?_) | refine a_callF (hcall := c0) (hr:=?_) | refine a_callF (hcall := ca) (hr:=?_) | refine a_callF (hcall := cb) (hr:=?_) | refine a_gT (hr:=?_) | refine a_gF (hr:=?_) | refine a_gU (hr:=?_))
    | (with_reducible refine a_gB (hT := ?_) (hF := ?_) <;> intro hb <;> (try simp at hb) <;> (try contradiction) <;> (try subst hb) <;> (try omega))
    | fail)
      all_goals ((refine zzr hQ ?_))
      all_goals (exact Fin.drop (by simp; exact .r) (by simp))
  obtain ⟨w0, wa, wb⟩ := Classical.not_not.1 hw
  clear hw
  have L := parts (vars := l) wa wb w0 ⟨hop1, hop2⟩
  have q1 := c_Of a l a.length ok.t (by omega) ok.v (by omega) (by unfold inR; omega)
  have q2 := c_Of b l b.length ok2.t (by omega) ok.v (by omega) (by unfold inR; omega)
  have q3 := c_Of (a ++ b ++ [opT op]) l ((a ++ b ++ [opT op]).length : Nat) hwe (by omega) ok.v (by omega) (by unfold inR; omega)
  have rg := of6_range (vars := l) wa (f := a.length) (by omega)
  have rg2 := of6_range (vars := l) w0 (f := ((a ++ b ++ [opT op]).length : Nat)) (by omega)
  have qd := c_done a l _ oa rg q1
  have okx : okV (ofE6 a l a.length).1 ∧ okV (ofE6 b l b.length).1 := ⟨of6_ok ok.t ok.v, of6_ok ok2.t ok.v⟩
  rw [w0] at c0
  rw [wa] at ca
  rw [wb] at cb
  rw [em] at q3
  clear w0 wa wb hwe em ok ok2 hb1 hb2 hia hib hv
  generalize ofE6 a l a.length = r1 at L q1 rg qd okx
  generalize ofE6 b l b.length = r2 at L q2 okx
  generalize ofE6 (a ++ b ++ [opT op]) l ((a ++ b ++ [opT op]).length : Nat) = r3 at L q3 rg2
  rw [hle] at q3 rg2
  obtain ⟨⟨k1, n1, s1⟩, f1, x1⟩ := r1
  obtain ⟨⟨k2, n2, s2⟩, f2, x2⟩ := r2
  obtain ⟨⟨k3, n3, s3⟩, f3, x3⟩ := r3
  have qt := c_Two op (k1, n1, s1) (k2, n2, s2) okx.1.1 okx.2.1 (by have := okx.1.2; simp only at this ⊢; omega) (by have := okx.2.2; simp only at this ⊢; omega)
  obtain ⟨L1, L2, L3, L4⟩ := L
  simp only at L1 L2 L3 L4 q1 q2 q3 qd rg rg2
  have a1 := c_FCode x1.ev
  have a2 := c_FCode x2.ev
  have a3 := c_FCode x3.ev
  unfold E6.bad at L1 L2 L3
  rw [show a.length + b.length + 1 = a.length + (b.length + 1) by omega] at q3
  generalize x3.ev = y3 at q3 a3 L1 L2 L3
  have h3c : codeE y3 = codeE y3 := rfl
  generalize hc3 : codeE y3 = z3 at a3 L1 L2 L3
  clear h3c hc3 okx
  generalize x1.ev = y1 at q1 a1 L1 L2 L3
  generalize x2.ev = y2 at q2 a2 L2 L3
  cases y1 with
  | some y1 =>
    obtain ⟨m1, m2⟩ := L1 rfl
    subst m1 m2
    clear L1 L2 L3 qt a2
    generalize codeE (some y1) = z1 at a1 a3
    simp only [errO_some] at q1 a1
    generalize errO y2 = u2 at q2
    have hdd : decide ((b.length : Int) + 1 + f1 = (a.length : Int) + (b.length + 1) - (a.length - f1)) = true := decide_eq_true (by omega)
    cases y3 with
    | none =>
      simp only [errO_none] at q3 a3
      refine calls_go (nt := 138) (rs := [.tmp 8]) Tryd.func5 rfl rfl rfl (by simp) (by intro id h; simp at h <;> omega) ?_; intro Q hQ hW
      repeat' (first
    | (with_reducible refine run_n ?_; with_reducible first | refine hK _ _ (by simp) ?_ | refine hK _ _ ?_; clear hK K)
    | (refine zzc ?_)
    | (with_reducible refine awp_regT (by kernel_rfl) ?_; intro K hK)
    | (with_reducible refine a_cond (ht := ?_) (hf := ?_) <;> intro hb <;> (try simp at hb) <;> (try contradiction) <;> (try subst hb) <;> (try omega))
    | (with_reducible first | refine a_move (hr:=?_) | refine a_assign (hr:=?_) | refine a_load (hr:=?_) | refine a_bin (hr:=?_) | refine a_lenS (hr:=?_) | refine a_lenR (hr:=?_) | refine a_extract (hr:=?_) | refine a_pick (hr:=?_) | refine a_un (hr:=?_) | refine a_store (hr:=?_) | refine a_alloc (hr:=?_) | refine a_eqI (hr:=?_) | refine a_neI (hr:=?_) | refine a_eqB (hr:=?_) | refine a_neB (hr:=?_) | refine a_eqS (hr:=?_) | refine a_neS (hr:=?_) | refine a_build (hr:=?_) | refine a_buildSlice (hr:=?_) | refine a_append (hr:=?_) | refine a_append0 (hr:=?_) | refine a_appendX (hr:=?_) | refine a_call0 (hcall := c_live6) (hr:=?_) | refine a_callF (hcall := fw) (hr:=?_) | refine a_callF (hcall := fw2) (hr:=?_) | refine a_callF (hcall := c0) (hr:=?_) | refine a_callF (hcall := ca) (hr:=?_) | refine a_callF (hcall := cb) (hr:=?_) | refine a_callF (hcall := q1) (hr:=?_) | refine a_callF (hcall := q2) (hr:=?_) | refine a_callF (hcall := q3) (hr:=?_) | refine a_callF (hcall := a1) (hr:=?_) | refine a_callF (hcall := a3) (hr:=?_) | refine a_callF (hcall := qd) (hr:=?_) | refine a_gT (hr:=?_) | refine a_gF (hr:=?_) | refine a_gU (hr:=?_))
    | (with_reducible refine a_gB (hT := ?_) (hF := ?_) <;> intro hb <;> (try simp at hb) <;> (try contradiction) <;> (try subst hb) <;> (try omega))
    | fail)
      all_goals (rw [hdd])
      all_goals ((refine zzr hQ ?_))
      all_goals (exact Fin.drop (by simp; exact .r) (by simp))
    | some y3 =>
      simp only [errO_some] at q3 a3
      refine calls_go (nt := 138) (rs := [.tmp 8]) Tryd.func5 rfl rfl rfl (by simp) (by intro id h; simp at h <;> omega) ?_; intro Q hQ hW
      repeat' (first
    | (with_reducible refine run_n ?_; with_reducible first | refine hK _ _ (by simp) ?_ | refine hK _ _ ?_; clear hK K)
    | (refine zzc ?_)
    | (with_reducible refine awp_regT (by kernel_rfl) ?_; intro K hK)
    | (with_reducible refine a_cond (ht := ?_) (hf := ?_) <;> intro hb <;> (try simp at hb) <;> (try contradiction) <;> (try subst hb) <;> (try omega))
    | (with_reducible first | refine a_move (hr:=?_) | refine a_assign (hr:=?_) | refine a_load (hr:=?_) | refine a_bin (hr:=?_) | refine a_lenS (hr:=?_) | refine a_lenR (hr:=?_) | refine a_extract (hr:=?_) | refine a_pick (hr:=?_) | refine a_un (hr:=?_) | refine a_store (hr:=?_) | refine a_alloc (hr:=?_) | refine a_eqI (hr:=?_) | refine a_neI (hr:=?_) | refine a_eqB (hr:=?_) | refine a_neB (hr:=?_) | refine a_eqS (hr:=?_) | refine a_neS (hr:=?_) | refine a_build (hr:=?_) | refine a_buildSlice (hr:=?_) | refine a_append (hr:=?_) | refine a_append0 (hr:=?_) | refine a_appendX (hr:=?_) | refine a_call0 (hcall := c_live6) (hr:=?_) | refine a_callF (hcall := fw) (hr:=?_) | refine a_callF (hcall := fw2) (hr:=?_) | refine a_callF (hcall := c0) (hr:=?_) | refine a_callF (hcall := ca) (hr:=?_) | refine a_callF (hcall := cb) (hr:=?_) | refine a_callF (hcall := q1) (hr:=?_) | refine a_callF (hcall := q2) (hr:=?_) | refine a_callF (hcall := q3) (hr:=?_) | refine a_callF (hcall := a1) (hr:=?_) | refine a_callF (hcall := a3) (hr:=?_) | refine a_callF (hcall := qd) (hr:=?_) | refine a_gT (hr:=?_) | refine a_gF (hr:=?_) | refine a_gU (hr:=?_))
    | (with_reducible refine a_gB (hT := ?_) (hF := ?_) <;> intro hb <;> (try simp at hb) <;> (try contradiction) <;> (try subst hb) <;> (try omega))
    | fail)
      all_goals (rw [hdd])
      all_goals ((refine zzr hQ ?_))
      all_goals (exact Fin.drop (by simp; exact .r) (by simp))
  | none =>
    clear L1 qd a1
    cases y2 with
    | some y2 =>
      have m1 := L2 rfl rfl
      subst m1
      clear L2 L3 qt
      generalize codeE (some y2) = z2 at a2 a3
      simp only [errO_some, errO_none] at q1 q2 a2
      refine calls_go (nt := 138) (rs := [.tmp 8]) Tryd.func5 rfl rfl rfl (by simp) (by intro id h; simp at h <;> omega) ?_; intro Q hQ hW
      repeat' (first
    | (with_reducible refine run_n ?_; with_reducible first | refine hK _ _ (by simp) ?_ | refine hK _ _ ?_; clear hK K)
    | (refine zzc ?_)
    | (with_reducible refine awp_regT (by kernel_rfl) ?_; intro K hK)
    | (with_reducible refine a_cond (ht := ?_) (hf := ?_) <;> intro hb <;> (try simp at hb) <;> (try contradiction) <;> (try subst hb) <;> (try omega))
    | (with_reducible first | refine a_move (hr:=?_) | refine a_assign (hr:=?_) | refine a_load (hr:=?_) | refine a_bin (hr:=?_) | refine a_lenS (hr:=?_) | refine a_lenR (hr:=?_) | refine a_extract (hr:=?_) | refine a_pick (hr:=?_) | refine a_un (hr:=?_) | refine a_store (hr:=?_) | refine a_alloc (hr:=?_) | refine a_eqI (hr:=?_) | refine a_neI (hr:=?_) | refine a_eqB (hr:=?_) | refine a_neB (hr:=?_) | refine a_eqS (hr:=?_) | refine a_neS (hr:=?_) | refine a_build (hr:=?_) | refine a_buildSlice (hr:=?_) | refine a_append (hr:=?_) | refine a_append0 (hr:=?_) | refine a_appendX (hr:=?_) | refine a_call0 (hcall := c_live6) (hr:=?_) | refine a_callF (hcall := fw) (hr:=?_) | refine a_callF (hcall := fw2) (hr:=?_) | refine a_callF (hcall := c0) (hr:=?_) | refine a_callF (hcall := ca) (hr:=?_) | refine a_callF (hcall := cb) (hr:=?_) | refine a_callF (hcall := q1) (hr:=?_) | refine a_callF (hcall := q2) (hr:=?_) | refine a_callF (hcall := q3) (hr:=?_) | refine a_callF (hcall := a2) (hr:=?_) | refine a_callF (hcall := a3) (hr:=?_) | refine a_gT (hr:=?_) | refine a_gF (hr:=?_) | refine a_gU (hr:=?_))
    | (with_reducible refine a_gB (hT := ?_) (hF := ?_) <;> intro hb <;> (try simp at hb) <;> (try contradiction) <;> (try subst hb) <;> (try omega))
    | fail)
      all_goals ((refine zzr hQ ?_))
      all_goals (exact Fin.drop (by simp; exact .r) (by simp))
    | none =>
      obtain ⟨m1, m2, m3⟩ := L3 rfl rfl
      clear L2 L3 a2
      generalize twoE op (k1, n1, s1) (k2, n2, s2) = r at qt m1 m2
      obtain ⟨⟨rk, rn, rs⟩, rc⟩ := r
      simp only [Prod.mk.injEq] at m1 m2 qt
      obtain ⟨rfl, rfl, rfl⟩ := m1
      subst m2 m3
      simp only [errO_none] at q1 q2
      refine calls_go (nt := 138) (rs := [.tmp 8]) Tryd.func5 rfl rfl rfl (by simp) (by intro id h; simp at h <;> omega) ?_; intro Q hQ hW
      repeat' (first
    | (with_reducible refine run_n ?_; with_reducible first | refine hK _ _ (by simp) ?_ | refine hK _ _ ?_; clear hK K)
    | (refine zzc ?_)
    | (with_reducible refine awp_regT (by kernel_rfl) ?_; intro K hK)
    | (with_reducible refine a_cond (ht := ?_) (hf := ?_) <;> intro hb <;> (try simp at hb) <;> (try contradiction) <;> (try subst hb) <;> (try omega))
    | (with_reducible first | refine a_move (hr:=?_) | refine a_assign (hr:=?_) | refine a_load (hr:=?_) | refine a_bin (hr:=?_) | refine a_lenS (hr:=?_) | refine a_lenR (hr:=?_) | refine a_extract (hr:=?_) | refine a_pick (hr:=?_) | refine a_un (hr:=?_) | refine a_store (hr:=?_) | refine a_alloc (hr:=?_) | refine a_eqI (hr:=?_) | refine a_neI (hr:=?_) | refine a_eqB (hr:=?_) | refine a_neB (hr:=?_) | refine a_eqS (hr:=?_) | refine a_neS (hr:=?_) | refine a_build (hr:=?_) | refine a_buildSlice (hr:=?_) | refine a_append (hr:=?_) | refine a_append0 (hr:=?_) | refine a_appendX (hr:=?_) | refine a_call0 (hcall := c_live6) (hr:=?_) | refine a_callF (hcall := fw) (hr:=?_) | refine a_callF (hcall := fw2) (hr:=?_) | refine a_callF (hcall := c0) (hr:=?_) | refine a_callF (hcall := ca) (hr:=?_) | refine a_callF (hcall := cb) (hr:=?_) | refine a_callF (hcall := q1) (hr:=?_) | refine a_callF (hcall := q2) (hr:=?_) | refine a_callF (hcall := q3) (hr:=?_) | refine a_callF (hcall := a3) (hr:=?_) | refine a_call0 (hcall := qt) (hr:=?_) | refine a_gT (hr:=?_) | refine a_gF (hr:=?_) | refine a_gU (hr:=?_))
    | (with_reducible refine a_gB (hT := ?_) (hF := ?_) <;> intro hb <;> (try simp at hb) <;> (try contradiction) <;> (try subst hb) <;> (try omega))
    | fail)
      all_goals ((refine zzr hQ ?_))
      all_goals (exact Fin.drop (by simp; exact .r) (by simp))
theorem row_EvalParts (a b : List (Int × (Int × Int × ByteArray) × ByteArray)) (op : Int) (l : List (ByteArray × Int × Int × ByteArray)) (hal : a.length < 140737488351232) (hbl : b.length < 140737488351232) (hll : l.length < 9223372036854775808) (hia : ∀ x ∈ a, inR x.2.1.2.1) (hib : ∀ x ∈ b, inR x.2.1.2.1) (hv : ∀ x ∈ l, inR x.2.2.1) (hop : inR op) : CallD Tryd.prog 5 [.sl 5 (a.map fun x => termAV (tof x)), .sl 5 (b.map fun x => termAV (tof x)), .raw (.int .i64 op), .sl 4 (l.map fun x => varAV (vof x))] noHeap (.raw (.bool true)) noHeap := by
  have := law_EvalParts (a.map tof) (b.map tof) op (l.map vof) (by simpa using hal) (by simpa using hbl) (by simpa using hll) (fun t ht => by
    obtain ⟨x, hx, rfl⟩ := List.mem_map.1 ht
    exact hia x hx) (fun t ht => by
    obtain ⟨x, hx, rfl⟩ := List.mem_map.1 ht
    exact hib x hx) (fun t ht => by
    obtain ⟨x, hx, rfl⟩ := List.mem_map.1 ht
    exact hv x hx) hop
  rwa [map_tof, map_tof, map_vof] at this
end Go.Proofs.YtjbbnollidcagaaDoor.Asl

