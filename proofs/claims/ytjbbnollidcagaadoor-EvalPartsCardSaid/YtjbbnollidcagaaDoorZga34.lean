/- Part 34 of what the row leans on: abstract values and states, their rules, and the contracts of the functions. -/
import Derived.Test.YtjbbnollidcagaaDoorZga33
namespace Go.Proofs.YtjbbnollidcagaaDoor.Asl
open Go Go.RowKit
open Go.Proofs.YtjbbnollidcagaaDoor.Errs (EV)
set_option linter.unusedVariables false
set_option linter.unusedSimpArgs false
set_option maxRecDepth 100000
set_option maxHeartbeats 8000000
theorem of6_range {e : List TermV} {vars : List VarV} {f : Int} (h : (wholeE e).2 = 0) (hf : 0 ≤ f) : 0 ≤ (ofE6 e vars f).2.1 ∧ (ofE6 e vars f).2.1 ≤ f := by
  rw [of6_whole h hf, evL_R]
  exact evR_range vars e f [] hf
theorem law_EvalFuel (e : List TermV) (l : List VarV) (less more : Int) (hel : e.length < 140737488351232) (hll : l.length < 9223372036854775808) (hi : ∀ t ∈ e, inR t.v) (hv : ∀ x ∈ l, inR x.v) (h1 : 0 ≤ less ∧ less < 65536) (h2 : 0 ≤ more ∧ more < 65536) : CallD Tryd.prog 9 [.sl 5 (e.map termAV), .sl 4 (l.map varAV), .raw (.int .u16 less), .raw (.int .u16 more)] noHeap (.raw (.bool true)) noHeap := by
  have fw := c_few6 e l (by omega) hll
  obtain ⟨b, hb⟩ : ∃ b, fewT e l = b := ⟨_, rfl⟩
  rw [hb] at fw
  cases b with
  | false =>
    refine calls_go (nt := 110) (rs := [.tmp 8]) Tryd.func9 rfl rfl rfl (by simp) (by intro id h; simp at h <;> omega) ?_; intro Q hQ hW
    repeat' (first
    | (with_reducible refine run_n ?_; with_reducible first | refine hK _ _ (by simp) ?_ | refine hK _ _ ?_; clear hK K)
    | (refine zzc ?_)
    | (with_reducible refine awp_regT (by kernel_rfl) ?_; intro K hK)
    | (with_reducible refine a_cond (ht := ?_) (hf := ?_) <;> intro hb <;> (try simp at hb) <;> (try contradiction) <;> (try subst hb) <;> (try omega))
    | (with_reducible first | refine a_move (hr:=?_) | refine a_assign (hr:=?_) | refine a_load (hr:=?_) | refine a_bin (hr:=?_) | refine a_lenS (hr:=?_) | refine a_lenR (hr:=?_) | refine a_extract (hr:=?_) | refine a_pick (hr:=?_) | refine a_un (hr:=?_) | refine a_store (hr:=?_) | refine a_alloc (hr:=?_) | refine a_eqI (hr:=?_) | refine a_neI (hr:=?_) | refine a_eqB (hr:=?_) | refine a_neB (hr:=?_) | refine a_conv (hr:=?_) | refine a_bytesStr (hr:=?_) | refine a_strBytes (hr:=?_) | refine a_eqS (hr:=?_) | refine a_neS (hr:=?_) | refine a_call0 (hcall := c_live6) (hr:=?_) | refine a_callF (hcall := fw) (hr:=?_) | refine a_gT (hr:=?_) | refine a_gF (hr:=?_) | refine a_gU (hr:=?_))
    | (with_reducible refine a_gB (hT := ?_) (hF := ?_) <;> intro hb <;> (try simp at hb) <;> (try contradiction) <;> (try subst hb) <;> (try omega))
    | fail)
    all_goals ((refine zzr hQ ?_))
    all_goals (exact Fin.drop (by simp; exact .r) (by simp))
  | true =>
    have ok := few_ok hb hi hv
    have oe := ok.e
    have ol := ok.l
    have q0 := c_rCheck e (fun t ht => (ok.t t ht).1) (by omega)
    by_cases hw : (wholeE e).2 = 0
    · have q1 := c_Of e l e.length ok.t (by omega) ok.v (by omega) (by unfold inR; omega)
      have q2 := c_Of e l (e.length + more) ok.t (by omega) ok.v (by omega) (by unfold inR; omega)
      have q3 := c_Of e l less ok.t (by omega) ok.v (by omega) (by unfold inR; omega)
      have L1 := fuel_more (vars := l) hw more h2.1
      have L2 := fun h => fuel_less (vars := l) hw less h1.1 h
      have rg := of6_range (vars := l) hw (f := e.length) (by omega)
      rw [hw] at q0
      clear hb ok hw hi hv
      generalize ofE6 e l e.length = r1 at q1 L1 L2 rg
      generalize ofE6 e l (e.length + more) = r2 at q2 L1
      generalize ofE6 e l less = r3 at q3 L2
      obtain ⟨e1, e2, e3, e4, e5⟩ := L1
      obtain ⟨⟨k, n, s⟩, f, x⟩ := r1
      obtain ⟨v2, f2, x2⟩ := r2
      simp only at e1 e2 e3 e4 e5 q1 q2 rg L2
      subst e1 e2 e3
      have a1 := c_FCode x2.ev
      have a2 := c_FIs x2.ev 60
      rw [decide_eq_false e4] at a2
      generalize x2.ev = y at q1 q2 a1 a2 e5 L2
      clear e4
      by_cases hlt : less < e.length
      · obtain ⟨z, hz, hz2⟩ := L2 hlt
        obtain ⟨⟨k3, n3, s3⟩, f3, x3⟩ := r3
        simp only at hz q3
        rw [hz] at q3
        have a3 := c_FCode (some z)
        have a4 := c_FIs (some z) 60
        generalize codeE (some z) = cz at a3 a4 hz2
        generalize codeE y = cy at a1 hz2
        simp only [errO_some] at q3 a3 a4
        clear hz L2
        by_cases h60 : cz = 60
        · subst h60
          rw [decide_eq_true rfl] at a4
          cases y with
          | none =>
            obtain rfl := e5 rfl
            simp only [errO_none] at q1 q2 a1 a2
            refine calls_go (nt := 110) (rs := [.tmp 8]) Tryd.func9 rfl rfl rfl (by simp) (by intro id h; simp at h <;> omega) ?_; intro Q hQ hW
            repeat' (first
    | (with_reducible refine run_n ?_; with_reducible first | refine hK _ _ (by simp) ?_ | refine hK _ _ ?_; clear hK K)
    | (refine zzc ?_)
    | (with_reducible refine awp_regT (by kernel_rfl) ?_; intro K hK)
    | (with_reducible refine a_cond (ht := ?_) (hf := ?_) <;> intro hb <;> (try simp at hb) <;> (try contradiction) <;> (try subst hb) <;> (try omega))
    | (with_reducible first | refine a_move (hr:=?_) | refine a_assign (hr:=?_) | refine a_load (hr:=?_) | refine a_bin (hr:=?_) | refine a_lenS (hr:=?_) | refine a_lenR (hr:=?_) | refine a_extract (hr:=?_) | refine a_pick (hr:=?_) | refine a_un (hr:=?_) | refine a_store (hr:=?_) | refine a_alloc (hr:=?_) | refine a_eqI (hr:=?_) | refine a_neI (hr:=?_) | refine a_eqB (hr:=?_) | refine a_neB (hr:=?_) | refine a_conv (hr:=?_) | refine a_bytesStr (hr:=?_) | refine a_strBytes (hr:=?_) | refine a_eqS (hr:=?_) | refine a_neS (hr:=?_) | refine a_call0 (hcall := c_live6) (hr:=?_) | refine a_callF (hcall := fw) (hr:=?_) | refine a_callF (hcall := q0) (hr:=?_) | refine a_callF (hcall := q1) (hr:=?_) | refine a_callF (hcall := q2) (hr:=?_) | refine a_callF (hcall := q3) (hr:=?_) | refine a_callF (hcall := a1) (hr:=?_) | refine a_callF (hcall := a2) (hr:=?_) | refine a_callF (hcall := a3) (hr:=?_) | refine a_callF (hcall := a4) (hr:=?_) | refine a_gT (hr:=?_) | refine a_gF (hr:=?_) | refine a_gU (hr:=?_))
    | (with_reducible refine a_gB (hT := ?_) (hF := ?_) <;> intro hb <;> (try simp at hb) <;> (try contradiction) <;> (try subst hb) <;> (try omega))
    | fail)
            all_goals ((refine zzr hQ ?_))
            all_goals (exact Fin.drop (by simp; exact .r) (by simp))
          | some y =>
            clear e5
            simp only [errO_some] at q1 q2 a1 a2
            refine calls_go (nt := 110) (rs := [.tmp 8]) Tryd.func9 rfl rfl rfl (by simp) (by intro id h; simp at h <;> omega) ?_; intro Q hQ hW
            repeat' (first
    | (with_reducible refine run_n ?_; with_reducible first | refine hK _ _ (by simp) ?_ | refine hK _ _ ?_; clear hK K)
    | (refine zzc ?_)
    | (with_reducible refine awp_regT (by kernel_rfl) ?_; intro K hK)
    | (with_reducible refine a_cond (ht := ?_) (hf := ?_) <;> intro hb <;> (try simp at hb) <;> (try contradiction) <;> (try subst hb) <;> (try omega))
    | (with_reducible first | refine a_move (hr:=?_) | refine a_assign (hr:=?_) | refine a_load (hr:=?_) | refine a_bin (hr:=?_) | refine a_lenS (hr:=?_) | refine a_lenR (hr:=?_) | refine a_extract (hr:=?_) | refine a_pick (hr:=?_) | refine a_un (hr:=?_) | refine a_store (hr:=?_) | refine a_alloc (hr:=?_) | refine a_eqI (hr:=?_) | refine a_neI (hr:=?_) | refine a_eqB (hr:=?_) | refine a_neB (hr:=?_) | refine a_conv (hr:=?_) | refine a_bytesStr (hr:=?_) | refine a_strBytes (hr:=?_) | refine a_eqS (hr:=?_) | refine a_neS (hr:=?_) | refine a_call0 (hcall := c_live6) (hr:=?_) | refine a_callF (hcall := fw) (hr:=?_) | refine a_callF (hcall := q0) (hr:=?_) | refine a_callF (hcall := q1) (hr:=?_) | refine a_callF (hcall := q2) (hr:=?_) | refine a_callF (hcall := q3) (hr:=?_) | refine a_callF (hcall := a1) (hr:=?_) | refine a_callF (hcall := a2) (hr:=?_) | refine a_callF (hcall := a3) (hr:=?_) | refine a_callF (hcall := a4) (hr:=?_) | refine a_gT (hr:=?_) | refine a_gF (hr:=?_) | refine a_gU (hr:=?_))
    | (with_reducible refine a_gB (hT := ?_) (hF := ?_) <;> intro hb <;> (try simp at hb) <;> (try contradiction) <;> (try subst hb) <;> (try omega))
    | fail)
            all_goals ((refine zzr hQ ?_))
            all_goals (exact Fin.drop (by simp; exact .r) (by simp))
        · rw [decide_eq_false h60] at a4
          obtain rfl : cz = cy := by rcases hz2 with h | h
                                     · exact absurd h h60
                                     · exact h
          clear hz2 h60
          cases y with
          | none =>
            obtain rfl := e5 rfl
            simp only [errO_none] at q1 q2 a1 a2
            refine calls_go (nt := 110) (rs := [.tmp 8]) Tryd.func9 rfl rfl rfl (by simp) (by intro id h; simp at h <;> omega) ?_; intro Q hQ hW
            repeat' (first
    | (with_reducible refine run_n ?_; with_reducible first | refine hK _ _ (by simp) ?_ | refine hK _ _ ?_; clear hK K)
    | (refine zzc ?_)
    | (with_reducible refine awp_regT (by kernel_rfl) ?_; intro K hK)
    | (with_reducible refine a_cond (ht := ?_) (hf := ?_) <;> intro hb <;> (try simp at hb) <;> (try contradiction) <;> (try subst hb) <;> (try omega))
    | (with_reducible first | refine a_move (hr:=?_) | refine a_assign (hr:=?_) | refine a_load (hr:=?_) | refine a_bin (hr:=?_) | refine a_lenS (hr:=?_) | refine a_lenR (hr:=?_) | refine a_extract (hr:=?_) | refine a_pick (hr:=?_) | refine a_un (hr:=?_) | refine a_store (hr:=?_) | refine a_alloc (hr:=?_) | refine a_eqI (hr:=?_) | refine a_neI (hr:=?_) | refine a_eqB (hr:=?_) | refine a_neB (hr:=?_) | refine a_conv (hr:=?_) | refine a_bytesStr (hr:=?_) | refine a_strBytes (hr:=?_) | refine a_eqS (hr:=?_) | refine a_neS (hr:=?_) | refine a_call0 (hcall := c_live6) (hr:=?_) | refine a_callF (hcall := fw) (hr:=?_) | refine a_callF (hcall := q0) (hr:=?_) | refine a_callF (hcall := q1) (hr:=?_) | refine a_callF (hcall := q2) (hr:=?_) | refine a_callF (hcall := q3) (hr:=?_) | refine a_callF (hcall := a1) (hr:=?_) | refine a_callF (hcall := a2) (hr:=?_) | refine a_callF (hcall := a3) (hr:=?_) | refine a_callF (hcall := a4) (hr:=?_) | refine a_gT (hr:=?_) | refine a_gF (hr:=?_) | refine a_gU (hr:=?_))
    | (with_reducible refine a_gB (hT := ?_) (hF := ?_) <;> intro hb <;> (try simp at hb) <;> (try contradiction) <;> (try subst hb) <;> (try omega))
    | fail)
            all_goals ((refine zzr hQ ?_))
            all_goals (exact Fin.drop (by simp; exact .r) (by simp))
          | some y =>
            clear e5
            simp only [errO_some] at q1 q2 a1 a2
            refine calls_go (nt := 110) (rs := [.tmp 8]) Tryd.func9 rfl rfl rfl (by simp) (by intro id h; simp at h <;> omega) ?_; intro Q hQ hW
            repeat' (first
    | (with_reducible refine run_n ?_; with_reducible first | refine hK _ _ (by simp) ?_ | refine hK _ _ ?_; clear hK K)
    | (refine zzc ?_)
    | (with_reducible refine awp_regT (by kernel_rfl) ?_; intro K hK)
    | (with_reducible refine a_cond (ht := ?_) (hf := ?_) <;> intro hb <;> (try simp at hb) <;> (try contradiction) <;> (try subst hb) <;> (try omega))
    | (with_reducible first | refine a_move (hr:=?_) | refine a_assign (hr:=?_) | refine a_load (hr:=?_) | refine a_bin (hr:=?_) | refine a_lenS (hr:=?_) | refine a_lenR (hr:=?_) | refine a_extract (hr:=?_) | refine a_pick (hr:=?_) | refine a_un (hr:=?_) | refine a_store (hr:=?_) | refine a_alloc (hr:=?_) | refine a_eqI (hr:=?_) | refine a_neI (hr:=?_) | refine a_eqB (hr:=?_) | refine a_neB (hr:=?_) | refine a_conv (hr:=?_) | refine a_bytesStr (hr:=?_) | refine a_strBytes (hr:=?_) | refine a_eqS (hr:=?_) | refine a_neS (hr:=?_) | refine a_call0 (hcall := c_live6) (hr:=?_) | refine a_callF (hcall := fw) (hr:=?_) | refine a_callF (hcall := q0) (hr:=?_) | refine a_callF (hcall := q1) (hr:=?_) | refine a_callF (hcall := q2) (hr:=?_) | refine a_callF (hcall := q3) (hr:=?_) | refine a_callF (hcall := a1) (hr:=?_) | refine a_callF (hcall := a2) (hr:=?_) | refine a_callF (hcall := a3) (hr:=?_) | refine a_callF (hcall := a4) (hr:=?_) | refine a_gT (hr:=?_) | refine a_gF (hr:=?_) | refine a_gU (hr:=?_))
    | (with_reducible refine a_gB (hT := ?_) (hF := ?_) <;> intro hb <;> (try simp at hb) <;> (try contradiction) <;> (try subst hb) <;> (try omega))
    | fail)
            all_goals ((refine zzr hQ ?_))
            all_goals (exact Fin.drop (by simp; exact .r) (by simp))
      · clear L2 q3
        generalize codeE y = cy at a1
        cases y with
        | none =>
          obtain rfl := e5 rfl
          simp only [errO_none] at q1 q2 a1 a2
          refine calls_go (nt := 110) (rs := [.tmp 8]) Tryd.func9 rfl rfl rfl (by simp) (by intro id h; simp at h <;> omega) ?_; intro Q hQ hW
          repeat' (first
    | (with_reducible refine run_n ?_; with_reducible first | refine hK _ _ (by simp) ?_ | refine hK _ _ ?_; clear hK K)
    | (refine zzc ?_)
    | (with_reducible refine awp_regT (by kernel_rfl) ?_; intro K hK)
    | (with_reducible refine a_cond (ht := ?_) (hf := ?_) <;> intro hb <;> (try simp at hb) <;> (try contradiction) <;> (try subst hb) <;> (try omega))
    | (with_reducible first | refine a_move (hr:=?_) | refine a_assign (hr:=?_) | refine a_load (hr:=?_) | refine a_bin (hr:=?_) | refine a_lenS (hr:=?_) | refine a_lenR (hr:=?_) | refine a_extract (hr:=?_) | refine a_pick (hr:=?_) | refine a_un (hr:=?_) | refine a_store (hr:=?_) | refine a_alloc (hr:=?_) | refine a_eqI (hr:=?_) | refine a_neI (hr:=?_) | refine a_eqB (hr:=?_) | refine a_neB (hr:=?_) | refine a_conv (hr:=?_) | refine a_bytesStr (hr:=?_) | refine a_strBytes (hr:=?_) | refine a_eqS (hr:=?_) | refine a_neS (hr:=?_) | refine a_call0 (hcall := c_live6) (hr:=?_) | refine a_callF (hcall := fw) (hr:=?_) | refine a_callF (hcall := q0) (hr:=?_) | refine a_callF (hcall := q1) (hr:=?_) | refine a_callF (hcall := q2) (hr:=?_) | refine a_callF (hcall := a1) (hr:=?_) | refine a_callF (hcall := a2) (hr:=?_) | refine a_gT (hr:=?_) | refine a_gF (hr:=?_) | refine a_gU (hr:=?_))
    | (with_reducible refine a_gB (hT := ?_) (hF := ?_) <;> intro hb <;> (try simp at hb) <;> (try contradiction) <;> (try subst hb) <;> (try omega))
    | fail)
          all_goals ((refine zzr hQ ?_))
          all_goals (exact Fin.drop (by simp; exact .r) (by simp))
        | some y =>
          clear e5
          simp only [errO_some] at q1 q2 a1 a2
          refine calls_go (nt := 110) (rs := [.tmp 8]) Tryd.func9 rfl rfl rfl (by simp) (by intro id h; simp at h <;> omega) ?_; intro Q hQ hW
          repeat' (first
    | (with_reducible refine run_n ?_; with_reducible first | refine hK _ _ (by simp) ?_ | refine hK _ _ ?_; clear hK K)
    | (refine zzc ?_)
    | (with_reducible refine awp_regT (by kernel_rfl) ?_; intro K hK)
    | (with_reducible refine a_cond (ht := ?_) (hf := ?_) <;> intro hb <;> (try simp at hb) <;> (try contradiction) <;> (try subst hb) <;> (try omega))
    | (with_reducible first | refine a_move (hr:=?_) | refine a_assign (hr:=?_) | refine a_load (hr:=?_) | refine a_bin (hr:=?_) | refine a_lenS (hr:=?_) | refine a_lenR (hr:=?_) | refine a_extract (hr:=?_) | refine a_pick (hr:=?_) | refine a_un (hr:=?_) | refine a_store (hr:=?_) | refine a_alloc (hr:=?_) | refine a_eqI (hr:=?_) | refine a_neI (hr:=?_) | refine a_eqB (hr:=?_) | refine a_neB (hr:=?_) | refine a_conv (hr:=?_) | refine a_bytesStr (hr:=?_) | refine a_strBytes (hr:=?_) | refine a_eqS (hr:=?_) | refine a_neS (hr:=?_) | refine a_call0 (hcall := c_live6) (hr:=?_) | refine a_callF (hcall := fw) (hr:=?_) | refine a_callF (hcall := q0) (hr:=?_) | refine a_callF (hcall := q1) (hr:=?_) | refine a_callF (hcall := q2) (hr:=?_) | refine a_callF (hcall := a1) (hr:=?_) | refine a_callF (hcall := a2) (hr:=?_) | refine a_gT (hr:=?_) | refine a_gF (hr:=?_) | refine a_gU (hr:=?_))
    | (with_reducible refine a_gB (hT := ?_) (hF := ?_) <;> intro hb <;> (try simp at hb) <;> (try contradiction) <;> (try subst hb) <;> (try omega))
    | fail)
          all_goals ((refine zzr hQ ?_))
          all_goals (exact Fin.drop (by simp; exact .r) (by simp))
    · generalize (wholeE e).2 = c at q0 hw
      clear hb ok hi hv
      refine calls_go (nt := 110) (rs := [.tmp 8]) Tryd.func9 rfl rfl rfl (by simp) (by intro id h; simp at h <;> omega) ?_; intro Q hQ hW
      repeat' (first
    | (with_reducible refine run_n ?_; with_reducible first | refine hK _ _ (by simp) ?_ | refine hK _ _ ?_; clear hK K)
    | (refine zzc ?_)
    | (with_reducible refine awp_regT (by kernel_rfl) ?_; intro K hK)
    | (with_reducible refine a_cond (ht := ?_) (hf := ?_) <;> intro hb <;> (try simp at hb) <;> (try contradiction) <;> (try subst hb) <;> (try omega))
    | (with_reducible first | refine a_move (hr:=?_) | refine a_assign (hr:=?_) | refine a_load (hr:=?_) | refine a_bin (hr:=?_) | refine a_lenS (hr:=?_) | refine a_lenR (hr:=?_) | refine a_extract (hr:=?_) | refine a_pick (hr:=?_) | refine a_un (hr:=?_) | refine a_store (hr:=?_) | refine a_alloc (hr:=?_) | refine a_eqI (hr:=?_) | refine a_neI (hr:=?_) | refine a_eqB (hr:=?_) | refine a_neB (hr:=?_) | refine a_conv (hr:=?_) | refine a_bytesStr (hr:=?_) | refine a_strBytes (hr:=?_) | refine a_eqS (hr:=?_) | refine a_neS (hr:=?_) | refine a_call0 (hcall := c_live6) (hr:=?_) | refine a_callF (hcall := fw) (hr:=?_) | refine a_callF (hcall := q0) (hr:=?_) | refine a_gT (hr:=?_) | refine a_gF (hr:=?_) | refine a_gU (hr:=?_))
    | (with_reducible refine a_gB (hT := ?_) (hF := ?_) <;> intro hb <;> (try simp at hb) <;> (try contradiction) <;> (try subst hb) <;> (try omega))
    | fail)
      all_goals ((refine zzr hQ ?_))
      all_goals (exact Fin.drop (by simp; exact .r) (by simp))
theorem row_EvalFuel (e : List (Int × (Int × Int × ByteArray) × ByteArray)) (l : List (ByteArray × Int × Int × ByteArray)) (less more : Int) (hel : e.length < 140737488351232) (hll : l.length < 9223372036854775808) (hi : ∀ x ∈ e, inR x.2.1.2.1) (hv : ∀ x ∈ l, inR x.2.2.1) (h1 : 0 ≤ less ∧ less < 65536) (h2 : 0 ≤ more ∧ more < 65536) : CallD Tryd.prog 9 [.sl 5 (e.map fun x => termAV (tof x)), .sl 4 (l.map fun x => varAV (vof x)), .raw (.int .u16 less), .raw (.int .u16 more)] noHeap (.raw (.bool true)) noHeap := by
  have := law_EvalFuel (e.map tof) (l.map vof) less more (by simpa using hel) (by simpa using hll) (fun t ht => by
    obtain ⟨x, hx, rfl⟩ := List.mem_map.1 ht
    exact hi x hx) (fun t ht => by
    obtain ⟨x, hx, rfl⟩ := List.mem_map.1 ht
    exact hv x hx) h1 h2
  rwa [map_tof, map_vof] at this
end Go.Proofs.YtjbbnollidcagaaDoor.Asl

namespace Go.Proofs.YtjbbnollidcagaaDoor.Asl
open Go Go.RowKit
set_option linter.unusedVariables false
theorem wf_u16 {x : Int} (h : (Lit.int .u16 x).wf = true) : 0 ≤ x ∧ x < 65536 := by
  simp [Lit.wf, IntKind.min, IntKind.max, IntKind.bits, IntKind.signed] at h; omega
@[simp] theorem take_map_len {α : Type} (f : α → AV) (l : List α) : (l.map f).take l.length = l.map f := List.take_of_length_le (by simp)
@[simp] theorem take_map_len2 {α β : Type} (f : α → AV) (g : β → AV) (l : List α) (m : List β) : (l.map f ++ m.map g).take (l.length + m.length) = l.map f ++ m.map g := List.take_of_length_le (by simp)
end Go.Proofs.YtjbbnollidcagaaDoor.Asl

