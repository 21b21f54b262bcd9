/- Chapter 2: FaultTells. -/
import Derived.Test.YtngeckkebejhiaaDoorFF
namespace Go.Proofs.YtngeckkebejhiaaDoor.Asl
open Go Go.RowKit
open Go.Proofs.YtngeckkebejhiaaDoor.Errs (EV)
set_option linter.unusedVariables false
set_option linter.unusedSimpArgs false
set_option maxRecDepth 100000
set_option maxHeartbeats 4000000
theorem CallD.nil2 {P : Program} {f : FuncId} {sz : Nat} {a r : AV} {g g' : Hp} (hc : CallD P f [a, .sl sz []] g r g') : CallD P f [a, .raw (.slice none 0 0)] g r g' := by
  intro C vs hC hvs
  cases hvs with
  | cons h1 h2 =>
    cases h2 with
    | cons h2 h3 =>
      rw [RV.raw_eq h2]
      exact hc C _ hC (.cons h1 (.cons .sl0 h3))
theorem few_len {m : Mk} (h : m.few = true) : m.ps.length ≤ 50 := by
  unfold Mk.few at h
  rw [Bool.and_eq_true, decide_eq_true_eq] at h
  exact h.2
theorem law_FaultTells (m : Mk) (code : Int) (hm : m.ok) (hco : -2147483648 ≤ code ∧ code ≤ 2147483647) : CallD Tryd.prog 7 [m.av, .raw (.int .i32 code)] noHeap (.raw (.bool true)) noHeap := by
  have hlv := c_Live2
  have hfw := c_mfew m hm
  obtain ⟨few, hfe⟩ : ∃ b, m.few = b := ⟨_, rfl⟩
  rw [hfe] at hfw
  cases few with
  | false =>
    obtain ⟨asks, lo, hi, c, ps⟩ := m
    refine calls_go (nt := 75) (rs := [.tmp 4]) Tryd.func7 rfl rfl rfl (by simp) (by intro id h; simp at h <;> omega) ?_; intro Q hQ hW
    repeat' (first
    | (with_reducible refine run_n ?_; with_reducible first | refine hK _ _ (by simp) ?_ | refine hK _ _ ?_; clear hK K)
    | (refine zzc ?_)
    | (with_reducible refine awp_regT (by kernel_rfl) ?_; intro K hK)
    | (with_reducible refine awp_regAM (id := 3) [(2, some 2), (6, some 6)] mixed (by kernel_rfl) (by kernel_rfl) ?_; intro K hK)
    | (with_reducible refine awp_regAM (id := 5) [(6, some 6), (7, some 7), (28, some 6), (34, some 6), (40, some 6), (46, some 6), (53, some 6)] mixed (by kernel_rfl) (by kernel_rfl) ?_; intro K hK)
    | (with_reducible refine awp_regAM (id := 7) [(71, some 6)] mixed (by kernel_rfl) (by kernel_rfl) ?_; intro K hK)
    | (with_reducible refine a_cond (ht := ?_) (hf := ?_) <;> intro hb <;> (try simp at hb) <;> (try contradiction) <;> (try subst hb) <;> (try omega))
    | (with_reducible first | refine a_move (hr:=?_) | refine a_assign (hr:=?_) | refine a_load (hr:=?_) | refine a_fieldAddr (hr:=?_) | refine a_bin (hr:=?_) | refine a_extract (hr:=?_) | refine a_pick (hr:=?_) | refine a_un (hr:=?_) | refine a_store (hr:=?_) | refine a_box (hr:=?_) | refine a_alloc (hr:=?_) | refine a_eqI (hr:=?_) | refine a_neI (hr:=?_) | refine a_eqB (hr:=?_) | refine a_neB (hr:=?_) | refine a_conv (hr:=?_) | refine a_bytesStr (hr:=?_) | refine a_strBytes (hr:=?_) | refine a_sameSl (hr:=?_) | refine a_eqS (hr:=?_) | refine a_neS (hr:=?_) | refine a_call0 (hcall := hlv) (hr:=?_) | refine a_callF (hcall := hfw) (hr:=?_) | refine a_gT (hr:=?_) | refine a_gF (hr:=?_) | refine a_gU (hr:=?_))
    | (with_reducible refine a_gB (hT := ?_) (hF := ?_) <;> intro hb <;> (try simp at hb) <;> (try contradiction) <;> (try subst hb) <;> (try omega))
    | fail)
    all_goals ((refine zzr hQ ?_))
    all_goals (exact Fin.drop (by simp; exact .r) (by simp))
  | true =>
    have hmk := c_make m hm
    have hsh := c_should m hm (by have := few_len hfe; omega)
    have hs := small hm hfe
    have ht := tells m
    generalize m.ev = e at hmk ht
    generalize m.re = x at hs ht hsh
    obtain ⟨hs1, hs2, hs3⟩ := hs
    have hci : inI (codeE e) := by rw [ht.code]; unfold inI; omega
    have a1 := c_FNeeded e
    have a2 := c_FCode e
    have a3 := c_FTrail e (by rw [ht.trail]; omega)
    have a4 := c_FText e (by rw [ht.trail]; omega) (by rw [ht.trail]; omega) hci
    have a5 := c_RText x (by omega) (by rw [← ht.code]; exact hci)
    have a6 := c_FIs e code
    have a7 := c_RSame x.ps x.ps (by omega) (by omega)
    rw [decide_eq_true rfl] at a7
    rw [ht.need] at a1
    rw [ht.code] at a2 a6
    rw [ht.trail] at a3
    rw [ht.text] at a4
    generalize (if x.is then tailT x.asks x.c (joinS x.ps ⟨#[]⟩) else ⟨#[]⟩) = tx at a4 a5
    have his := ht.is
    clear ht hci hs2 hs3
    obtain ⟨is, ps, c, asks, lo, hi⟩ := x
    simp only at a1 a2 a3 a4 a5 a6 a7 his hs1
    obtain ⟨b, hbe⟩ : ∃ b, decide (c = code) = b := ⟨_, rfl⟩
    have hss : decide (code = c) = b := by rw [← hbe]; exact decide_eq_decide.2 eq_comm
    rw [hbe] at a6
    obtain ⟨masks, mlo, mhi, mc, mps⟩ := m
    cases e with
    | none =>
      simp only [Option.isSome] at his
      subst his
      simp only [errO_none] at hmk a1 a2 a3 a4 a6
      cases ps with
      | nil =>
        have a8 := CallD.nil2 a7
        simp only [RE.av, plAV_nil] at hsh a5
        refine calls_go (nt := 75) (rs := [.tmp 4]) Tryd.func7 rfl rfl rfl (by simp) (by intro id h; simp at h <;> omega) ?_; intro Q hQ hW
        repeat' (first
    | (with_reducible refine run_n ?_; with_reducible first | refine hK _ _ (by simp) ?_ | refine hK _ _ ?_; clear hK K)
    | (refine zzc ?_)
    | (with_reducible refine awp_regT (by kernel_rfl) ?_; intro K hK)
    | (with_reducible refine awp_regCM (id := 3) [(2, some 2), (6, some 6)] [(2, some 2), (6, some 6), (17, none), (19, none)] mixed (by kernel_rfl) (by kernel_rfl) (by kernel_rfl) ?_; intro K hK)
    | (with_reducible refine awp_regCM (id := 5) [(6, some 6), (7, some 7), (28, some 6), (34, some 6), (40, some 6), (46, some 6), (53, some 6)] [(6, some 6), (7, some 7), (28, some 6), (32, none), (34, some 6), (40, some 6), (46, some 6), (51, none), (52, none), (53, some 6), (54, none), (59, none), (61, none)] mixed (by kernel_rfl) (by kernel_rfl) (by kernel_rfl) ?_; intro K hK)
    | (with_reducible refine awp_regCM (id := 7) [(71, some 6)] [(65, none), (66, none), (67, none), (69, none), (71, some 6)] mixed (by kernel_rfl) (by kernel_rfl) (by kernel_rfl) ?_; intro K hK)
    | (with_reducible refine a_cond (ht := ?_) (hf := ?_) <;> intro hb <;> (try simp at hb) <;> (try contradiction) <;> (try subst hb) <;> (try omega))
    | (with_reducible first | refine a_move (hr:=?_) | refine a_assign (hr:=?_) | refine a_load (hr:=?_) | refine a_fieldAddr (hr:=?_) | refine a_bin (hr:=?_) | refine a_extract (hr:=?_) | refine a_pick (hr:=?_) | refine a_un (hr:=?_) | refine a_store (hr:=?_) | refine a_box (hr:=?_) | refine a_alloc (hr:=?_) | refine a_eqI (hr:=?_) | refine a_neI (hr:=?_) | refine a_eqB (hr:=?_) | refine a_neB (hr:=?_) | refine a_conv (hr:=?_) | refine a_bytesStr (hr:=?_) | refine a_strBytes (hr:=?_) | refine a_sameSl (hr:=?_) | refine a_eqS (hr:=?_) | refine a_neS (hr:=?_) | refine a_call0 (hcall := hlv) (hr:=?_) | refine a_callF (hcall := hfw) (hr:=?_) | refine a_callF (hcall := hmk) (hr:=?_) | refine a_callF (hcall := hsh) (hr:=?_) | refine a_callF (hcall := a1) (hr:=?_) | refine a_callF (hcall := a2) (hr:=?_) | refine a_callF (hcall := a3) (hr:=?_) | refine a_callF (hcall := a4) (hr:=?_) | refine a_callF (hcall := a5) (hr:=?_) | refine a_callF (hcall := a6) (hr:=?_) | refine a_callF (hcall := a8) (hr:=?_) | refine a_gT (hr:=?_) | refine a_gF (hr:=?_) | refine a_gU (hr:=?_))
    | (with_reducible refine a_gB (hT := ?_) (hF := ?_) <;> intro hb <;> (try simp at hb) <;> (try contradiction) <;> (try subst hb) <;> (try omega))
    | fail)
        all_goals (try rw [hss, beq_self_eq_true])
        all_goals ((refine zzr hQ ?_))
        all_goals (exact Fin.drop (by simp; exact .r) (by simp))
      | cons p ps =>
        simp only [RE.av, plAV_cons] at hsh a5
        generalize p :: ps = l at hsh a3 a5 a7 hs1
        refine calls_go (nt := 75) (rs := [.tmp 4]) Tryd.func7 rfl rfl rfl (by simp) (by intro id h; simp at h <;> omega) ?_; intro Q hQ hW
        repeat' (first
    | (with_reducible refine run_n ?_; with_reducible first | refine hK _ _ (by simp) ?_ | refine hK _ _ ?_; clear hK K)
    | (refine zzc ?_)
    | (with_reducible refine awp_regT (by kernel_rfl) ?_; intro K hK)
    | (with_reducible refine awp_regCM (id := 3) [(2, some 2), (6, some 6)] [(2, some 2), (6, some 6), (17, none), (19, none)] mixed (by kernel_rfl) (by kernel_rfl) (by kernel_rfl) ?_; intro K hK)
    | (with_reducible refine awp_regCM (id := 5) [(6, some 6), (7, some 7), (28, some 6), (34, some 6), (40, some 6), (46, some 6), (53, some 6)] [(6, some 6), (7, some 7), (28, some 6), (32, none), (34, some 6), (40, some 6), (46, some 6), (51, none), (52, none), (53, some 6), (54, none), (59, none), (61, none)] mixed (by kernel_rfl) (by kernel_rfl) (by kernel_rfl) ?_; intro K hK)
    | (with_reducible refine awp_regCM (id := 7) [(71, some 6)] [(65, none), (66, none), (67, none), (69, none), (71, some 6)] mixed (by kernel_rfl) (by kernel_rfl) (by kernel_rfl) ?_; intro K hK)
    | (with_reducible refine a_cond (ht := ?_) (hf := ?_) <;> intro hb <;> (try simp at hb) <;> (try contradiction) <;> (try subst hb) <;> (try omega))
    | (with_reducible first | refine a_move (hr:=?_) | refine a_assign (hr:=?_) | refine a_load (hr:=?_) | refine a_fieldAddr (hr:=?_) | refine a_bin (hr:=?_) | refine a_extract (hr:=?_) | refine a_pick (hr:=?_) | refine a_un (hr:=?_) | refine a_store (hr:=?_) | refine a_box (hr:=?_) | refine a_alloc (hr:=?_) | refine a_eqI (hr:=?_) | refine a_neI (hr:=?_) | refine a_eqB (hr:=?_) | refine a_neB (hr:=?_) | refine a_conv (hr:=?_) | refine a_bytesStr (hr:=?_) | refine a_strBytes (hr:=?_) | refine a_sameSl (hr:=?_) | refine a_eqS (hr:=?_) | refine a_neS (hr:=?_) | refine a_call0 (hcall := hlv) (hr:=?_) | refine a_callF (hcall := hfw) (hr:=?_) | refine a_callF (hcall := hmk) (hr:=?_) | refine a_callF (hcall := hsh) (hr:=?_) | refine a_callF (hcall := a1) (hr:=?_) | refine a_callF (hcall := a2) (hr:=?_) | refine a_callF (hcall := a3) (hr:=?_) | refine a_callF (hcall := a4) (hr:=?_) | refine a_callF (hcall := a5) (hr:=?_) | refine a_callF (hcall := a6) (hr:=?_) | refine a_callF (hcall := a7) (hr:=?_) | refine a_gT (hr:=?_) | refine a_gF (hr:=?_) | refine a_gU (hr:=?_))
    | (with_reducible refine a_gB (hT := ?_) (hF := ?_) <;> intro hb <;> (try simp at hb) <;> (try contradiction) <;> (try subst hb) <;> (try omega))
    | fail)
        all_goals (try rw [hss, beq_self_eq_true])
        all_goals ((refine zzr hQ ?_))
        all_goals (exact Fin.drop (by simp; exact .r) (by simp))
    | some e =>
      simp only [Option.isSome] at his
      subst his
      simp only [errO_some] at hmk a1 a2 a3 a4 a6
      cases ps with
      | nil =>
        have a8 := CallD.nil2 a7
        simp only [RE.av, plAV_nil] at hsh a5
        refine calls_go (nt := 75) (rs := [.tmp 4]) Tryd.func7 rfl rfl rfl (by simp) (by intro id h; simp at h <;> omega) ?_; intro Q hQ hW
        repeat' (first
    | (with_reducible refine run_n ?_; with_reducible first | refine hK _ _ (by simp) ?_ | refine hK _ _ ?_; clear hK K)
    | (refine zzc ?_)
    | (with_reducible refine awp_regT (by kernel_rfl) ?_; intro K hK)
    | (with_reducible refine awp_regCM (id := 3) [(2, some 2), (6, some 6)] [(2, some 2), (6, some 6), (17, none), (19, none)] mixed (by kernel_rfl) (by kernel_rfl) (by kernel_rfl) ?_; intro K hK)
    | (with_reducible refine awp_regCM (id := 5) [(6, some 6), (7, some 7), (28, some 6), (34, some 6), (40, some 6), (46, some 6), (53, some 6)] [(6, some 6), (7, some 7), (28, some 6), (32, none), (34, some 6), (40, some 6), (46, some 6), (51, none), (52, none), (53, some 6), (54, none), (59, none), (61, none)] mixed (by kernel_rfl) (by kernel_rfl) (by kernel_rfl) ?_; intro K hK)
    | (with_reducible refine awp_regCM (id := 7) [(71, some 6)] [(65, none), (66, none), (67, none), (69, none), (71, some 6)] mixed (by kernel_rfl) (by kernel_rfl) (by kernel_rfl) ?_; intro K hK)
    | (with_reducible refine a_cond (ht := ?_) (hf := ?_) <;> intro hb <;> (try simp at hb) <;> (try contradiction) <;> (try subst hb) <;> (try omega))
    | (with_reducible first | refine a_move (hr:=?_) | refine a_assign (hr:=?_) | refine a_load (hr:=?_) | refine a_fieldAddr (hr:=?_) | refine a_bin (hr:=?_) | refine a_extract (hr:=?_) | refine a_pick (hr:=?_) | refine a_un (hr:=?_) | refine a_store (hr:=?_) | refine a_box (hr:=?_) | refine a_alloc (hr:=?_) | refine a_eqI (hr:=?_) | refine a_neI (hr:=?_) | refine a_eqB (hr:=?_) | refine a_neB (hr:=?_) | refine a_conv (hr:=?_) | refine a_bytesStr (hr:=?_) | refine a_strBytes (hr:=?_) | refine a_sameSl (hr:=?_) | refine a_eqS (hr:=?_) | refine a_neS (hr:=?_) | refine a_call0 (hcall := hlv) (hr:=?_) | refine a_callF (hcall := hfw) (hr:=?_) | refine a_callF (hcall := hmk) (hr:=?_) | refine a_callF (hcall := hsh) (hr:=?_) | refine a_callF (hcall := a1) (hr:=?_) | refine a_callF (hcall := a2) (hr:=?_) | refine a_callF (hcall := a3) (hr:=?_) | refine a_callF (hcall := a4) (hr:=?_) | refine a_callF (hcall := a5) (hr:=?_) | refine a_callF (hcall := a6) (hr:=?_) | refine a_callF (hcall := a8) (hr:=?_) | refine a_gT (hr:=?_) | refine a_gF (hr:=?_) | refine a_gU (hr:=?_))
    | (with_reducible refine a_gB (hT := ?_) (hF := ?_) <;> intro hb <;> (try simp at hb) <;> (try contradiction) <;> (try subst hb) <;> (try omega))
    | fail)
        all_goals (try rw [hss, beq_self_eq_true])
        all_goals ((refine zzr hQ ?_))
        all_goals (exact Fin.drop (by simp; exact .r) (by simp))
      | cons p ps =>
        simp only [RE.av, plAV_cons] at hsh a5
        generalize p :: ps = l at hsh a3 a5 a7 hs1
        refine calls_go (nt := 75) (rs := [.tmp 4]) Tryd.func7 rfl rfl rfl (by simp) (by intro id h; simp at h <;> omega) ?_; intro Q hQ hW
        repeat' (first
    | (with_reducible refine run_n ?_; with_reducible first | refine hK _ _ (by simp) ?_ | refine hK _ _ ?_; clear hK K)
    | (refine zzc ?_)
    | (with_reducible refine awp_regT (by kernel_rfl) ?_; intro K hK)
    | (with_reducible refine awp_regCM (id := 3) [(2, some 2), (6, some 6)] [(2, some 2), (6, some 6), (17, none), (19, none)] mixed (by kernel_rfl) (by kernel_rfl) (by kernel_rfl) ?_; intro K hK)
    | (with_reducible refine awp_regCM (id := 5) [(6, some 6), (7, some 7), (28, some 6), (34, some 6), (40, some 6), (46, some 6), (53, some 6)] [(6, some 6), (7, some 7), (28, some 6), (32, none), (34, some 6), (40, some 6), (46, some 6), (51, none), (52, none), (53, some 6), (54, none), (59, none), (61, none)] mixed (by kernel_rfl) (by kernel_rfl) (by kernel_rfl) ?_; intro K hK)
    | (with_reducible refine awp_regCM (id := 7) [(71, some 6)] [(65, none), (66, none), (67, none), (69, none), (71, some 6)] mixed (by kernel_rfl) (by kernel_rfl) (by kernel_rfl) ?_; intro K hK)
    | (with_reducible refine a_cond (ht := ?_) (hf := ?_) <;> intro hb <;> (try simp at hb) <;> (try contradiction) <;> (try subst hb) <;> (try omega))
    | (with_reducible first | refine a_move (hr:=?_) | refine a_assign (hr:=?_) | refine a_load (hr:=?_) | refine a_fieldAddr (hr:=?_) | refine a_bin (hr:=?_) | refine a_extract (hr:=?_) | refine a_pick (hr:=?_) | refine a_un (hr:=?_) | refine a_store (hr:=?_) | refine a_box (hr:=?_) | refine a_alloc (hr:=?_) | refine a_eqI (hr:=?_) | refine a_neI (hr:=?_) | refine a_eqB (hr:=?_) | refine a_neB (hr:=?_) | refine a_conv (hr:=?_) | refine a_bytesStr (hr:=?_) | refine a_strBytes (hr:=?_) | refine a_sameSl (hr:=?_) | refine a_eqS (hr:=?_) | refine a_neS (hr:=?_) | refine a_call0 (hcall := hlv) (hr:=?_) | refine a_callF (hcall := hfw) (hr:=?_) | refine a_callF (hcall := hmk) (hr:=?_) | refine a_callF (hcall := hsh) (hr:=?_) | refine a_callF (hcall := a1) (hr:=?_) | refine a_callF (hcall := a2) (hr:=?_) | refine a_callF (hcall := a3) (hr:=?_) | refine a_callF (hcall := a4) (hr:=?_) | refine a_callF (hcall := a5) (hr:=?_) | refine a_callF (hcall := a6) (hr:=?_) | refine a_callF (hcall := a7) (hr:=?_) | refine a_gT (hr:=?_) | refine a_gF (hr:=?_) | refine a_gU (hr:=?_))
    | (with_reducible refine a_gB (hT := ?_) (hF := ?_) <;> intro hb <;> (try simp at hb) <;> (try contradiction) <;> (try subst hb) <;> (try omega))
    | fail)
        all_goals (try rw [hss, beq_self_eq_true])
        all_goals ((refine zzr hQ ?_))
        all_goals (exact Fin.drop (by simp; exact .r) (by simp))
end Go.Proofs.YtngeckkebejhiaaDoor.Asl
