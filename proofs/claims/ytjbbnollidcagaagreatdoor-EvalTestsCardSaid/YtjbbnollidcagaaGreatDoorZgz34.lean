/- Part 34 of what the row leans on: abstract values and states, their rules, and the contracts of the functions. -/
import Derived.Test.YtjbbnollidcagaaGreatDoorZgz33
namespace Go.Proofs.YtjbbnollidcagaaGreatDoor.Asl
open Go Go.RowKit
open Go.Proofs.YtjbbnollidcagaaGreatDoor.Errs (EV)
set_option linter.unusedVariables false
set_option linter.unusedSimpArgs false
set_option maxRecDepth 100000
set_option maxHeartbeats 8000000
theorem c_rGet (l : List VarV) (m : ByteArray) (hl : l.length < 9223372036854775808) : CallD Tryz.prog 8 [.sl 4 (l.map varAV), .raw (.string m)] noHeap (gtAV (getV l m)) noHeap := by
  refine zzg (nt := 22) (rs := [.cell 4 31, .tmp 5]) Tryz.func8 ?_; intro Q hQ hW
  repeat' (first
 | (with_reducible refine run_n ?_; with_reducible first | refine hK _ _ (by simp) ?_ | refine hK _ _ ?_; clear hK K)
 | (refine zzc ?_)
 | (with_reducible refine awp_regT (by kernel_rfl) ?_; intro K hK)
 | (with_reducible refine a_cond (ht := ?_) (hf := ?_) <;> intro hb <;> (try simp at hb) <;> (try contradiction) <;> (try subst hb) <;> (try omega))
 | (with_reducible first | refine a_move (hr:=?_) | refine a_assign (hr:=?_) | refine a_load (hr:=?_) | refine a_fieldAddr (hr:=?_) | refine a_bin (hr:=?_) | refine a_lenS (hr:=?_) | refine a_lenR (hr:=?_) | refine a_store (hr:=?_) | refine a_alloc (hr:=?_) | refine a_eqB (hr:=?_) | refine a_idxArr (hr:=?_) | refine a_eqS (hr:=?_) | refine a_indexAddr (hr:=?_) | refine a_build (hr:=?_))
 | fail)
  refine awp_inv (α := Nat) (fun i => [(1, .raw (.string m)), (4, .ptr 4 0), (5, .raw (.bool false)), (8, .sl 4 (l.map varAV)), (9, .raw (.int .i64 l.length)), (10, .raw (.int .i64 i))]) (fun _ => hpL [(4, .box (valAV 0 0 ⟨#[]⟩))]) (fun i => i ≤ l.length ∧ getV (l.drop i) m = getV l m) (fun i => l.length - i) 0 ⟨by simp, by simp⟩ (zzw) ?_
  rintro i ⟨g1, g2⟩
  rw [← g2] at hQ
  rcases Nat.lt_or_ge i l.length with hlt | hge
  · have hx := List.getElem?_eq_getElem hlt
    rw [List.drop_eq_getElem_cons hlt] at g2 hQ
    generalize l[i] = y at hx g2 hQ
    obtain ⟨yn, yk, yv, ys⟩ := y
    simp only [getV] at g2 hQ
    by_cases h1 : yn = m
    · rw [if_pos h1] at hQ
      subst h1
      repeat' (first
 | (with_reducible refine run_n ?_; with_reducible first | refine hK _ _ (by simp) ?_ | refine hK _ _ ?_; clear hK K)
 | (refine zzc ?_)
 | (with_reducible refine awp_regT (by kernel_rfl) ?_; intro K hK)
 | (with_reducible refine a_cond (ht := ?_) (hf := ?_) <;> intro hb <;> (try simp at hb) <;> (try contradiction) <;> (try subst hb) <;> (try omega))
 | (with_reducible first | refine a_move (hr:=?_) | refine a_assign (hr:=?_) | refine a_load (hr:=?_) | refine a_fieldAddr (hr:=?_) | refine a_bin (hr:=?_) | refine a_lenS (hr:=?_) | refine a_lenR (hr:=?_) | refine a_store (hr:=?_) | refine a_alloc (hr:=?_) | refine a_eqB (hr:=?_) | refine a_idxArr (hr:=?_) | refine a_eqS (hr:=?_) | refine a_indexAddr (hr:=?_) | refine a_build (hr:=?_))
 | fail)
      (refine zzr hQ ?_)
      exact zzd
    · rw [if_neg h1] at g2 hQ
      repeat' (first
 | (with_reducible refine run_n ?_; with_reducible first | refine hK _ _ (by simp) ?_ | refine hK _ _ ?_; clear hK K)
 | (refine zzc ?_)
 | (with_reducible refine awp_regT (by kernel_rfl) ?_; intro K hK)
 | (with_reducible refine a_cond (ht := ?_) (hf := ?_) <;> intro hb <;> (try simp at hb) <;> (try contradiction) <;> (try subst hb) <;> (try omega))
 | (with_reducible first | refine a_move (hr:=?_) | refine a_assign (hr:=?_) | refine a_load (hr:=?_) | refine a_fieldAddr (hr:=?_) | refine a_bin (hr:=?_) | refine a_lenS (hr:=?_) | refine a_lenR (hr:=?_) | refine a_store (hr:=?_) | refine a_alloc (hr:=?_) | refine a_eqB (hr:=?_) | refine a_idxArr (hr:=?_) | refine a_eqS (hr:=?_) | refine a_indexAddr (hr:=?_) | refine a_build (hr:=?_))
 | fail)
      exact ⟨i + 1, by omega, ⟨by omega, g2⟩, zzw⟩
  · obtain rfl : i = l.length := by omega
    rw [List.drop_length] at hQ
    simp only [getV] at hQ
    repeat' (first
 | (with_reducible refine run_n ?_; with_reducible first | refine hK _ _ (by simp) ?_ | refine hK _ _ ?_; clear hK K)
 | (refine zzc ?_)
 | (with_reducible refine awp_regT (by kernel_rfl) ?_; intro K hK)
 | (with_reducible refine a_cond (ht := ?_) (hf := ?_) <;> intro hb <;> (try simp at hb) <;> (try contradiction) <;> (try subst hb) <;> (try omega))
 | (with_reducible first | refine a_move (hr:=?_) | refine a_assign (hr:=?_) | refine a_load (hr:=?_) | refine a_fieldAddr (hr:=?_) | refine a_bin (hr:=?_) | refine a_lenS (hr:=?_) | refine a_lenR (hr:=?_) | refine a_store (hr:=?_) | refine a_alloc (hr:=?_) | refine a_eqB (hr:=?_) | refine a_idxArr (hr:=?_) | refine a_eqS (hr:=?_) | refine a_indexAddr (hr:=?_) | refine a_build (hr:=?_))
 | fail)
    (refine zzr hQ ?_)
    exact zzd
def E6.re : E6 → RE
  | .ok => ⟨false, [], 0, false, ⟨#[]⟩, ⟨#[]⟩⟩
  | .code c => ⟨!decide (c = 0), [], c, false, ⟨#[]⟩, ⟨#[]⟩⟩
  | .unset n => ⟨true, [n], 61, false, ⟨#[]⟩, ⟨#[]⟩⟩
theorem re_code {c : Int} (h : c ≠ 0) : (E6.code c).re = ⟨true, [], c, false, ⟨#[]⟩, ⟨#[]⟩⟩ := by show (⟨!decide (c = 0), [], c, false, ⟨#[]⟩, ⟨#[]⟩⟩ : RE) = _; rw [decide_eq_false h]; rfl
@[simp] theorem re_ok : E6.ok.re = ⟨false, [], 0, false, ⟨#[]⟩, ⟨#[]⟩⟩ := rfl
@[simp] theorem re_unset (n : ByteArray) : (E6.unset n).re = ⟨true, [n], 61, false, ⟨#[]⟩, ⟨#[]⟩⟩ := rfl
theorem c_ROfN {c : Int} (h : c ≠ 0) : CallD Tryz.prog 18 [.raw (.int .i64 c)] noHeap (RE.av ⟨true, [], c, false, ⟨#[]⟩, ⟨#[]⟩⟩) noHeap := by
  have q := c_ROf c
  rw [decide_eq_false h] at q
  exact q
abbrev re0 : AV := .agg [.raw (.bool false), .raw (.slice none 0 0), .raw (.int .i64 0), .raw (.bool false), .agg [.raw (.string ⟨#[]⟩), .raw (.string ⟨#[]⟩)]]
theorem c_rOf6 (e : List TermV) (vars : List VarV) (fuel : Int) (hw : ∀ t ∈ e, wfT t ∧ okV (valT t)) (hl : e.length ≤ 140737488351232) (hv : ∀ x ∈ vars, okV (x.k, x.v, x.s)) (hvl : vars.length < 9223372036854775808) (hfu : inR fuel) : CallD Tryz.prog 17 [.sl 5 (e.map termAV), .sl 4 (vars.map varAV), .raw (.int .i64 fuel)] noHeap (.tup [Val.av (ofE6 e vars fuel).1, .raw (.int .i64 (ofE6 e vars fuel).2.1), RE.av (ofE6 e vars fuel).2.2.re]) noHeap := by
  have q0 := c_rCheck e (fun t ht => (hw t ht).1) hl
  unfold inR at hfu
  unfold ofE6
  by_cases h0 : (wholeE e).2 ≠ 0
  · rw [if_pos h0]
    generalize (wholeE e).2 = x at q0 h0 ⊢
    have q1 := c_ROfN h0
    unfold zV
    simp only [Val.av, re_code h0, RE.av, plAV_nil] at q1 ⊢
    refine zzg (nt := 135) (rs := [.cell 6 31, .tmp 7, .cell 8 42]) Tryz.func17 ?_; intro Q hQ hW
    repeat' (first
 | (with_reducible refine run_n ?_; with_reducible first | refine hK _ _ (by simp) ?_ | refine hK _ _ ?_; clear hK K)
 | (refine zzc ?_)
 | (with_reducible refine awp_regT (by kernel_rfl) ?_; intro K hK)
 | (with_reducible refine awp_regCM (id := 16) [(6, some 6), (8, some 8), (61, some 12)] [(6, some 6), (8, some 8), (61, some 12), (62, none), (63, none)] mixed (by kernel_rfl) (by kernel_rfl) (by kernel_rfl) ?_; intro K hK)
 | (with_reducible refine awp_regCM (id := 22) [(13, some 13), (81, some 12)] [(13, some 13), (81, some 12), (82, none), (86, none), (87, none), (91, none), (92, none)] mixed (by kernel_rfl) (by kernel_rfl) (by kernel_rfl) ?_; intro K hK)
 | (with_reducible refine awp_regCM (id := 25) [(13, some 13), (105, some 12)] [(13, some 13), (105, some 12), (106, none), (110, none), (111, none)] mixed (by kernel_rfl) (by kernel_rfl) (by kernel_rfl) ?_; intro K hK)
 | (with_reducible refine a_cond (ht := ?_) (hf := ?_) <;> intro hb <;> (try simp at hb) <;> (try contradiction) <;> (try subst hb) <;> (try omega))
 | (with_reducible first | refine a_move (hr:=?_) | refine a_assign (hr:=?_) | refine a_load (hr:=?_) | refine a_fieldAddr (hr:=?_) | refine a_bin (hr:=?_) | refine a_lenS (hr:=?_) | refine a_lenR (hr:=?_) | refine a_extract (hr:=?_) | refine a_pick (hr:=?_) | refine a_un (hr:=?_) | refine a_store (hr:=?_) | refine a_alloc (hr:=?_) | refine a_eqB (hr:=?_) | refine a_neB (hr:=?_) | refine a_idxArr (hr:=?_) | refine a_sliceArr (hr:=?_) | refine a_eqS (hr:=?_) | refine a_neS (hr:=?_) | refine a_sliceS (hr:=?_) | refine a_sliceR (hr:=?_) | refine a_indexAddr (hr:=?_) | refine a_build (hr:=?_) | refine a_buildSlice (hr:=?_) | refine a_maxC (hr:=?_) | refine a_append (hr:=?_) | refine a_append0 (hr:=?_) | refine a_appendX (hr:=?_) | refine a_callF (hcall := q0) (hr:=?_) | refine a_call0 (hcall := q1) (hr:=?_) | refine a_gT (hr:=?_) | refine a_gF (hr:=?_) | refine a_gU (hr:=?_))
 | (with_reducible refine a_gB (hT := ?_) (hF := ?_) <;> intro hb <;> (try simp at hb) <;> (try contradiction) <;> (try subst hb) <;> (try omega))
 | fail)
    all_goals ((refine zzr hQ ?_))
    all_goals (exact zzd)
  rw [if_neg h0]
  have h0 : (wholeE e).2 = 0 := by simpa using h0
  rw [h0] at q0
  obtain ⟨w1, w2, w3⟩ := wh_len h0
  obtain ⟨F, hF⟩ : ∃ F, max fuel 0 = F := ⟨_, rfl⟩
  have hF0 : 0 ≤ F ∧ F < 9223372036854775808 := by omega
  rw [hF]
  obtain ⟨RES, hR⟩ : ∃ RES, evL vars e F [] = RES := ⟨_, rfl⟩
  rw [hR]
  have start : EvI e vars RES 0 F [] [] := ⟨Nat.zero_le _, ⟨w1, w2⟩, rfl, hR, hF0, by simp, Nat.le_refl _⟩
  clear h0 hR
  refine zzg (nt := 135) (rs := [.cell 6 31, .tmp 7, .cell 8 42]) Tryz.func17 ?_; intro Q hQ hW
  repeat' (first
 | (with_reducible refine run_n ?_; with_reducible first | refine hK _ _ (by simp) ?_ | refine hK _ _ ?_; clear hK K)
 | (refine zzc ?_)
 | (with_reducible refine awp_regT (by kernel_rfl) ?_; intro K hK)
 | (with_reducible refine awp_regAM (id := 16) [(6, some 6), (8, some 8), (61, some 12)] mixed (by kernel_rfl) (by kernel_rfl) ?_; intro K hK)
 | (with_reducible refine awp_regAM (id := 22) [(13, some 13), (81, some 12)] mixed (by kernel_rfl) (by kernel_rfl) ?_; intro K hK)
 | (with_reducible refine awp_regAM (id := 25) [(13, some 13), (105, some 12)] mixed (by kernel_rfl) (by kernel_rfl) ?_; intro K hK)
 | (with_reducible refine a_cond (ht := ?_) (hf := ?_) <;> intro hb <;> (try simp at hb) <;> (try contradiction) <;> (try subst hb) <;> (try omega))
 | (with_reducible first | refine a_move (hr:=?_) | refine a_assign (hr:=?_) | refine a_load (hr:=?_) | refine a_fieldAddr (hr:=?_) | refine a_bin (hr:=?_) | refine a_lenS (hr:=?_) | refine a_lenR (hr:=?_) | refine a_extract (hr:=?_) | refine a_pick (hr:=?_) | refine a_un (hr:=?_) | refine a_store (hr:=?_) | refine a_alloc (hr:=?_) | refine a_eqB (hr:=?_) | refine a_neB (hr:=?_) | refine a_idxArr (hr:=?_) | refine a_sliceArr (hr:=?_) | refine a_eqS (hr:=?_) | refine a_neS (hr:=?_) | refine a_sliceS (hr:=?_) | refine a_sliceR (hr:=?_) | refine a_indexAddr (hr:=?_) | refine a_build (hr:=?_) | refine a_buildSlice (hr:=?_) | refine a_maxC (hr:=?_) | refine a_append (hr:=?_) | refine a_append0 (hr:=?_) | refine a_appendX (hr:=?_) | refine a_callF (hcall := q0) (hr:=?_) | refine a_gT (hr:=?_) | refine a_gF (hr:=?_) | refine a_gU (hr:=?_))
 | (with_reducible refine a_gB (hT := ?_) (hF := ?_) <;> intro hb <;> (try simp at hb) <;> (try contradiction) <;> (try subst hb) <;> (try omega))
 | fail)
  refine awp_inv (α := Nat × Int × List Val × List Pc) (fun s => [(1, .sl 4 (vars.map varAV)), (2, .raw (.int .i64 s.2.1)), (6, .ptr 6 0), (8, .ptr 8 0), (10, orow 60 3 (s.2.2.1.map Val.av)), (28, .sl 5 (e.map termAV)), (29, .raw (.int .i64 e.length)), (30, .raw (.int .i64 s.1))]) (fun s => ohp 60 3 (s.2.2.1.map Val.av) (hpL [(6, .box (Val.av zV)), (8, .box re0)])) (fun s => EvI e vars RES s.1 s.2.1 s.2.2.1 s.2.2.2) (fun s => e.length - s.1) (0, F, [], []) start (by rw [← hF]; unfold zV; exact zzw) ?_
  rintro ⟨i, f, st, ps⟩ g
  simp only at g ⊢
  have hf0 := g.f0
  have hle := g.le
  have hiN := g.iN
  unfold zV re0
  have r60 := c_ROfN (show (60 : Int) ≠ 0 by decide)
  have r61 := c_ROfN (show (61 : Int) ≠ 0 by decide)
  simp only [RE.av, plAV_nil] at r60 r61
  rcases Nat.lt_or_ge i e.length with hlt | hge
  · have hx := List.getElem?_eq_getElem hlt
    have hd := List.drop_eq_getElem_cons hlt
    obtain ⟨hwt, hov⟩ := hw e[i] (List.getElem_mem hlt)
    generalize e[i] = y at hx hd hwt hov
    obtain ⟨ho, hk⟩ := g.term hd
    have hop := ownE_op ho
    have heq := g.eq
    rw [hd, evL] at heq
    have qG := c_rGet vars y.n hvl
    by_cases hfz : f = 0
    · subst hfz
      rw [if_pos rfl] at heq
      rw [← heq] at hQ
      unfold zV at hQ
      simp only [re_code (show (60 : Int) ≠ 0 by decide), RE.av, plAV_nil] at hQ
      clear heq g hd start
      obtain ⟨op, k, v, s, n⟩ := y
      by_cases hst : st = []
      · subst hst
        repeat' (first
 | (with_reducible refine run_n ?_; with_reducible first | refine hK _ _ (by simp) ?_ | refine hK _ _ ?_; clear hK K)
 | (refine zzc ?_)
 | (with_reducible refine awp_regT (by kernel_rfl) ?_; intro K hK)
 | (with_reducible refine awp_regCM (id := 16) [(6, some 6), (8, some 8), (61, some 12)] [(6, some 6), (8, some 8), (61, some 12), (62, none), (63, none)] mixed (by kernel_rfl) (by kernel_rfl) (by kernel_rfl) ?_; intro K hK)
 | (with_reducible refine awp_regCM (id := 22) [(13, some 13), (81, some 12)] [(13, some 13), (81, some 12), (82, none), (86, none), (87, none), (91, none), (92, none)] mixed (by kernel_rfl) (by kernel_rfl) (by kernel_rfl) ?_; intro K hK)
 | (with_reducible refine awp_regCM (id := 25) [(13, some 13), (105, some 12)] [(13, some 13), (105, some 12), (106, none), (110, none), (111, none)] mixed (by kernel_rfl) (by kernel_rfl) (by kernel_rfl) ?_; intro K hK)
 | (with_reducible refine a_cond (ht := ?_) (hf := ?_) <;> intro hb <;> (try simp at hb) <;> (try contradiction) <;> (try subst hb) <;> (try omega))
 | (with_reducible first | refine a_move (hr:=?_) | refine a_assign (hr:=?_) | refine a_load (hr:=?_) | refine a_fieldAddr (hr:=?_) | refine a_bin (hr:=?_) | refine a_lenS (hr:=?_) | refine a_lenR (hr:=?_) | refine a_extract (hr:=?_) | refine a_pick (hr:=?_) | refine a_un (hr:=?_) | refine a_store (hr:=?_) | refine a_alloc (hr:=?_) | refine a_eqB (hr:=?_) | refine a_neB (hr:=?_) | refine a_idxArr (hr:=?_) | refine a_sliceArr (hr:=?_) | refine a_eqS (hr:=?_) | refine a_neS (hr:=?_) | refine a_sliceS (hr:=?_) | refine a_sliceR (hr:=?_) | refine a_indexAddr (hr:=?_) | refine a_build (hr:=?_) | refine a_buildSlice (hr:=?_) | refine a_maxC (hr:=?_) | refine a_append (hr:=?_) | refine a_append0 (hr:=?_) | refine a_appendX (hr:=?_) | refine a_call0 (hcall := r60) (hr:=?_) | refine a_gT (hr:=?_) | refine a_gF (hr:=?_) | refine a_gU (hr:=?_))
 | (with_reducible refine a_gB (hT := ?_) (hF := ?_) <;> intro hb <;> (try simp at hb) <;> (try contradiction) <;> (try subst hb) <;> (try omega))
 | fail)
        all_goals ((refine zzr hQ ?_))
        all_goals (exact zzd)
      · have hne : st.map Val.av ≠ [] := by simpa using hst
        rw [orow_ne hne, ohp_ne hne]
        repeat' (first
 | (with_reducible refine run_n ?_; with_reducible first | refine hK _ _ (by simp) ?_ | refine hK _ _ ?_; clear hK K)
 | (refine zzc ?_)
 | (with_reducible refine awp_regT (by kernel_rfl) ?_; intro K hK)
 | (with_reducible refine awp_regCM (id := 16) [(6, some 6), (8, some 8), (61, some 12)] [(6, some 6), (8, some 8), (61, some 12), (62, none), (63, none)] mixed (by kernel_rfl) (by kernel_rfl) (by kernel_rfl) ?_; intro K hK)
 | (with_reducible refine awp_regCM (id := 22) [(13, some 13), (81, some 12)] [(13, some 13), (81, some 12), (82, none), (86, none), (87, none), (91, none), (92, none)] mixed (by kernel_rfl) (by kernel_rfl) (by kernel_rfl) ?_; intro K hK)
 | (with_reducible refine awp_regCM (id := 25) [(13, some 13), (105, some 12)] [(13, some 13), (105, some 12), (106, none), (110, none), (111, none)] mixed (by kernel_rfl) (by kernel_rfl) (by kernel_rfl) ?_; intro K hK)
 | (with_reducible refine a_cond (ht := ?_) (hf := ?_) <;> intro hb <;> (try simp at hb) <;> (try contradiction) <;> (try subst hb) <;> (try omega))
 | (with_reducible first | refine a_move (hr:=?_) | refine a_assign (hr:=?_) | refine a_load (hr:=?_) | refine a_fieldAddr (hr:=?_) | refine a_bin (hr:=?_) | refine a_lenS (hr:=?_) | refine a_lenR (hr:=?_) | refine a_extract (hr:=?_) | refine a_pick (hr:=?_) | refine a_un (hr:=?_) | refine a_store (hr:=?_) | refine a_alloc (hr:=?_) | refine a_eqB (hr:=?_) | refine a_neB (hr:=?_) | refine a_idxArr (hr:=?_) | refine a_sliceArr (hr:=?_) | refine a_eqS (hr:=?_) | refine a_neS (hr:=?_) | refine a_sliceS (hr:=?_) | refine a_sliceR (hr:=?_) | refine a_indexAddr (hr:=?_) | refine a_build (hr:=?_) | refine a_buildSlice (hr:=?_) | refine a_maxC (hr:=?_) | refine a_append (hr:=?_) | refine a_append0 (hr:=?_) | refine a_appendX (hr:=?_) | refine a_call0 (hcall := r60) (hr:=?_) | refine a_gT (hr:=?_) | refine a_gF (hr:=?_) | refine a_gU (hr:=?_))
 | (with_reducible refine a_gB (hT := ?_) (hF := ?_) <;> intro hb <;> (try simp at hb) <;> (try contradiction) <;> (try subst hb) <;> (try omega))
 | fail)
        all_goals ((refine zzr hQ ?_))
        all_goals (exact zzd)
    rw [if_neg hfz] at heq
    have gn := g.next hd hfz
    by_cases o0 : y.op = 0
    · have hs : stepE vars y st = (valT y, .ok, st) := by unfold stepE; rw [if_pos o0]
      rw [hs] at gn heq
      obtain ⟨ps2, gn2⟩ := gn rfl hv hov
      clear gn
      simp only at gn2
      clear heq g hd start hs hk
      obtain ⟨op, k, v, s, n⟩ := y
      simp only at o0 hop qG
      generalize getV vars n = gg at qG
      obtain ⟨⟨gk, gv, gs⟩, gb⟩ := gg
      subst o0
      unfold valT at gn2
      repeat' (first
 | (with_reducible refine run_n ?_; with_reducible first | refine hK _ _ (by simp) ?_ | refine hK _ _ ?_; clear hK K)
 | (refine zzc ?_)
 | (with_reducible refine awp_regT (by kernel_rfl) ?_; intro K hK)
 | (with_reducible refine awp_regCM (id := 16) [(6, some 6), (8, some 8), (61, some 12)] [(6, some 6), (8, some 8), (61, some 12), (62, none), (63, none)] mixed (by kernel_rfl) (by kernel_rfl) (by kernel_rfl) ?_; intro K hK)
 | (with_reducible refine awp_regCM (id := 22) [(13, some 13), (81, some 12)] [(13, some 13), (81, some 12), (82, none), (86, none), (87, none), (91, none), (92, none)] mixed (by kernel_rfl) (by kernel_rfl) (by kernel_rfl) ?_; intro K hK)
 | (with_reducible refine awp_regCM (id := 25) [(13, some 13), (105, some 12)] [(13, some 13), (105, some 12), (106, none), (110, none), (111, none)] mixed (by kernel_rfl) (by kernel_rfl) (by kernel_rfl) ?_; intro K hK)
 | (with_reducible refine a_cond (ht := ?_) (hf := ?_) <;> intro hb <;> (try simp at hb) <;> (try contradiction) <;> (try subst hb) <;> (try omega))
 | (with_reducible first | refine a_move (hr:=?_) | refine a_assign (hr:=?_) | refine a_load (hr:=?_) | refine a_fieldAddr (hr:=?_) | refine a_bin (hr:=?_) | refine a_lenS (hr:=?_) | refine a_lenR (hr:=?_) | refine a_extract (hr:=?_) | refine a_pick (hr:=?_) | refine a_un (hr:=?_) | refine a_store (hr:=?_) | refine a_alloc (hr:=?_) | refine a_eqB (hr:=?_) | refine a_neB (hr:=?_) | refine a_idxArr (hr:=?_) | refine a_sliceArr (hr:=?_) | refine a_eqS (hr:=?_) | refine a_neS (hr:=?_) | refine a_sliceS (hr:=?_) | refine a_sliceR (hr:=?_) | refine a_indexAddr (hr:=?_) | refine a_build (hr:=?_) | refine a_buildSlice (hr:=?_) | refine a_maxC (hr:=?_) | refine a_append (hr:=?_) | refine a_append0 (hr:=?_) | refine a_appendX (hr:=?_) | refine a_callF (hcall := qG) (hr:=?_) | refine a_gT (hr:=?_) | refine a_gF (hr:=?_) | refine a_gU (hr:=?_))
 | (with_reducible refine a_gB (hT := ?_) (hF := ?_) <;> intro hb <;> (try simp at hb) <;> (try contradiction) <;> (try subst hb) <;> (try omega))
 | fail)
      exact ⟨(i + 1, f - 1, st ++ [(k, v, s)], ps2), by simp only; omega, gn2, by (try rw [List.map_append, List.map_take]); exact zzx 60 128⟩
    by_cases o3 : y.op < 3
    · have hs : stepE vars y st = ((namE vars y).1, (namE vars y).2, st) := by unfold stepE; rw [if_neg o0, if_pos o3]
      rw [hs] at gn heq
      simp only at gn heq
      unfold namE at gn heq
      generalize getV vars y.n = gg at qG gn heq
      obtain ⟨⟨gk, gv, gs⟩, gb⟩ := gg
      rcases (show y.op = 1 ∨ y.op = 2 by omega) with o1 | o2
      · cases gb with
        | false =>
          simp only [o1, true_and, if_true] at gn heq
          rw [if_pos (by rfl)] at heq
          rw [← heq] at hQ
          unfold zV at hQ
          simp only [re_unset] at hQ
          have qW := c_RWrap y.n ⟨true, [], 61, false, ⟨#[]⟩, ⟨#[]⟩⟩ (by simp)
          simp only [if_true, RE.av, plAV_nil, plAV_cons] at qW hQ
          clear heq g hd start hs hk gn
          obtain ⟨op, k, v, s, n⟩ := y
          simp only at o1 hop qG qW hQ
          subst o1
          by_cases hst : st = []
          · subst hst
            repeat' (first
 | (with_reducible refine run_n ?_; with_reducible first | refine hK _ _ (by simp) ?_ | refine hK _ _ ?_; clear hK K)
 | (refine zzc ?_)
 | (with_reducible refine awp_regT (by kernel_rfl) ?_; intro K hK)
 | (with_reducible refine awp_regCM (id := 16) [(6, some 6), (8, some 8), (61, some 12)] [(6, some 6), (8, some 8), (61, some 12), (62, none), (63, none)] mixed (by kernel_rfl) (by kernel_rfl) (by kernel_rfl) ?_; intro K hK)
 | (with_reducible refine awp_regCM (id := 22) [(13, some 13), (81, some 12)] [(13, some 13), (81, some 12), (82, none), (86, none), (87, none), (91, none), (92, none)] mixed (by kernel_rfl) (by kernel_rfl) (by kernel_rfl) ?_; intro K hK)
 | (with_reducible refine awp_regCM (id := 25) [(13, some 13), (105, some 12)] [(13, some 13), (105, some 12), (106, none), (110, none), (111, none)] mixed (by kernel_rfl) (by kernel_rfl) (by kernel_rfl) ?_; intro K hK)
 | (with_reducible refine a_cond (ht := ?_) (hf := ?_) <;> intro hb <;> (try simp at hb) <;> (try contradiction) <;> (try subst hb) <;> (try omega))
 | (with_reducible first | refine a_move (hr:=?_) | refine a_assign (hr:=?_) | refine a_load (hr:=?_) | refine a_fieldAddr (hr:=?_) | refine a_bin (hr:=?_) | refine a_lenS (hr:=?_) | refine a_lenR (hr:=?_) | refine a_extract (hr:=?_) | refine a_pick (hr:=?_) | refine a_un (hr:=?_) | refine a_store (hr:=?_) | refine a_alloc (hr:=?_) | refine a_eqB (hr:=?_) | refine a_neB (hr:=?_) | refine a_idxArr (hr:=?_) | refine a_sliceArr (hr:=?_) | refine a_eqS (hr:=?_) | refine a_neS (hr:=?_) | refine a_sliceS (hr:=?_) | refine a_sliceR (hr:=?_) | refine a_indexAddr (hr:=?_) | refine a_build (hr:=?_) | refine a_buildSlice (hr:=?_) | refine a_maxC (hr:=?_) | refine a_append (hr:=?_) | refine a_append0 (hr:=?_) | refine a_appendX (hr:=?_) | refine a_callF (hcall := qG) (hr:=?_) | refine a_call0 (hcall := r61) (hr:=?_) | refine a_callF (hcall := qW) (hr:=?_) | refine a_gT (hr:=?_) | refine a_gF (hr:=?_) | refine a_gU (hr:=?_))
 | (with_reducible refine a_gB (hT := ?_) (hF := ?_) <;> intro hb <;> (try simp at hb) <;> (try contradiction) <;> (try subst hb) <;> (try omega))
 | fail)
            all_goals ((refine zzr hQ ?_))
            all_goals (exact zzd)
          · have hne : st.map Val.av ≠ [] := by simpa using hst
            rw [orow_ne hne, ohp_ne hne]
            repeat' (first
 | (with_reducible refine run_n ?_; with_reducible first | refine hK _ _ (by simp) ?_ | refine hK _ _ ?_; clear hK K)
 | (refine zzc ?_)
 | (with_reducible refine awp_regT (by kernel_rfl) ?_; intro K hK)
 | (with_reducible refine awp_regCM (id := 16) [(6, some 6), (8, some 8), (61, some 12)] [(6, some 6), (8, some 8), (61, some 12), (62, none), (63, none)] mixed (by kernel_rfl) (by kernel_rfl) (by kernel_rfl) ?_; intro K hK)
 | (with_reducible refine awp_regCM (id := 22) [(13, some 13), (81, some 12)] [(13, some 13), (81, some 12), (82, none), (86, none), (87, none), (91, none), (92, none)] mixed (by kernel_rfl) (by kernel_rfl) (by kernel_rfl) ?_; intro K hK)
 | (with_reducible refine awp_regCM (id := 25) [(13, some 13), (105, some 12)] [(13, some 13), (105, some 12), (106, none), (110, none), (111, none)] mixed (by kernel_rfl) (by kernel_rfl) (by kernel_rfl) ?_; intro K hK)
 | (with_reducible refine a_cond (ht := ?_) (hf := ?_) <;> intro hb <;> (try simp at hb) <;> (try contradiction) <;> (try subst hb) <;> (try omega))
 | (with_reducible first | refine a_move (hr:=?_) | refine a_assign (hr:=?_) | refine a_load (hr:=?_) | refine a_fieldAddr (hr:=?_) | refine a_bin (hr:=?_) | refine a_lenS (hr:=?_) | refine a_lenR (hr:=?_) | refine a_extract (hr:=?_) | refine a_pick (hr:=?_) | refine a_un (hr:=?_) | refine a_store (hr:=?_) | refine a_alloc (hr:=?_) | refine a_eqB (hr:=?_) | refine a_neB (hr:=?_) | refine a_idxArr (hr:=?_) | refine a_sliceArr (hr:=?_) | refine a_eqS (hr:=?_) | refine a_neS (hr:=?_) | refine a_sliceS (hr:=?_) | refine a_sliceR (hr:=?_) | refine a_indexAddr (hr:=?_) | refine a_build (hr:=?_) | refine a_buildSlice (hr:=?_) | refine a_maxC (hr:=?_) | refine a_append (hr:=?_) | refine a_append0 (hr:=?_) | refine a_appendX (hr:=?_) | refine a_callF (hcall := qG) (hr:=?_) | refine a_call0 (hcall := r61) (hr:=?_) | refine a_callF (hcall := qW) (hr:=?_) | refine a_gT (hr:=?_) | refine a_gF (hr:=?_) | refine a_gU (hr:=?_))
 | (with_reducible refine a_gB (hT := ?_) (hF := ?_) <;> intro hb <;> (try simp at hb) <;> (try contradiction) <;> (try subst hb) <;> (try omega))
 | fail)
            all_goals ((refine zzr hQ ?_))
            all_goals (exact zzd)
        | true =>
          simp only [o1, true_and, Bool.true_eq_false, if_false, show ¬ (1 : Int) = 2 by decide] at gn heq
          obtain ⟨ps2, gn2⟩ := gn rfl hv hov
          clear gn heq g hd start hs hk
          obtain ⟨op, k, v, s, n⟩ := y
          simp only at o1 hop qG
          subst o1
          repeat' (first
 | (with_reducible refine run_n ?_; with_reducible first | refine hK _ _ (by simp) ?_ | refine hK _ _ ?_; clear hK K)
 | (refine zzc ?_)
 | (with_reducible refine awp_regT (by kernel_rfl) ?_; intro K hK)
 | (with_reducible refine awp_regCM (id := 16) [(6, some 6), (8, some 8), (61, some 12)] [(6, some 6), (8, some 8), (61, some 12), (62, none), (63, none)] mixed (by kernel_rfl) (by kernel_rfl) (by kernel_rfl) ?_; intro K hK)
 | (with_reducible refine awp_regCM (id := 22) [(13, some 13), (81, some 12)] [(13, some 13), (81, some 12), (82, none), (86, none), (87, none), (91, none), (92, none)] mixed (by kernel_rfl) (by kernel_rfl) (by kernel_rfl) ?_; intro K hK)
 | (with_reducible refine awp_regCM (id := 25) [(13, some 13), (105, some 12)] [(13, some 13), (105, some 12), (106, none), (110, none), (111, none)] mixed (by kernel_rfl) (by kernel_rfl) (by kernel_rfl) ?_; intro K hK)
 | (with_reducible refine a_cond (ht := ?_) (hf := ?_) <;> intro hb <;> (try simp at hb) <;> (try contradiction) <;> (try subst hb) <;> (try omega))
 | (with_reducible first | refine a_move (hr:=?_) | refine a_assign (hr:=?_) | refine a_load (hr:=?_) | refine a_fieldAddr (hr:=?_) | refine a_bin (hr:=?_) | refine a_lenS (hr:=?_) | refine a_lenR (hr:=?_) | refine a_extract (hr:=?_) | refine a_pick (hr:=?_) | refine a_un (hr:=?_) | refine a_store (hr:=?_) | refine a_alloc (hr:=?_) | refine a_eqB (hr:=?_) | refine a_neB (hr:=?_) | refine a_idxArr (hr:=?_) | refine a_sliceArr (hr:=?_) | refine a_eqS (hr:=?_) | refine a_neS (hr:=?_) | refine a_sliceS (hr:=?_) | refine a_sliceR (hr:=?_) | refine a_indexAddr (hr:=?_) | refine a_build (hr:=?_) | refine a_buildSlice (hr:=?_) | refine a_maxC (hr:=?_) | refine a_append (hr:=?_) | refine a_append0 (hr:=?_) | refine a_appendX (hr:=?_) | refine a_callF (hcall := qG) (hr:=?_) | refine a_gT (hr:=?_) | refine a_gF (hr:=?_) | refine a_gU (hr:=?_))
 | (with_reducible refine a_gB (hT := ?_) (hF := ?_) <;> intro hb <;> (try simp at hb) <;> (try contradiction) <;> (try subst hb) <;> (try omega))
 | fail)
          exact ⟨(i + 1, f - 1, st ++ [(gk, gv, gs)], ps2), by simp only; omega, gn2, by (try rw [List.map_append, List.map_take]); exact zzx 60 128⟩
      · simp only [o2, show ¬ (2 : Int) = 1 by decide, false_and, if_false, if_true] at gn heq
        obtain ⟨ps2, gn2⟩ := gn rfl hv hov
        have qT := c_truth gb
        clear gn heq g hd start hs hk
        obtain ⟨op, k, v, s, n⟩ := y
        simp only at o2 hop qG
        subst o2
        generalize bV gb = bb at qT gn2
        obtain ⟨bk, bn, bs⟩ := bb
        repeat' (first
 | (with_reducible refine run_n ?_; with_reducible first | refine hK _ _ (by simp) ?_ | refine hK _ _ ?_; clear hK K)
 | (refine zzc ?_)
 | (with_reducible refine awp_regT (by kernel_rfl) ?_; intro K hK)
 | (with_reducible refine awp_regCM (id := 16) [(6, some 6), (8, some 8), (61, some 12)] [(6, some 6), (8, some 8), (61, some 12), (62, none), (63, none)] mixed (by kernel_rfl) (by kernel_rfl) (by kernel_rfl) ?_; intro K hK)
 | (with_reducible refine awp_regCM (id := 22) [(13, some 13), (81, some 12)] [(13, some 13), (81, some 12), (82, none), (86, none), (87, none), (91, none), (92, none)] mixed (by kernel_rfl) (by kernel_rfl) (by kernel_rfl) ?_; intro K hK)
 | (with_reducible refine awp_regCM (id := 25) [(13, some 13), (105, some 12)] [(13, some 13), (105, some 12), (106, none), (110, none), (111, none)] mixed (by kernel_rfl) (by kernel_rfl) (by kernel_rfl) ?_; intro K hK)
 | (with_reducible refine a_cond (ht := ?_) (hf := ?_) <;> intro hb <;> (try simp at hb) <;> (try contradiction) <;> (try subst hb) <;> (try omega))
 | (with_reducible first | refine a_move (hr:=?_) | refine a_assign (hr:=?_) | refine a_load (hr:=?_) | refine a_fieldAddr (hr:=?_) | refine a_bin (hr:=?_) | refine a_lenS (hr:=?_) | refine a_lenR (hr:=?_) | refine a_extract (hr:=?_) | refine a_pick (hr:=?_) | refine a_un (hr:=?_) | refine a_store (hr:=?_) | refine a_alloc (hr:=?_) | refine a_eqB (hr:=?_) | refine a_neB (hr:=?_) | refine a_idxArr (hr:=?_) | refine a_sliceArr (hr:=?_) | refine a_eqS (hr:=?_) | refine a_neS (hr:=?_) | refine a_sliceS (hr:=?_) | refine a_sliceR (hr:=?_) | refine a_indexAddr (hr:=?_) | refine a_build (hr:=?_) | refine a_buildSlice (hr:=?_) | refine a_maxC (hr:=?_) | refine a_append (hr:=?_) | refine a_append0 (hr:=?_) | refine a_appendX (hr:=?_) | refine a_callF (hcall := qG) (hr:=?_) | refine a_call0 (hcall := qT) (hr:=?_) | refine a_gT (hr:=?_) | refine a_gF (hr:=?_) | refine a_gU (hr:=?_))
 | (with_reducible refine a_gB (hT := ?_) (hF := ?_) <;> intro hb <;> (try simp at hb) <;> (try contradiction) <;> (try subst hb) <;> (try omega))
 | fail)
        exact ⟨(i + 1, f - 1, st ++ [(bk, bn, bs)], ps2), by simp only; omega, gn2, by (try rw [List.map_append, List.map_take]); exact zzx 60 128⟩
    have hst : st ≠ [] := by
      intro h
      subst h
      unfold takesE at hk
      rw [if_neg o3] at hk
      split at hk <;> simp at hk
    have hsl : 0 < st.length := List.length_pos_iff.2 hst
    have hne : st.map Val.av ≠ [] := by simpa using hst
    have hx2 : st[st.length - 1]? = some st[st.length - 1] := List.getElem?_eq_getElem (by omega)
    have hok2 := g.ok st[st.length - 1] (List.getElem_mem (by omega))
    generalize st[st.length - 1] = z at hx2 hok2
    rw [orow_ne hne, ohp_ne hne]
    by_cases o6 : y.op < 6
    · have hs : stepE vars y st = ((oneE y.op z).1, .code (oneE y.op z).2, st.take (st.length - 1)) := by unfold stepE; rw [if_neg o0, if_neg o3, if_pos o6, hx2]; rfl
      have q1 := c_rOne y.op z hok2.1 (by have := hok2.2; omega)
      rw [hs] at gn heq
      simp only at gn heq
      generalize oneE y.op z = r at q1 gn heq
      obtain ⟨⟨rk, rn, rs⟩, c⟩ := r
      simp only at q1 gn heq
      by_cases hc : c = 0
      · subst hc
        obtain ⟨ps2, gn2⟩ := gn rfl hv hov
        clear gn
        clear heq g hd start hs hk
        obtain ⟨op, k, v, s, n⟩ := y
        obtain ⟨zk, zn, zs⟩ := z
        simp only at o0 o3 o6 hop q1
        simp only at qG
        generalize getV vars n = gg at qG
        obtain ⟨⟨gk, gv, gs⟩, gb⟩ := gg
        repeat' (first
 | (with_reducible refine run_n ?_; with_reducible first | refine hK _ _ (by simp) ?_ | refine hK _ _ ?_; clear hK K)
 | (refine zzc ?_)
 | (with_reducible refine awp_regT (by kernel_rfl) ?_; intro K hK)
 | (with_reducible refine awp_regCM (id := 16) [(6, some 6), (8, some 8), (61, some 12)] [(6, some 6), (8, some 8), (61, some 12), (62, none), (63, none)] mixed (by kernel_rfl) (by kernel_rfl) (by kernel_rfl) ?_; intro K hK)
 | (with_reducible refine awp_regCM (id := 22) [(13, some 13), (81, some 12)] [(13, some 13), (81, some 12), (82, none), (87, none), (92, none)] mixed (by kernel_rfl) (by kernel_rfl) (by kernel_rfl) ?_; intro K hK)
 | (with_reducible refine awp_regCM (id := 25) [(13, some 13), (105, some 12)] [(13, some 13), (105, some 12), (106, none), (111, none)] mixed (by kernel_rfl) (by kernel_rfl) (by kernel_rfl) ?_; intro K hK)
 | (with_reducible refine a_cond (ht := ?_) (hf := ?_) <;> intro hb <;> (try simp at hb) <;> (try contradiction) <;> (try subst hb) <;> (try omega))
 | (with_reducible first | refine a_move (hr:=?_) | refine a_assign (hr:=?_) | refine a_load (hr:=?_) | refine a_fieldAddr (hr:=?_) | refine a_bin (hr:=?_) | refine a_lenS (hr:=?_) | refine a_lenR (hr:=?_) | refine a_extract (hr:=?_) | refine a_pick (hr:=?_) | refine a_un (hr:=?_) | refine a_store (hr:=?_) | refine a_alloc (hr:=?_) | refine a_eqB (hr:=?_) | refine a_neB (hr:=?_) | refine a_idxArr (hr:=?_) | refine a_sliceArr (hr:=?_) | refine a_eqS (hr:=?_) | refine a_neS (hr:=?_) | refine a_sliceS (hr:=?_) | refine a_sliceR (hr:=?_) | refine a_indexAddr (hr:=?_) | refine a_build (hr:=?_) | refine a_buildSlice (hr:=?_) | refine a_maxC (hr:=?_) | refine a_append (hr:=?_) | refine a_append0 (hr:=?_) | refine a_appendX (hr:=?_) | refine a_callF (hcall := qG) (hr:=?_) | refine a_call0 (hcall := q1) (hr:=?_) | refine a_gT (hr:=?_) | refine a_gF (hr:=?_) | refine a_gU (hr:=?_))
 | (with_reducible refine a_gB (hT := ?_) (hF := ?_) <;> intro hb <;> (try simp at hb) <;> (try contradiction) <;> (try subst hb) <;> (try omega))
 | fail)
        exact ⟨(i + 1, f - 1, st.take (st.length - 1) ++ [(rk, rn, rs)], ps2), by simp only; omega, gn2, by rw [List.map_append, List.map_take]; exact zzx 60 128⟩
      · rw [if_pos (by unfold E6.bad; rw [E6.ev_code hc]; rfl)] at heq
        rw [← heq] at hQ
        have q2 := c_ROfN hc
        simp only [re_code hc, RE.av, plAV_nil] at q2 hQ
        unfold zV at hQ
        clear heq g hd start hs hk gn
        obtain ⟨op, k, v, s, n⟩ := y
        obtain ⟨zk, zn, zs⟩ := z
        simp only at o0 o3 o6 hop q1
        simp only at qG
        generalize getV vars n = gg at qG
        obtain ⟨⟨gk, gv, gs⟩, gb⟩ := gg
        repeat' (first
 | (with_reducible refine run_n ?_; with_reducible first | refine hK _ _ (by simp) ?_ | refine hK _ _ ?_; clear hK K)
 | (refine zzc ?_)
 | (with_reducible refine awp_regT (by kernel_rfl) ?_; intro K hK)
 | (with_reducible refine awp_regCM (id := 16) [(6, some 6), (8, some 8), (61, some 12)] [(6, some 6), (8, some 8), (61, some 12), (62, none), (63, none)] mixed (by kernel_rfl) (by kernel_rfl) (by kernel_rfl) ?_; intro K hK)
 | (with_reducible refine awp_regCM (id := 22) [(13, some 13), (81, some 12)] [(13, some 13), (81, some 12), (82, none), (87, none), (92, none)] mixed (by kernel_rfl) (by kernel_rfl) (by kernel_rfl) ?_; intro K hK)
 | (with_reducible refine awp_regCM (id := 25) [(13, some 13), (105, some 12)] [(13, some 13), (105, some 12), (106, none), (111, none)] mixed (by kernel_rfl) (by kernel_rfl) (by kernel_rfl) ?_; intro K hK)
 | (with_reducible refine a_cond (ht := ?_) (hf := ?_) <;> intro hb <;> (try simp at hb) <;> (try contradiction) <;> (try subst hb) <;> (try omega))
 | (with_reducible first | refine a_move (hr:=?_) | refine a_assign (hr:=?_) | refine a_load (hr:=?_) | refine a_fieldAddr (hr:=?_) | refine a_bin (hr:=?_) | refine a_lenS (hr:=?_) | refine a_lenR (hr:=?_) | refine a_extract (hr:=?_) | refine a_pick (hr:=?_) | refine a_un (hr:=?_) | refine a_store (hr:=?_) | refine a_alloc (hr:=?_) | refine a_eqB (hr:=?_) | refine a_neB (hr:=?_) | refine a_idxArr (hr:=?_) | refine a_sliceArr (hr:=?_) | refine a_eqS (hr:=?_) | refine a_neS (hr:=?_) | refine a_sliceS (hr:=?_) | refine a_sliceR (hr:=?_) | refine a_indexAddr (hr:=?_) | refine a_build (hr:=?_) | refine a_buildSlice (hr:=?_) | refine a_maxC (hr:=?_) | refine a_append (hr:=?_) | refine a_append0 (hr:=?_) | refine a_appendX (hr:=?_) | refine a_callF (hcall := qG) (hr:=?_) | refine a_call0 (hcall := q1) (hr:=?_) | refine a_call0 (hcall := q2) (hr:=?_) | refine a_gT (hr:=?_) | refine a_gF (hr:=?_) | refine a_gU (hr:=?_))
 | (with_reducible refine a_gB (hT := ?_) (hF := ?_) <;> intro hb <;> (try simp at hb) <;> (try contradiction) <;> (try subst hb) <;> (try omega))
 | fail)
        all_goals ((refine zzr hQ ?_))
        all_goals (exact zzd)
    have hsl2 : 2 ≤ st.length := by
      unfold takesE at hk
      rw [if_neg o3, if_neg o6] at hk
      exact hk
    have hx3 : st[st.length - 2]? = some st[st.length - 2] := List.getElem?_eq_getElem (by omega)
    have hok3 := g.ok st[st.length - 2] (List.getElem_mem (by omega))
    generalize st[st.length - 2] = w at hx3 hok3
    have hs : stepE vars y st = ((twoE y.op w z).1, .code (twoE y.op w z).2, st.take (st.length - 2)) := by unfold stepE; rw [if_neg o0, if_neg o3, if_neg o6, hx2, hx3]; rfl
    have q1 := c_rTwo y.op w z hok3.1 hok2.1 (by have := hok3.2; omega) (by have := hok2.2; omega)
    rw [hs] at gn heq
    simp only at gn heq
    generalize twoE y.op w z = r at q1 gn heq
    obtain ⟨⟨rk, rn, rs⟩, c⟩ := r
    simp only at q1 gn heq
    by_cases hc : c = 0
    · subst hc
      obtain ⟨ps2, gn2⟩ := gn rfl hv hov
      clear gn
      clear heq g hd start hs hk
      obtain ⟨op, k, v, s, n⟩ := y
      obtain ⟨zk, zn, zs⟩ := z
      obtain ⟨wk, wn, ws⟩ := w
      simp only at o0 o3 o6 hop q1
      simp only at qG
      generalize getV vars n = gg at qG
      obtain ⟨⟨gk, gv, gs⟩, gb⟩ := gg
      repeat' (first
 | (with_reducible refine run_n ?_; with_reducible first | refine hK _ _ (by simp) ?_ | refine hK _ _ ?_; clear hK K)
 | (refine zzc ?_)
 | (with_reducible refine awp_regT (by kernel_rfl) ?_; intro K hK)
 | (with_reducible refine awp_regCM (id := 16) [(6, some 6), (8, some 8), (61, some 12)] [(6, some 6), (8, some 8), (61, some 12), (62, none), (63, none)] mixed (by kernel_rfl) (by kernel_rfl) (by kernel_rfl) ?_; intro K hK)
 | (with_reducible refine awp_regCM (id := 22) [(13, some 13), (81, some 12)] [(13, some 13), (81, some 12), (82, none), (87, none), (92, none)] mixed (by kernel_rfl) (by kernel_rfl) (by kernel_rfl) ?_; intro K hK)
 | (with_reducible refine awp_regCM (id := 25) [(13, some 13), (105, some 12)] [(13, some 13), (105, some 12), (106, none), (111, none)] mixed (by kernel_rfl) (by kernel_rfl) (by kernel_rfl) ?_; intro K hK)
 | (with_reducible refine a_cond (ht := ?_) (hf := ?_) <;> intro hb <;> (try simp at hb) <;> (try contradiction) <;> (try subst hb) <;> (try omega))
 | (with_reducible first | refine a_move (hr:=?_) | refine a_assign (hr:=?_) | refine a_load (hr:=?_) | refine a_fieldAddr (hr:=?_) | refine a_bin (hr:=?_) | refine a_lenS (hr:=?_) | refine a_lenR (hr:=?_) | refine a_extract (hr:=?_) | refine a_pick (hr:=?_) | refine a_un (hr:=?_) | refine a_store (hr:=?_) | refine a_alloc (hr:=?_) | refine a_eqB (hr:=?_) | refine a_neB (hr:=?_) | refine a_idxArr (hr:=?_) | refine a_sliceArr (hr:=?_) | refine a_eqS (hr:=?_) | refine a_neS (hr:=?_) | refine a_sliceS (hr:=?_) | refine a_sliceR (hr:=?_) | refine a_indexAddr (hr:=?_) | refine a_build (hr:=?_) | refine a_buildSlice (hr:=?_) | refine a_maxC (hr:=?_) | refine a_append (hr:=?_) | refine a_append0 (hr:=?_) | refine a_appendX (hr:=?_) | refine a_callF (hcall := qG) (hr:=?_) | refine a_gT (hr:=?_) | refine a_gF (hr:=?_) | refine a_gU (hr:=?_))
 | (with_reducible refine a_gB (hT := ?_) (hF := ?_) <;> intro hb <;> (try simp at hb) <;> (try contradiction) <;> (try subst hb) <;> (try omega))
 | fail)
      clear hx
      have hx := hx3
      repeat' (first
 | (with_reducible refine run_n ?_; with_reducible first | refine hK _ _ (by simp) ?_ | refine hK _ _ ?_; clear hK K)
 | (refine zzc ?_)
 | (with_reducible refine awp_regT (by kernel_rfl) ?_; intro K hK)
 | (with_reducible refine awp_regCM (id := 16) [(6, some 6), (8, some 8), (61, some 12)] [(6, some 6), (8, some 8), (61, some 12), (62, none), (63, none)] mixed (by kernel_rfl) (by kernel_rfl) (by kernel_rfl) ?_; intro K hK)
 | (with_reducible refine awp_regCM (id := 22) [(13, some 13), (81, some 12)] [(13, some 13), (81, some 12), (82, none), (87, none), (92, none)] mixed (by kernel_rfl) (by kernel_rfl) (by kernel_rfl) ?_; intro K hK)
 | (with_reducible refine awp_regCM (id := 25) [(13, some 13), (105, some 12)] [(13, some 13), (105, some 12), (106, none), (111, none)] mixed (by kernel_rfl) (by kernel_rfl) (by kernel_rfl) ?_; intro K hK)
 | (with_reducible refine a_cond (ht := ?_) (hf := ?_) <;> intro hb <;> (try simp at hb) <;> (try contradiction) <;> (try subst hb) <;> (try omega))
 | (with_reducible first | refine a_move (hr:=?_) | refine a_assign (hr:=?_) | refine a_load (hr:=?_) | refine a_fieldAddr (hr:=?_) | refine a_bin (hr:=?_) | refine a_lenS (hr:=?_) | refine a_lenR (hr:=?_) | refine a_extract (hr:=?_) | refine a_pick (hr:=?_) | refine a_un (hr:=?_) | refine a_store (hr:=?_) | refine a_alloc (hr:=?_) | refine a_eqB (hr:=?_) | refine a_neB (hr:=?_) | refine a_idxArr (hr:=?_) | refine a_sliceArr (hr:=?_) | refine a_eqS (hr:=?_) | refine a_neS (hr:=?_) | refine a_sliceS (hr:=?_) | refine a_sliceR (hr:=?_) | refine a_indexAddr (hr:=?_) | refine a_build (hr:=?_) | refine a_buildSlice (hr:=?_) | refine a_maxC (hr:=?_) | refine a_append (hr:=?_) | refine a_append0 (hr:=?_) | refine a_appendX (hr:=?_) | refine a_call0 (hcall := q1) (hr:=?_) | refine a_gT (hr:=?_) | refine a_gF (hr:=?_) | refine a_gU (hr:=?_))
 | (with_reducible refine a_gB (hT := ?_) (hF := ?_) <;> intro hb <;> (try simp at hb) <;> (try contradiction) <;> (try subst hb) <;> (try omega))
 | fail)
      exact ⟨(i + 1, f - 1, st.take (st.length - 2) ++ [(rk, rn, rs)], ps2), by simp only; omega, gn2, by rw [List.map_append, List.map_take]; exact zzx 60 128⟩
    · rw [if_pos (by unfold E6.bad; rw [E6.ev_code hc]; rfl)] at heq
      rw [← heq] at hQ
      have q2 := c_ROfN hc
      simp only [re_code hc, RE.av, plAV_nil] at q2 hQ
      unfold zV at hQ
      clear heq g hd start hs hk gn
      obtain ⟨op, k, v, s, n⟩ := y
      obtain ⟨zk, zn, zs⟩ := z
      obtain ⟨wk, wn, ws⟩ := w
      simp only at o0 o3 o6 hop q1
      simp only at qG
      generalize getV vars n = gg at qG
      obtain ⟨⟨gk, gv, gs⟩, gb⟩ := gg
      repeat' (first
 | (with_reducible refine run_n ?_; with_reducible first | refine hK _ _ (by simp) ?_ | refine hK _ _ ?_; clear hK K)
 | (refine zzc ?_)
 | (with_reducible refine awp_regT (by kernel_rfl) ?_; intro K hK)
 | (with_reducible refine awp_regCM (id := 16) [(6, some 6), (8, some 8), (61, some 12)] [(6, some 6), (8, some 8), (61, some 12), (62, none), (63, none)] mixed (by kernel_rfl) (by kernel_rfl) (by kernel_rfl) ?_; intro K hK)
 | (with_reducible refine awp_regCM (id := 22) [(13, some 13), (81, some 12)] [(13, some 13), (81, some 12), (82, none), (87, none), (92, none)] mixed (by kernel_rfl) (by kernel_rfl) (by kernel_rfl) ?_; intro K hK)
 | (with_reducible refine awp_regCM (id := 25) [(13, some 13), (105, some 12)] [(13, some 13), (105, some 12), (106, none), (111, none)] mixed (by kernel_rfl) (by kernel_rfl) (by kernel_rfl) ?_; intro K hK)
 | (with_reducible refine a_cond (ht := ?_) (hf := ?_) <;> intro hb <;> (try simp at hb) <;> (try contradiction) <;> (try subst hb) <;> (try omega))
 | (with_reducible first | refine a_move (hr:=?_) | refine a_assign (hr:=?_) | refine a_load (hr:=?_) | refine a_fieldAddr (hr:=?_) | refine a_bin (hr:=?_) | refine a_lenS (hr:=?_) | refine a_lenR (hr:=?_) | refine a_extract (hr:=?_) | refine a_pick (hr:=?_) | refine a_un (hr:=?_) | refine a_store (hr:=?_) | refine a_alloc (hr:=?_) | refine a_eqB (hr:=?_) | refine a_neB (hr:=?_) | refine a_idxArr (hr:=?_) | refine a_sliceArr (hr:=?_) | refine a_eqS (hr:=?_) | refine a_neS (hr:=?_) | refine a_sliceS (hr:=?_) | refine a_sliceR (hr:=?_) | refine a_indexAddr (hr:=?_) | refine a_build (hr:=?_) | refine a_buildSlice (hr:=?_) | refine a_maxC (hr:=?_) | refine a_append (hr:=?_) | refine a_append0 (hr:=?_) | refine a_appendX (hr:=?_) | refine a_callF (hcall := qG) (hr:=?_) | refine a_gT (hr:=?_) | refine a_gF (hr:=?_) | refine a_gU (hr:=?_))
 | (with_reducible refine a_gB (hT := ?_) (hF := ?_) <;> intro hb <;> (try simp at hb) <;> (try contradiction) <;> (try subst hb) <;> (try omega))
 | fail)
      clear hx
      have hx := hx3
      repeat' (first
 | (with_reducible refine run_n ?_; with_reducible first | refine hK _ _ (by simp) ?_ | refine hK _ _ ?_; clear hK K)
 | (refine zzc ?_)
 | (with_reducible refine awp_regT (by kernel_rfl) ?_; intro K hK)
 | (with_reducible refine awp_regCM (id := 16) [(6, some 6), (8, some 8), (61, some 12)] [(6, some 6), (8, some 8), (61, some 12), (62, none), (63, none)] mixed (by kernel_rfl) (by kernel_rfl) (by kernel_rfl) ?_; intro K hK)
 | (with_reducible refine awp_regCM (id := 22) [(13, some 13), (81, some 12)] [(13, some 13), (81, some 12), (82, none), (87, none), (92, none)] mixed (by kernel_rfl) (by kernel_rfl) (by kernel_rfl) ?_; intro K hK)
 | (with_reducible refine awp_regCM (id := 25) [(13, some 13), (105, some 12)] [(13, some 13), (105, some 12), (106, none), (111, none)] mixed (by kernel_rfl) (by kernel_rfl) (by kernel_rfl) ?_; intro K hK)
 | (with_reducible refine a_cond (ht := ?_) (hf := ?_) <;> intro hb <;> (try simp at hb) <;> (try contradiction) <;> (try subst hb) <;> (try omega))
 | (with_reducible first | refine a_move (hr:=?_) | refine a_assign (hr:=?_) | refine a_load (hr:=?_) | refine a_fieldAddr (hr:=?_) | refine a_bin (hr:=?_) | refine a_lenS (hr:=?_) | refine a_lenR (hr:=?_) | refine a_extract (hr:=?_) | refine a_pick (hr:=?_) | refine a_un (hr:=?_) | refine a_store (hr:=?_) | refine a_alloc (hr:=?_) | refine a_eqB (hr:=?_) | refine a_neB (hr:=?_) | refine a_idxArr (hr:=?_) | refine a_sliceArr (hr:=?_) | refine a_eqS (hr:=?_) | refine a_neS (hr:=?_) | refine a_sliceS (hr:=?_) | refine a_sliceR (hr:=?_) | refine a_indexAddr (hr:=?_) | refine a_build (hr:=?_) | refine a_buildSlice (hr:=?_) | refine a_maxC (hr:=?_) | refine a_append (hr:=?_) | refine a_append0 (hr:=?_) | refine a_appendX (hr:=?_) | refine a_call0 (hcall := q1) (hr:=?_) | refine a_call0 (hcall := q2) (hr:=?_) | refine a_gT (hr:=?_) | refine a_gF (hr:=?_) | refine a_gU (hr:=?_))
 | (with_reducible refine a_gB (hT := ?_) (hF := ?_) <;> intro hb <;> (try simp at hb) <;> (try contradiction) <;> (try subst hb) <;> (try omega))
 | fail)
      all_goals ((refine zzr hQ ?_))
      all_goals (exact zzd)
  · obtain rfl : i = e.length := by omega
    have heq := g.eq
    have hwh := g.wh
    have hln := g.ln
    rw [List.drop_length, wholeL] at hwh
    rw [List.drop_length, evL] at heq
    rw [← heq] at hQ
    have h1 : st.length = 1 := by rw [← hln]; exact hwh.2
    clear heq hwh hln g start
    rcases st with _ | ⟨a, _ | ⟨b, l⟩⟩
    · cases h1
    · obtain ⟨ak, an, av⟩ := a
      simp only [List.headD_cons, re_ok] at hQ
      repeat' (first
 | (with_reducible refine run_n ?_; with_reducible first | refine hK _ _ (by simp) ?_ | refine hK _ _ ?_; clear hK K)
 | (refine zzc ?_)
 | (with_reducible refine awp_regT (by kernel_rfl) ?_; intro K hK)
 | (with_reducible refine awp_regAM (id := 16) [(6, some 6), (8, some 8), (61, some 12)] mixed (by kernel_rfl) (by kernel_rfl) ?_; intro K hK)
 | (with_reducible refine awp_regAM (id := 22) [(13, some 13), (81, some 12)] mixed (by kernel_rfl) (by kernel_rfl) ?_; intro K hK)
 | (with_reducible refine awp_regAM (id := 25) [(13, some 13), (105, some 12)] mixed (by kernel_rfl) (by kernel_rfl) ?_; intro K hK)
 | (with_reducible refine a_cond (ht := ?_) (hf := ?_) <;> intro hb <;> (try simp at hb) <;> (try contradiction) <;> (try subst hb) <;> (try omega))
 | (with_reducible first | refine a_move (hr:=?_) | refine a_assign (hr:=?_) | refine a_load (hr:=?_) | refine a_fieldAddr (hr:=?_) | refine a_bin (hr:=?_) | refine a_lenS (hr:=?_) | refine a_lenR (hr:=?_) | refine a_extract (hr:=?_) | refine a_pick (hr:=?_) | refine a_un (hr:=?_) | refine a_store (hr:=?_) | refine a_alloc (hr:=?_) | refine a_eqB (hr:=?_) | refine a_neB (hr:=?_) | refine a_idxArr (hr:=?_) | refine a_sliceArr (hr:=?_) | refine a_eqS (hr:=?_) | refine a_neS (hr:=?_) | refine a_sliceS (hr:=?_) | refine a_sliceR (hr:=?_) | refine a_indexAddr (hr:=?_) | refine a_build (hr:=?_) | refine a_buildSlice (hr:=?_) | refine a_maxC (hr:=?_) | refine a_append (hr:=?_) | refine a_append0 (hr:=?_) | refine a_appendX (hr:=?_) | refine a_gT (hr:=?_) | refine a_gF (hr:=?_) | refine a_gU (hr:=?_))
 | (with_reducible refine a_gB (hT := ?_) (hF := ?_) <;> intro hb <;> (try simp at hb) <;> (try contradiction) <;> (try subst hb) <;> (try omega))
 | fail)
      all_goals ((refine zzr hQ ?_))
      all_goals (exact zzd)
    · simp at h1
end Go.Proofs.YtjbbnollidcagaaGreatDoor.Asl

