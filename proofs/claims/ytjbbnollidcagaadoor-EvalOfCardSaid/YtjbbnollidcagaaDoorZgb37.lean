/- Part 37 of what the row leans on: abstract values and states, their rules, and the contracts of the functions. -/
import Derived.Test.YtjbbnollidcagaaDoorZgb36
namespace Go.Proofs.YtjbbnollidcagaaDoor.Asl
open Go Go.RowKit
open Go.Proofs.YtjbbnollidcagaaDoor.Errs (EV)
set_option linter.unusedVariables false
set_option linter.unusedSimpArgs false
set_option maxRecDepth 100000
set_option maxHeartbeats 8000000
deriving instance DecidableEq for E6
theorem c_num6 (n : Int) : CallD Tryd.prog 21 [.raw (.int .i64 n)] noHeap (valAV 1 n ⟨#[]⟩) noHeap := by
  refine calls_go (nt := 5) (rs := [.cell 2 23]) Tryd.func21 rfl rfl rfl (by simp) (by intro id h; simp at h <;> omega) ?_; intro Q hQ hW
  repeat' (first
    | (with_reducible refine run_n ?_; with_reducible first | refine hK _ _ (by simp) ?_ | refine hK _ _ ?_; clear hK K)
    | (refine zzc ?_)
    | (with_reducible refine awp_regT (by kernel_rfl) ?_; intro K hK)
    | (with_reducible refine a_cond (ht := ?_) (hf := ?_) <;> intro hb <;> (try simp at hb) <;> (try contradiction) <;> (try subst hb) <;> (try omega))
    | (with_reducible first | refine a_move (hr:=?_) | refine a_store (hr:=?_) | refine a_alloc (hr:=?_) | refine a_build (hr:=?_))
    | fail)
  all_goals ((refine zzr hQ ?_))
  all_goals (exact Fin.drop (by simp; exact .r) (by simp))
def l6E : List TermV := [⟨1, 0, 0, ⟨#[]⟩, ⟨#[97]⟩⟩, ⟨0, 1, 1, ⟨#[]⟩, ⟨#[]⟩⟩, ⟨9, 0, 0, ⟨#[]⟩, ⟨#[]⟩⟩]
def l6V : List VarV := [⟨⟨#[97]⟩, 1, 2, ⟨#[]⟩⟩]
theorem l6_9 : ofE6 l6E l6V 9 = ((1, 3, ⟨#[]⟩), 6, .ok) := by decide +kernel
theorem l6_1 : ofE6 l6E l6V 1 = (zV, 0, .code 60) := by decide +kernel
theorem l6_T : twoE 7 (1, 1, ⟨#[]⟩) (1, 0, ⟨#[]⟩) = (zV, 62) := by decide +kernel
theorem l6_w : ∀ t ∈ l6E, wfT t ∧ okV (valT t) := by
  unfold wfT okV valT inR l6E
  simp
theorem l6_v : ∀ x ∈ l6V, okV (x.k, x.v, x.s) := by
  unfold okV inR l6V
  simp
theorem c_live6 : CallD Tryd.prog 11 [] noHeap (.raw (.bool true)) noHeap := by
  have q1 := c_Of l6E l6V 9 l6_w (by decide) l6_v (by decide) (by unfold inR; decide)
  have q2 := c_Of l6E l6V 1 l6_w (by decide) l6_v (by decide) (by unfold inR; decide)
  have q3 := c_Two 7 (1, 1, ⟨#[]⟩) (1, 0, ⟨#[]⟩) (by unfold inR; decide) (by unfold inR; decide) (by decide) (by decide)
  have q4 : CallD Tryd.prog 19 [.ifc 25 (.raw (.int .i64 60))] noHeap (.raw (.int .i64 60)) noHeap := c_FCode (some (.code 60))
  rw [l6_9] at q1
  rw [l6_1, E6.ev_code (by decide)] at q2
  rw [l6_T] at q3
  have n1 := c_num6 1
  have n2 := c_num6 2
  have n0 := c_num6 0
  have n3 := c_num6 3
  unfold l6E l6V at q1 q2
  unfold zV at q2 q3
  simp only [List.map_cons, List.map_nil, termAV, varAV, E6.ev_ok, errO_none, errO_some, Val.av] at q1 q2 q3
  refine calls_go (nt := 63) (rs := [.tmp 0]) Tryd.func11 rfl rfl rfl (by simp) (by intro id h; simp at h <;> omega) ?_; intro Q hQ hW
  repeat' (first
    | (with_reducible refine run_n ?_; with_reducible first | refine hK _ _ (by simp) ?_ | refine hK _ _ ?_; clear hK K)
    | (refine zzc ?_)
    | (with_reducible refine awp_regT (by kernel_rfl) ?_; intro K hK)
    | (with_reducible refine awp_regAM (id := 5) [(2, some 2)] mixed (by kernel_rfl) (by kernel_rfl) ?_; intro K hK)
    | (with_reducible refine a_cond (ht := ?_) (hf := ?_) <;> intro hb <;> (try simp at hb) <;> (try contradiction) <;> (try subst hb) <;> (try omega))
    | (with_reducible first | refine a_move (hr:=?_) | refine a_assign (hr:=?_) | refine a_load (hr:=?_) | refine a_bin (hr:=?_) | refine a_extract (hr:=?_) | refine a_pick (hr:=?_) | refine a_store (hr:=?_) | refine a_alloc (hr:=?_) | refine a_eqI (hr:=?_) | refine a_neI (hr:=?_) | refine a_eqB (hr:=?_) | refine a_eqS (hr:=?_) | refine a_build (hr:=?_) | refine a_buildSlice (hr:=?_) | refine a_call0 (hcall := n1) (hr:=?_) | refine a_call0 (hcall := n2) (hr:=?_) | refine a_call0 (hcall := n0) (hr:=?_) | refine a_callF (hcall := q1) (hr:=?_) | refine a_callF (hcall := q2) (hr:=?_) | refine a_call0 (hcall := q3) (hr:=?_) | refine a_gT (hr:=?_) | refine a_gF (hr:=?_) | refine a_gU (hr:=?_))
    | (with_reducible refine a_gB (hT := ?_) (hF := ?_) <;> intro hb <;> (try simp at hb) <;> (try contradiction) <;> (try subst hb) <;> (try omega))
    | fail)
  repeat' (first
    | (with_reducible refine run_n ?_; with_reducible first | refine hK _ _ (by simp) ?_ | refine hK _ _ ?_; clear hK K)
    | (refine zzc ?_)
    | (with_reducible refine awp_regT (by kernel_rfl) ?_; intro K hK)
    | (with_reducible refine awp_regCM (id := 5) [(2, some 2)] [(2, some 2), (55, none)] mixed (by kernel_rfl) (by kernel_rfl) (by kernel_rfl) ?_; intro K hK)
    | (with_reducible refine a_cond (ht := ?_) (hf := ?_) <;> intro hb <;> (try simp at hb) <;> (try contradiction) <;> (try subst hb) <;> (try omega))
    | (with_reducible first | refine a_move (hr:=?_) | refine a_assign (hr:=?_) | refine a_load (hr:=?_) | refine a_bin (hr:=?_) | refine a_extract (hr:=?_) | refine a_pick (hr:=?_) | refine a_store (hr:=?_) | refine a_alloc (hr:=?_) | refine a_eqI (hr:=?_) | refine a_neI (hr:=?_) | refine a_eqB (hr:=?_) | refine a_eqS (hr:=?_) | refine a_build (hr:=?_) | refine a_buildSlice (hr:=?_) | refine a_call0 (hcall := n3) (hr:=?_) | refine a_callF (hcall := q4) (hr:=?_) | refine a_gT (hr:=?_) | refine a_gF (hr:=?_) | refine a_gU (hr:=?_))
    | (with_reducible refine a_gB (hT := ?_) (hF := ?_) <;> intro hb <;> (try simp at hb) <;> (try contradiction) <;> (try subst hb) <;> (try omega))
    | fail)
  all_goals ((refine zzr hQ ?_))
  all_goals (exact Fin.drop (by simp; exact .r) (by simp))
end Go.Proofs.YtjbbnollidcagaaDoor.Asl

namespace Go.Proofs.YtjbbnollidcagaaDoor.Asl
open Go Go.RowKit
open Go.Proofs.YtjbbnollidcagaaDoor.Errs (EV)
set_option linter.unusedVariables false
set_option linter.unusedSimpArgs false
set_option maxRecDepth 100000
set_option maxHeartbeats 8000000
theorem CallD.nil2s {P : Program} {f : FuncId} {sz : Nat} {a r : AV} {g g' : Hp} (hc : CallD P f [a, .sl sz []] g r g') : CallD P f [a, .raw (.slice none 0 0)] g r g' := by
  intro C vs hC hvs
  cases hvs with
  | cons h1 h2 =>
    cases h2 with
    | cons h2 h3 =>
      rw [RV.raw_eq h2]
      exact hc C _ hC (.cons h1 (.cons .sl0 h3))
def smT (t : TermV) : Bool := decide (t.n.size ≤ 100) && decide (t.s.size ≤ 200)
def smV (x : VarV) : Bool := decide (x.n.size ≤ 100) && decide (x.s.size ≤ 200)
def fewT (e : List TermV) (l : List VarV) : Bool := e.all smT && (l.all smV && (decide (e.length ≤ 100) && decide (l.length ≤ 40)))
theorem c_few6 (e : List TermV) (l : List VarV) (he : e.length < 9223372036854775808) (hl : l.length < 9223372036854775808) : CallD Tryd.prog 16 [.sl 5 (e.map termAV), .sl 4 (l.map varAV)] noHeap (.raw (.bool (fewT e l))) noHeap := by
  unfold fewT
  refine calls_go (nt := 53) (rs := [.tmp 4]) Tryd.func16 rfl rfl rfl (by simp) (by intro id h; simp at h <;> omega) ?_; intro Q hQ hW
  repeat' (first
    | (with_reducible refine run_n ?_; with_reducible first | refine hK _ _ (by simp) ?_ | refine hK _ _ ?_; clear hK K)
    | (refine zzc ?_)
    | (with_reducible refine awp_regT (by kernel_rfl) ?_; intro K hK)
    | (with_reducible refine a_cond (ht := ?_) (hf := ?_) <;> intro hb <;> (try simp at hb) <;> (try contradiction) <;> (try subst hb) <;> (try omega))
    | (with_reducible first | refine a_move (hr:=?_) | refine a_assign (hr:=?_) | refine a_load (hr:=?_) | refine a_fieldAddr (hr:=?_) | refine a_bin (hr:=?_) | refine a_lenS (hr:=?_) | refine a_lenR (hr:=?_) | refine a_pick (hr:=?_) | refine a_store (hr:=?_) | refine a_alloc (hr:=?_) | refine a_idxArr (hr:=?_) | refine a_indexAddr (hr:=?_) | refine a_gT (hr:=?_) | refine a_gF (hr:=?_) | refine a_gU (hr:=?_))
    | (with_reducible refine a_gB (hT := ?_) (hF := ?_) <;> intro hb <;> (try simp at hb) <;> (try contradiction) <;> (try subst hb) <;> (try omega))
    | fail)
  refine awp_inv (α := Nat) (fun i => [(0, .sl 5 (e.map termAV)), (1, .sl 4 (l.map varAV)), (9, .sl 5 (e.map termAV)), (10, .raw (.int .i64 e.length)), (11, .raw (.int .i64 i))]) (fun _ => hpL []) (fun i => i ≤ e.length ∧ (e.drop i).all smT = e.all smT) (fun i => e.length - i) 0 ⟨by simp, by simp⟩ (zzw) ?_
  rintro i ⟨g1, g2⟩
  rw [← g2] at hQ
  rcases Nat.lt_or_ge i e.length with hlt | hge
  · have hx := List.getElem?_eq_getElem hlt
    rw [List.drop_eq_getElem_cons hlt] at g2 hQ
    generalize e[i] = y at hx g2 hQ
    obtain ⟨op, k, v, s, n⟩ := y
    simp only [List.all_cons] at g2 hQ
    by_cases h1 : n.size ≤ 100
    · by_cases h2 : s.size ≤ 200
      · have hs : smT ⟨op, k, v, s, n⟩ = true := by unfold smT; simp [h1, h2]
        rw [hs] at g2 hQ
        repeat' (first
    | (with_reducible refine run_n ?_; with_reducible first | refine hK _ _ (by simp) ?_ | refine hK _ _ ?_; clear hK K)
    | (refine zzc ?_)
    | (with_reducible refine awp_regT (by kernel_rfl) ?_; intro K hK)
    | (with_reducible refine a_cond (ht := ?_) (hf := ?_) <;> intro hb <;> (try simp at hb) <;> (try contradiction) <;> (try subst hb) <;> (try omega))
    | (with_reducible first | refine a_move (hr:=?_) | refine a_assign (hr:=?_) | refine a_load (hr:=?_) | refine a_fieldAddr (hr:=?_) | refine a_bin (hr:=?_) | refine a_lenS (hr:=?_) | refine a_lenR (hr:=?_) | refine a_pick (hr:=?_) | refine a_store (hr:=?_) | refine a_alloc (hr:=?_) | refine a_idxArr (hr:=?_) | refine a_indexAddr (hr:=?_) | refine a_gT (hr:=?_) | refine a_gF (hr:=?_) | refine a_gU (hr:=?_))
    | (with_reducible refine a_gB (hT := ?_) (hF := ?_) <;> intro hb <;> (try simp at hb) <;> (try contradiction) <;> (try subst hb) <;> (try omega))
    | fail)
        exact ⟨i + 1, by omega, ⟨by omega, g2⟩, zzw⟩
      · have hs : smT ⟨op, k, v, s, n⟩ = false := by unfold smT; simp [h2]
        rw [hs] at g2 hQ
        simp only [Bool.and_false, Bool.false_and] at g2 hQ
        repeat' (first
    | (with_reducible refine run_n ?_; with_reducible first | refine hK _ _ (by simp) ?_ | refine hK _ _ ?_; clear hK K)
    | (refine zzc ?_)
    | (with_reducible refine awp_regT (by kernel_rfl) ?_; intro K hK)
    | (with_reducible refine a_cond (ht := ?_) (hf := ?_) <;> intro hb <;> (try simp at hb) <;> (try contradiction) <;> (try subst hb) <;> (try omega))
    | (with_reducible first | refine a_move (hr:=?_) | refine a_assign (hr:=?_) | refine a_load (hr:=?_) | refine a_fieldAddr (hr:=?_) | refine a_bin (hr:=?_) | refine a_lenS (hr:=?_) | refine a_lenR (hr:=?_) | refine a_pick (hr:=?_) | refine a_store (hr:=?_) | refine a_alloc (hr:=?_) | refine a_idxArr (hr:=?_) | refine a_indexAddr (hr:=?_) | refine a_gT (hr:=?_) | refine a_gF (hr:=?_) | refine a_gU (hr:=?_))
    | (with_reducible refine a_gB (hT := ?_) (hF := ?_) <;> intro hb <;> (try simp at hb) <;> (try contradiction) <;> (try subst hb) <;> (try omega))
    | fail)
        (refine zzr hQ ?_)
        exact Fin.drop (by simp; exact .r) (by simp)
    · have hs : smT ⟨op, k, v, s, n⟩ = false := by unfold smT; simp [h1]
      rw [hs] at g2 hQ
      simp only [Bool.and_false, Bool.false_and] at g2 hQ
      repeat' (first
    | (with_reducible refine run_n ?_; with_reducible first | refine hK _ _ (by simp) ?_ | refine hK _ _ ?_; clear hK K)
    | (refine zzc ?_)
    | (with_reducible refine awp_regT (by kernel_rfl) ?_; intro K hK)
    | (with_reducible refine a_cond (ht := ?_) (hf := ?_) <;> intro hb <;> (try simp at hb) <;> (try contradiction) <;> (try subst hb) <;> (try omega))
    | (with_reducible first | refine a_move (hr:=?_) | refine a_assign (hr:=?_) | refine a_load (hr:=?_) | refine a_fieldAddr (hr:=?_) | refine a_bin (hr:=?_) | refine a_lenS (hr:=?_) | refine a_lenR (hr:=?_) | refine a_pick (hr:=?_) | refine a_store (hr:=?_) | refine a_alloc (hr:=?_) | refine a_idxArr (hr:=?_) | refine a_indexAddr (hr:=?_) | refine a_gT (hr:=?_) | refine a_gF (hr:=?_) | refine a_gU (hr:=?_))
    | (with_reducible refine a_gB (hT := ?_) (hF := ?_) <;> intro hb <;> (try simp at hb) <;> (try contradiction) <;> (try subst hb) <;> (try omega))
    | fail)
      (refine zzr hQ ?_)
      exact Fin.drop (by simp; exact .r) (by simp)
  · obtain rfl : i = e.length := by omega
    rw [List.drop_length] at hQ
    simp only [List.all_nil, Bool.true_and] at hQ
    clear g2
    repeat' (first
    | (with_reducible refine run_n ?_; with_reducible first | refine hK _ _ (by simp) ?_ | refine hK _ _ ?_; clear hK K)
    | (refine zzc ?_)
    | (with_reducible refine awp_regT (by kernel_rfl) ?_; intro K hK)
    | (with_reducible refine a_cond (ht := ?_) (hf := ?_) <;> intro hb <;> (try simp at hb) <;> (try contradiction) <;> (try subst hb) <;> (try omega))
    | (with_reducible first | refine a_move (hr:=?_) | refine a_assign (hr:=?_) | refine a_load (hr:=?_) | refine a_fieldAddr (hr:=?_) | refine a_bin (hr:=?_) | refine a_lenS (hr:=?_) | refine a_lenR (hr:=?_) | refine a_pick (hr:=?_) | refine a_store (hr:=?_) | refine a_alloc (hr:=?_) | refine a_idxArr (hr:=?_) | refine a_indexAddr (hr:=?_) | refine a_gT (hr:=?_) | refine a_gF (hr:=?_) | refine a_gU (hr:=?_))
    | (with_reducible refine a_gB (hT := ?_) (hF := ?_) <;> intro hb <;> (try simp at hb) <;> (try contradiction) <;> (try subst hb) <;> (try omega))
    | fail)
    refine awp_inv (α := Nat) (fun i => [(0, .sl 5 (e.map termAV)), (1, .sl 4 (l.map varAV)), (27, .sl 4 (l.map varAV)), (28, .raw (.int .i64 l.length)), (29, .raw (.int .i64 i))]) (fun _ => hpL []) (fun i => i ≤ l.length ∧ (l.drop i).all smV = l.all smV) (fun i => l.length - i) 0 ⟨by simp, by simp⟩ (zzw) ?_
    rintro i ⟨g1, g2⟩
    rw [← g2] at hQ
    rcases Nat.lt_or_ge i l.length with hlt | hge
    · have hx := List.getElem?_eq_getElem hlt
      rw [List.drop_eq_getElem_cons hlt] at g2 hQ
      generalize l[i] = y at hx g2 hQ
      obtain ⟨n, k, v, s⟩ := y
      simp only [List.all_cons] at g2 hQ
      by_cases h1 : n.size ≤ 100
      · by_cases h2 : s.size ≤ 200
        · have hs : smV ⟨n, k, v, s⟩ = true := by unfold smV; simp [h1, h2]
          rw [hs] at g2 hQ
          repeat' (first
    | (with_reducible refine run_n ?_; with_reducible first | refine hK _ _ (by simp) ?_ | refine hK _ _ ?_; clear hK K)
    | (refine zzc ?_)
    | (with_reducible refine awp_regT (by kernel_rfl) ?_; intro K hK)
    | (with_reducible refine a_cond (ht := ?_) (hf := ?_) <;> intro hb <;> (try simp at hb) <;> (try contradiction) <;> (try subst hb) <;> (try omega))
    | (with_reducible first | refine a_move (hr:=?_) | refine a_assign (hr:=?_) | refine a_load (hr:=?_) | refine a_fieldAddr (hr:=?_) | refine a_bin (hr:=?_) | refine a_lenS (hr:=?_) | refine a_lenR (hr:=?_) | refine a_pick (hr:=?_) | refine a_store (hr:=?_) | refine a_alloc (hr:=?_) | refine a_idxArr (hr:=?_) | refine a_indexAddr (hr:=?_) | refine a_gT (hr:=?_) | refine a_gF (hr:=?_) | refine a_gU (hr:=?_))
    | (with_reducible refine a_gB (hT := ?_) (hF := ?_) <;> intro hb <;> (try simp at hb) <;> (try contradiction) <;> (try subst hb) <;> (try omega))
    | fail)
          exact ⟨i + 1, by omega, ⟨by omega, g2⟩, zzw⟩
        · have hs : smV ⟨n, k, v, s⟩ = false := by unfold smV; simp [h2]
          rw [hs] at g2 hQ
          simp only [Bool.and_false, Bool.false_and] at g2 hQ
          repeat' (first
    | (with_reducible refine run_n ?_; with_reducible first | refine hK _ _ (by simp) ?_ | refine hK _ _ ?_; clear hK K)
    | (refine zzc ?_)
    | (with_reducible refine awp_regT (by kernel_rfl) ?_; intro K hK)
    | (with_reducible refine a_cond (ht := ?_) (hf := ?_) <;> intro hb <;> (try simp at hb) <;> (try contradiction) <;> (try subst hb) <;> (try omega))
    | (with_reducible first | refine a_move (hr:=?_) | refine a_assign (hr:=?_) | refine a_load (hr:=?_) | refine a_fieldAddr (hr:=?_) | refine a_bin (hr:=?_) | refine a_lenS (hr:=?_) | refine a_lenR (hr:=?_) | refine a_pick (hr:=?_) | refine a_store (hr:=?_) | refine a_alloc (hr:=?_) | refine a_idxArr (hr:=?_) | refine a_indexAddr (hr:=?_) | refine a_gT (hr:=?_) | refine a_gF (hr:=?_) | refine a_gU (hr:=?_))
    | (with_reducible refine a_gB (hT := ?_) (hF := ?_) <;> intro hb <;> (try simp at hb) <;> (try contradiction) <;> (try subst hb) <;> (try omega))
    | fail)
          (refine zzr hQ ?_)
          exact Fin.drop (by simp; exact .r) (by simp)
      · have hs : smV ⟨n, k, v, s⟩ = false := by unfold smV; simp [h1]
        rw [hs] at g2 hQ
        simp only [Bool.and_false, Bool.false_and] at g2 hQ
        repeat' (first
    | (with_reducible refine run_n ?_; with_reducible first | refine hK _ _ (by simp) ?_ | refine hK _ _ ?_; clear hK K)
    | (refine zzc ?_)
    | (with_reducible refine awp_regT (by kernel_rfl) ?_; intro K hK)
    | (with_reducible refine a_cond (ht := ?_) (hf := ?_) <;> intro hb <;> (try simp at hb) <;> (try contradiction) <;> (try subst hb) <;> (try omega))
    | (with_reducible first | refine a_move (hr:=?_) | refine a_assign (hr:=?_) | refine a_load (hr:=?_) | refine a_fieldAddr (hr:=?_) | refine a_bin (hr:=?_) | refine a_lenS (hr:=?_) | refine a_lenR (hr:=?_) | refine a_pick (hr:=?_) | refine a_store (hr:=?_) | refine a_alloc (hr:=?_) | refine a_idxArr (hr:=?_) | refine a_indexAddr (hr:=?_) | refine a_gT (hr:=?_) | refine a_gF (hr:=?_) | refine a_gU (hr:=?_))
    | (with_reducible refine a_gB (hT := ?_) (hF := ?_) <;> intro hb <;> (try simp at hb) <;> (try contradiction) <;> (try subst hb) <;> (try omega))
    | fail)
        (refine zzr hQ ?_)
        exact Fin.drop (by simp; exact .r) (by simp)
    · obtain rfl : i = l.length := by omega
      rw [List.drop_length] at hQ
      simp only [List.all_nil, Bool.true_and] at hQ
      rw [show decide (l.length ≤ 40) = decide ((l.length : Int) ≤ 40) from decide_eq_decide.2 (by omega)] at hQ
      clear g2
      by_cases h1 : e.length ≤ 100
      · rw [decide_eq_true h1, Bool.true_and] at hQ
        repeat' (first
    | (with_reducible refine run_n ?_; with_reducible first | refine hK _ _ (by simp) ?_ | refine hK _ _ ?_; clear hK K)
    | (refine zzc ?_)
    | (with_reducible refine awp_regT (by kernel_rfl) ?_; intro K hK)
    | (with_reducible refine a_cond (ht := ?_) (hf := ?_) <;> intro hb <;> (try simp at hb) <;> (try contradiction) <;> (try subst hb) <;> (try omega))
    | (with_reducible first | refine a_move (hr:=?_) | refine a_assign (hr:=?_) | refine a_load (hr:=?_) | refine a_fieldAddr (hr:=?_) | refine a_bin (hr:=?_) | refine a_lenS (hr:=?_) | refine a_lenR (hr:=?_) | refine a_pick (hr:=?_) | refine a_store (hr:=?_) | refine a_alloc (hr:=?_) | refine a_idxArr (hr:=?_) | refine a_indexAddr (hr:=?_) | refine a_gT (hr:=?_) | refine a_gF (hr:=?_) | refine a_gU (hr:=?_))
    | (with_reducible refine a_gB (hT := ?_) (hF := ?_) <;> intro hb <;> (try simp at hb) <;> (try contradiction) <;> (try subst hb) <;> (try omega))
    | fail)
        (refine zzr hQ ?_)
        exact Fin.drop (by simp; exact .r) (by simp)
      · rw [decide_eq_false h1, Bool.false_and] at hQ
        repeat' (first
    | (with_reducible refine run_n ?_; with_reducible first | refine hK _ _ (by simp) ?_ | refine hK _ _ ?_; clear hK K)
    | (refine zzc ?_)
    | (with_reducible refine awp_regT (by kernel_rfl) ?_; intro K hK)
    | (with_reducible refine a_cond (ht := ?_) (hf := ?_) <;> intro hb <;> (try simp at hb) <;> (try contradiction) <;> (try subst hb) <;> (try omega))
    | (with_reducible first | refine a_move (hr:=?_) | refine a_assign (hr:=?_) | refine a_load (hr:=?_) | refine a_fieldAddr (hr:=?_) | refine a_bin (hr:=?_) | refine a_lenS (hr:=?_) | refine a_lenR (hr:=?_) | refine a_pick (hr:=?_) | refine a_store (hr:=?_) | refine a_alloc (hr:=?_) | refine a_idxArr (hr:=?_) | refine a_indexAddr (hr:=?_) | refine a_gT (hr:=?_) | refine a_gF (hr:=?_) | refine a_gU (hr:=?_))
    | (with_reducible refine a_gB (hT := ?_) (hF := ?_) <;> intro hb <;> (try simp at hb) <;> (try contradiction) <;> (try subst hb) <;> (try omega))
    | fail)
        (refine zzr hQ ?_)
        exact Fin.drop (by simp; exact .r) (by simp)
structure FewOk (e : List TermV) (l : List VarV) : Prop where
  t : ∀ t ∈ e, wfT t ∧ okV (valT t)
  v : ∀ x ∈ l, okV (x.k, x.v, x.s)
  e : e.length ≤ 100
  l : l.length ≤ 40
theorem few_ok {e : List TermV} {l : List VarV} (h : fewT e l = true) (hi : ∀ t ∈ e, inR t.v) (hv : ∀ x ∈ l, inR x.v) : FewOk e l := by
  unfold fewT at h
  simp only [Bool.and_eq_true, decide_eq_true_eq, List.all_eq_true] at h
  obtain ⟨h1, h2, h3, h4⟩ := h
  refine ⟨fun t ht => ?_, fun x hx => ?_, h3, h4⟩
  · have a := h1 t ht
    unfold smT at a
    simp only [Bool.and_eq_true, decide_eq_true_eq] at a
    have b := hi t ht
    unfold inR at b
    exact ⟨⟨b.1, b.2, by omega, by omega⟩, ⟨hi t ht, by show t.s.size ≤ 1000; omega⟩⟩
  · have a := h2 x hx
    unfold smV at a
    simp only [Bool.and_eq_true, decide_eq_true_eq] at a
    exact ⟨hv x hx, by show x.s.size ≤ 1000; omega⟩
theorem law_EvalOf (e : List TermV) (l : List VarV) (fuel : Int) (hel : e.length < 9223372036854775808) (hll : l.length < 9223372036854775808) (hi : ∀ t ∈ e, inR t.v) (hv : ∀ x ∈ l, inR x.v) (hfu : inR fuel) : CallD Tryd.prog 7 [.sl 5 (e.map termAV), .sl 4 (l.map varAV), .raw (.int .i64 fuel)] noHeap (.raw (.bool true)) noHeap := by
  have fw := c_few6 e l hel hll
  obtain ⟨b, hb⟩ : ∃ b, fewT e l = b := ⟨_, rfl⟩
  rw [hb] at fw
  cases b with
  | false =>
    refine calls_go (nt := 67) (rs := [.tmp 6]) Tryd.func7 rfl rfl rfl (by simp) (by intro id h; simp at h <;> omega) ?_; intro Q hQ hW
    repeat' (first
    | (with_reducible refine run_n ?_; with_reducible first | refine hK _ _ (by simp) ?_ | refine hK _ _ ?_; clear hK K)
    | (refine zzc ?_)
    | (with_reducible refine awp_regT (by kernel_rfl) ?_; intro K hK)
    | (with_reducible refine awp_regCM (id := 5) [(7, some 7), (10, some 10), (49, some 12), (56, some 12), (63, some 12)] [(7, some 7), (10, some 10), (49, some 12), (54, none), (56, some 12), (61, none), (62, none), (63, some 12), (64, none)] mixed (by kernel_rfl) (by kernel_rfl) (by kernel_rfl) ?_; intro K hK)
    | (with_reducible refine a_cond (ht := ?_) (hf := ?_) <;> intro hb <;> (try simp at hb) <;> (try contradiction) <;> (try subst hb) <;> (try omega))
    | (with_reducible first | refine a_move (hr:=?_) | refine a_assign (hr:=?_) | refine a_load (hr:=?_) | refine a_fieldAddr (hr:=?_) | refine a_bin (hr:=?_) | refine a_extract (hr:=?_) | refine a_pick (hr:=?_) | refine a_un (hr:=?_) | refine a_store (hr:=?_) | refine a_alloc (hr:=?_) | refine a_eqI (hr:=?_) | refine a_neI (hr:=?_) | refine a_eqB (hr:=?_) | refine a_neB (hr:=?_) | refine a_eqS (hr:=?_) | refine a_neS (hr:=?_) | refine a_call0 (hcall := c_live6) (hr:=?_) | refine a_callF (hcall := fw) (hr:=?_) | refine a_gT (hr:=?_) | refine a_gF (hr:=?_) | refine a_gU (hr:=?_))
    | (with_reducible refine a_gB (hT := ?_) (hF := ?_) <;> intro hb <;> (try simp at hb) <;> (try contradiction) <;> (try subst hb) <;> (try omega))
    | fail)
    all_goals ((refine zzr hQ ?_))
    all_goals (exact Fin.drop (by simp; exact .r) (by simp))
  | true =>
    have ok := few_ok hb hi hv
    have oe := ok.e
    have ol := ok.l
    have q1 := c_Of e l fuel ok.t (by omega) ok.v (by omega) hfu
    have q2 := c_rOf6 e l fuel ok.t (by omega) ok.v (by omega) hfu
    generalize ofE6 e l fuel = r at q1 q2
    obtain ⟨⟨k, n, s⟩, f, x⟩ := r
    clear hb ok
    have key0 : ∀ (x : E6), x.ev = none → x.re = ⟨false, [], 0, false, ⟨#[]⟩, ⟨#[]⟩⟩ → CallD Tryd.prog 18 [.sl 5 (e.map termAV), .sl 4 (l.map varAV), .raw (.int .i64 fuel)] noHeap (.tup [valAV k n s, .raw (.int .i64 f), errO x.ev]) noHeap → CallD Tryd.prog 22 [.sl 5 (e.map termAV), .sl 4 (l.map varAV), .raw (.int .i64 fuel)] noHeap (.tup [valAV k n s, .raw (.int .i64 f), RE.av x.re]) noHeap → CallD Tryd.prog 7 [.sl 5 (e.map termAV), .sl 4 (l.map varAV), .raw (.int .i64 fuel)] noHeap (.raw (.bool true)) noHeap := by
      intro x h1 h2 q1 q2
      rw [h1] at q1
      rw [h2] at q2
      have a1 : CallD Tryd.prog 19 [.raw .nilIface] noHeap (.raw (.int .i64 0)) noHeap := c_FCode none
      have a2 : CallD Tryd.prog 24 [.raw .nilIface] noHeap (.sl 1 []) noHeap := c_FTrail none (by decide)
      have a3 : CallD Tryd.prog 23 [.sl 1 [], .raw (.slice none 0 0)] noHeap (.raw (.bool true)) noHeap := CallD.nil2s (c_RSame [] [] (by decide) (by decide))
      simp only [errO_none, RE.av, plAV_nil] at q1 q2
      refine calls_go (nt := 67) (rs := [.tmp 6]) Tryd.func7 rfl rfl rfl (by simp) (by intro id h; simp at h <;> omega) ?_; intro Q hQ hW
      repeat' (first
    | (with_reducible refine run_n ?_; with_reducible first | refine hK _ _ (by simp) ?_ | refine hK _ _ ?_; clear hK K)
    | (refine zzc ?_)
    | (with_reducible refine awp_regT (by kernel_rfl) ?_; intro K hK)
    | (with_reducible refine awp_regCM (id := 5) [(7, some 7), (10, some 10), (49, some 12), (56, some 12), (63, some 12)] [(7, some 7), (10, some 10), (49, some 12), (54, none), (56, some 12), (61, none), (62, none), (63, some 12), (64, none)] mixed (by kernel_rfl) (by kernel_rfl) (by kernel_rfl) ?_; intro K hK)
    | (with_reducible refine a_cond (ht := ?_) (hf := ?_) <;> intro hb <;> (try simp at hb) <;> (try contradiction) <;> (try subst hb) <;> (try omega))
    | (with_reducible first | refine a_move (hr:=?_) | refine a_assign (hr:=?_) | refine a_load (hr:=?_) | refine a_fieldAddr (hr:=?_) | refine a_bin (hr:=?_) | refine a_extract (hr:=?_) | refine a_pick (hr:=?_) | refine a_un (hr:=?_) | refine a_store (hr:=?_) | refine a_alloc (hr:=?_) | refine a_eqI (hr:=?_) | refine a_neI (hr:=?_) | refine a_eqB (hr:=?_) | refine a_neB (hr:=?_) | refine a_eqS (hr:=?_) | refine a_neS (hr:=?_) | refine a_call0 (hcall := c_live6) (hr:=?_) | refine a_callF (hcall := fw) (hr:=?_) | refine a_callF (hcall := q1) (hr:=?_) | refine a_callF (hcall := q2) (hr:=?_) | refine a_callF (hcall := a1) (hr:=?_) | refine a_callF (hcall := a2) (hr:=?_) | refine a_callF (hcall := a3) (hr:=?_) | refine a_gT (hr:=?_) | refine a_gF (hr:=?_) | refine a_gU (hr:=?_))
    | (with_reducible refine a_gB (hT := ?_) (hF := ?_) <;> intro hb <;> (try simp at hb) <;> (try contradiction) <;> (try subst hb) <;> (try omega))
    | fail)
      all_goals ((refine zzr hQ ?_))
      all_goals (exact Fin.drop (by simp; exact .r) (by simp))
    cases x with
    | ok => exact key0 .ok rfl rfl q1 q2
    | code c =>
      by_cases hc : c = 0
      · subst hc
        exact key0 (.code 0) rfl rfl q1 q2
      · clear key0
        have he : ofE c = some (.code c) := by unfold ofE; rw [if_neg hc]
        have a1 : CallD Tryd.prog 19 [errAV (.code c)] noHeap (.raw (.int .i64 c)) noHeap := c_FCode (some (.code c))
        have a2 : CallD Tryd.prog 24 [errAV (.code c)] noHeap (.sl 1 []) noHeap := c_FTrail (some (.code c)) (by simp [trailE, placesE])
        have a3 : CallD Tryd.prog 23 [.sl 1 [], .raw (.slice none 0 0)] noHeap (.raw (.bool true)) noHeap := CallD.nil2s (c_RSame [] [] (by decide) (by decide))
        rw [re_code hc] at q2
        simp only [E6.ev, he, errO_some, RE.av, plAV_nil] at q1 q2
        refine calls_go (nt := 67) (rs := [.tmp 6]) Tryd.func7 rfl rfl rfl (by simp) (by intro id h; simp at h <;> omega) ?_; intro Q hQ hW
        repeat' (first
    | (with_reducible refine run_n ?_; with_reducible first | refine hK _ _ (by simp) ?_ | refine hK _ _ ?_; clear hK K)
    | (refine zzc ?_)
    | (with_reducible refine awp_regT (by kernel_rfl) ?_; intro K hK)
    | (with_reducible refine awp_regCM (id := 5) [(7, some 7), (10, some 10), (49, some 12), (56, some 12), (63, some 12)] [(7, some 7), (10, some 10), (49, some 12), (54, none), (56, some 12), (61, none), (62, none), (63, some 12), (64, none)] mixed (by kernel_rfl) (by kernel_rfl) (by kernel_rfl) ?_; intro K hK)
    | (with_reducible refine a_cond (ht := ?_) (hf := ?_) <;> intro hb <;> (try simp at hb) <;> (try contradiction) <;> (try subst hb) <;> (try omega))
    | (with_reducible first | refine a_move (hr:=?_) | refine a_assign (hr:=?_) | refine a_load (hr:=?_) | refine a_fieldAddr (hr:=?_) | refine a_bin (hr:=?_) | refine a_extract (hr:=?_) | refine a_pick (hr:=?_) | refine a_un (hr:=?_) | refine a_store (hr:=?_) | refine a_alloc (hr:=?_) | refine a_eqI (hr:=?_) | refine a_neI (hr:=?_) | refine a_eqB (hr:=?_) | refine a_neB (hr:=?_) | refine a_eqS (hr:=?_) | refine a_neS (hr:=?_) | refine a_call0 (hcall := c_live6) (hr:=?_) | refine a_callF (hcall := fw) (hr:=?_) | refine a_callF (hcall := q1) (hr:=?_) | refine a_callF (hcall := q2) (hr:=?_) | refine a_callF (hcall := a1) (hr:=?_) | refine a_callF (hcall := a2) (hr:=?_) | refine a_callF (hcall := a3) (hr:=?_) | refine a_gT (hr:=?_) | refine a_gF (hr:=?_) | refine a_gU (hr:=?_))
    | (with_reducible refine a_gB (hT := ?_) (hF := ?_) <;> intro hb <;> (try simp at hb) <;> (try contradiction) <;> (try subst hb) <;> (try omega))
    | fail)
        all_goals ((refine zzr hQ ?_))
        all_goals (exact Fin.drop (by simp; exact .r) (by simp))
    | unset m =>
      clear key0
      have a1 : CallD Tryd.prog 19 [errAV (.wrap m (.code 61))] noHeap (.raw (.int .i64 61)) noHeap := c_FCode (some (.wrap m (.code 61)))
      have a2 : CallD Tryd.prog 24 [errAV (.wrap m (.code 61))] noHeap (.sl 1 [.raw (.string m)]) noHeap := c_FTrail (some (.wrap m (.code 61))) (by simp [trailE, placesE])
      have a3 : CallD Tryd.prog 23 [.sl 1 [.raw (.string m)], .sl 1 [.raw (.string m)]] noHeap (.raw (.bool true)) noHeap := by
        have := c_RSame [m] [m] (by simp) (by simp)
        rw [decide_eq_true rfl] at this
        exact this
      simp only [re_unset] at q2
      simp only [E6.ev, errO_some, RE.av, plAV_cons] at q1 q2
      have e1 : strs [m] = [.raw (.string m)] := rfl
      rw [e1] at q2
      refine calls_go (nt := 67) (rs := [.tmp 6]) Tryd.func7 rfl rfl rfl (by simp) (by intro id h; simp at h <;> omega) ?_; intro Q hQ hW
      repeat' (first
    | (with_reducible refine run_n ?_; with_reducible first | refine hK _ _ (by simp) ?_ | refine hK _ _ ?_; clear hK K)
    | (refine zzc ?_)
    | (with_reducible refine awp_regT (by kernel_rfl) ?_; intro K hK)
    | (with_reducible refine awp_regCM (id := 5) [(7, some 7), (10, some 10), (49, some 12), (56, some 12), (63, some 12)] [(7, some 7), (10, some 10), (49, some 12), (54, none), (56, some 12), (61, none), (62, none), (63, some 12), (64, none)] mixed (by kernel_rfl) (by kernel_rfl) (by kernel_rfl) ?_; intro K hK)
    | (with_reducible refine a_cond (ht := ?_) (hf := ?_) <;> intro hb <;> (try simp at hb) <;> (try contradiction) <;> (try subst hb) <;> (try omega))
    | (with_reducible first | refine a_move (hr:=?_) | refine a_assign (hr:=?_) | refine a_load (hr:=?_) | refine a_fieldAddr (hr:=?_) | refine a_bin (hr:=?_) | refine a_extract (hr:=?_) | refine a_pick (hr:=?_) | refine a_un (hr:=?_) | refine a_store (hr:=?_) | refine a_alloc (hr:=?_) | refine a_eqI (hr:=?_) | refine a_neI (hr:=?_) | refine a_eqB (hr:=?_) | refine a_neB (hr:=?_) | refine a_eqS (hr:=?_) | refine a_neS (hr:=?_) | refine a_call0 (hcall := c_live6) (hr:=?_) | refine a_callF (hcall := fw) (hr:=?_) | refine a_callF (hcall := q1) (hr:=?_) | refine a_callF (hcall := q2) (hr:=?_) | refine a_callF (hcall := a1) (hr:=?_) | refine a_callF (hcall := a2) (hr:=?_) | refine a_callF (hcall := a3) (hr:=?_) | refine a_gT (hr:=?_) | refine a_gF (hr:=?_) | refine a_gU (hr:=?_))
    | (with_reducible refine a_gB (hT := ?_) (hF := ?_) <;> intro hb <;> (try simp at hb) <;> (try contradiction) <;> (try subst hb) <;> (try omega))
    | fail)
      all_goals ((refine zzr hQ ?_))
      all_goals (exact Fin.drop (by simp; exact .r) (by simp))
def tof (x : Int × (Int × Int × ByteArray) × ByteArray) : TermV := ⟨x.1, x.2.1.1, x.2.1.2.1, x.2.1.2.2, x.2.2⟩
theorem map_tof (l : List (Int × (Int × Int × ByteArray) × ByteArray)) : (l.map tof).map termAV = l.map fun x => termAV (tof x) := by simp
theorem row_EvalOf (e : List (Int × (Int × Int × ByteArray) × ByteArray)) (l : List (ByteArray × Int × Int × ByteArray)) (fuel : Int) (hel : e.length < 9223372036854775808) (hll : l.length < 9223372036854775808) (hi : ∀ x ∈ e, inR x.2.1.2.1) (hv : ∀ x ∈ l, inR x.2.2.1) (hfu : inR fuel) : CallD Tryd.prog 7 [.sl 5 (e.map fun x => termAV (tof x)), .sl 4 (l.map fun x => varAV (vof x)), .raw (.int .i64 fuel)] noHeap (.raw (.bool true)) noHeap := by
  have := law_EvalOf (e.map tof) (l.map vof) fuel (by simpa using hel) (by simpa using hll) (fun t ht => by
    obtain ⟨x, hx, rfl⟩ := List.mem_map.1 ht
    exact hi x hx) (fun t ht => by
    obtain ⟨x, hx, rfl⟩ := List.mem_map.1 ht
    exact hv x hx) hfu
  rwa [map_tof, map_vof] at this
end Go.Proofs.YtjbbnollidcagaaDoor.Asl

