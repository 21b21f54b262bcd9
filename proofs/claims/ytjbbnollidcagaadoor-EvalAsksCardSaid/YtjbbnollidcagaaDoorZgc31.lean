/- Part 31 of what the row leans on: abstract values and states, their rules, and the contracts of the functions. -/
import Derived.Test.YtjbbnollidcagaaDoorZgc30
namespace Go.Proofs.YtjbbnollidcagaaDoor.Asl
open Go Go.RowKit
set_option linter.unusedVariables false
set_option linter.unusedSimpArgs false
set_option maxRecDepth 100000
set_option maxHeartbeats 4000000
theorem c_brackets (t x : TermV) (r : Bool) (ht : 0 ≤ t.op ∧ t.op ≤ 18) (hx : 0 ≤ x.op ∧ x.op ≤ 18) : CallD Tryd.prog 82 [termAV t, termAV x, .raw (.bool r)] noHeap (.raw (.bool (brB t.op x.op r))) noHeap := by
  have q1 := c_rstrength t.op ht
  have q2 := c_rstrength x.op hx
  unfold brB
  obtain ⟨op, k, v, s, n⟩ := t
  obtain ⟨xp, xk, xv, xs, xn⟩ := x
  simp only at ht hx q1 q2 ⊢
  generalize rstrE op = a at q1 ⊢
  generalize rstrE xp = b at q2 ⊢
  by_cases h5 : op = 5 ∨ b = 9
  · rw [if_pos h5]
    refine zzg (nt := 41) (rs := [.tmp 6]) Tryd.func82 ?_; intro Q hQ hW
    repeat' (first
 | (with_reducible refine run_n ?_; with_reducible first | refine hK _ _ (by simp) ?_ | refine hK _ _ ?_; clear hK K)
 | (refine zzc ?_)
 | (with_reducible refine awp_regT (by kernel_rfl) ?_; intro K hK)
 | (with_reducible refine awp_regCM (id := 1) [(9, some 3), (12, some 4)] [(9, some 3), (10, none), (12, some 4), (13, none)] mixed (by kernel_rfl) (by kernel_rfl) (by kernel_rfl) ?_; intro K hK)
 | (with_reducible refine a_cond (ht := ?_) (hf := ?_) <;> intro hb <;> (try simp at hb) <;> (try contradiction) <;> (try subst hb) <;> (try omega))
 | (with_reducible first | refine a_move (hr:=?_) | refine a_assign (hr:=?_) | refine a_load (hr:=?_) | refine a_fieldAddr (hr:=?_) | refine a_bin (hr:=?_) | refine a_pick (hr:=?_) | refine a_box (hr:=?_) | refine a_eqB (hr:=?_) | refine a_eqS (hr:=?_) | refine a_call0 (hcall := q1) (hr:=?_) | refine a_call0 (hcall := q2) (hr:=?_) | refine a_gT (hr:=?_) | refine a_gF (hr:=?_) | refine a_gU (hr:=?_))
 | (with_reducible refine a_gB (hT := ?_) (hF := ?_) <;> intro hb <;> (try simp at hb) <;> (try contradiction) <;> (try subst hb) <;> (try omega))
 | fail)
    all_goals first
      | (exfalso; omega)
      | ((refine zzr hQ ?_); exact zzd)
  rw [if_neg h5]
  by_cases h9 : a = 9
  · rw [if_pos h9]
    refine zzg (nt := 41) (rs := [.tmp 6]) Tryd.func82 ?_; intro Q hQ hW
    repeat' (first
 | (with_reducible refine run_n ?_; with_reducible first | refine hK _ _ (by simp) ?_ | refine hK _ _ ?_; clear hK K)
 | (refine zzc ?_)
 | (with_reducible refine awp_regT (by kernel_rfl) ?_; intro K hK)
 | (with_reducible refine awp_regCM (id := 1) [(9, some 3), (12, some 4)] [(9, some 3), (10, none), (12, some 4), (13, none)] mixed (by kernel_rfl) (by kernel_rfl) (by kernel_rfl) ?_; intro K hK)
 | (with_reducible refine a_cond (ht := ?_) (hf := ?_) <;> intro hb <;> (try simp at hb) <;> (try contradiction) <;> (try subst hb) <;> (try omega))
 | (with_reducible first | refine a_move (hr:=?_) | refine a_assign (hr:=?_) | refine a_load (hr:=?_) | refine a_fieldAddr (hr:=?_) | refine a_bin (hr:=?_) | refine a_pick (hr:=?_) | refine a_box (hr:=?_) | refine a_eqB (hr:=?_) | refine a_eqS (hr:=?_) | refine a_call0 (hcall := q1) (hr:=?_) | refine a_call0 (hcall := q2) (hr:=?_) | refine a_gT (hr:=?_) | refine a_gF (hr:=?_) | refine a_gU (hr:=?_))
 | (with_reducible refine a_gB (hT := ?_) (hF := ?_) <;> intro hb <;> (try simp at hb) <;> (try contradiction) <;> (try subst hb) <;> (try omega))
 | fail)
    all_goals first
      | (exfalso; omega)
      | ((refine zzr hQ ?_); exact zzd)
  rw [if_neg h9]
  by_cases hlt : b < a
  · rw [decide_eq_true hlt, Bool.true_or]
    refine zzg (nt := 41) (rs := [.tmp 6]) Tryd.func82 ?_; intro Q hQ hW
    repeat' (first
 | (with_reducible refine run_n ?_; with_reducible first | refine hK _ _ (by simp) ?_ | refine hK _ _ ?_; clear hK K)
 | (refine zzc ?_)
 | (with_reducible refine awp_regT (by kernel_rfl) ?_; intro K hK)
 | (with_reducible refine awp_regCM (id := 1) [(9, some 3), (12, some 4)] [(9, some 3), (10, none), (12, some 4), (13, none)] mixed (by kernel_rfl) (by kernel_rfl) (by kernel_rfl) ?_; intro K hK)
 | (with_reducible refine a_cond (ht := ?_) (hf := ?_) <;> intro hb <;> (try simp at hb) <;> (try contradiction) <;> (try subst hb) <;> (try omega))
 | (with_reducible first | refine a_move (hr:=?_) | refine a_assign (hr:=?_) | refine a_load (hr:=?_) | refine a_fieldAddr (hr:=?_) | refine a_bin (hr:=?_) | refine a_pick (hr:=?_) | refine a_box (hr:=?_) | refine a_eqB (hr:=?_) | refine a_eqS (hr:=?_) | refine a_call0 (hcall := q1) (hr:=?_) | refine a_call0 (hcall := q2) (hr:=?_) | refine a_gT (hr:=?_) | refine a_gF (hr:=?_) | refine a_gU (hr:=?_))
 | (with_reducible refine a_gB (hT := ?_) (hF := ?_) <;> intro hb <;> (try simp at hb) <;> (try contradiction) <;> (try subst hb) <;> (try omega))
 | fail)
    all_goals first
      | (exfalso; omega)
      | ((refine zzr hQ ?_); exact zzd)
  rw [decide_eq_false hlt, Bool.false_or]
  by_cases heq : b = a
  · rw [decide_eq_true heq, Bool.true_and]
    cases r with
    | true =>
      rw [Bool.true_or]
      refine zzg (nt := 41) (rs := [.tmp 6]) Tryd.func82 ?_; intro Q hQ hW
      repeat' (first
 | (with_reducible refine run_n ?_; with_reducible first | refine hK _ _ (by simp) ?_ | refine hK _ _ ?_; clear hK K)
 | (refine zzc ?_)
 | (with_reducible refine awp_regT (by kernel_rfl) ?_; intro K hK)
 | (with_reducible refine awp_regCM (id := 1) [(9, some 3), (12, some 4)] [(9, some 3), (10, none), (12, some 4), (13, none)] mixed (by kernel_rfl) (by kernel_rfl) (by kernel_rfl) ?_; intro K hK)
 | (with_reducible refine a_cond (ht := ?_) (hf := ?_) <;> intro hb <;> (try simp at hb) <;> (try contradiction) <;> (try subst hb) <;> (try omega))
 | (with_reducible first | refine a_move (hr:=?_) | refine a_assign (hr:=?_) | refine a_load (hr:=?_) | refine a_fieldAddr (hr:=?_) | refine a_bin (hr:=?_) | refine a_pick (hr:=?_) | refine a_box (hr:=?_) | refine a_eqB (hr:=?_) | refine a_eqS (hr:=?_) | refine a_call0 (hcall := q1) (hr:=?_) | refine a_call0 (hcall := q2) (hr:=?_) | refine a_gT (hr:=?_) | refine a_gF (hr:=?_) | refine a_gU (hr:=?_))
 | (with_reducible refine a_gB (hT := ?_) (hF := ?_) <;> intro hb <;> (try simp at hb) <;> (try contradiction) <;> (try subst hb) <;> (try omega))
 | fail)
      all_goals first
        | (exfalso; omega)
        | ((refine zzr hQ ?_); exact zzd)
    | false =>
      rw [Bool.false_or]
      refine zzg (nt := 41) (rs := [.tmp 6]) Tryd.func82 ?_; intro Q hQ hW
      repeat' (first
 | (with_reducible refine run_n ?_; with_reducible first | refine hK _ _ (by simp) ?_ | refine hK _ _ ?_; clear hK K)
 | (refine zzc ?_)
 | (with_reducible refine awp_regT (by kernel_rfl) ?_; intro K hK)
 | (with_reducible refine awp_regCM (id := 1) [(9, some 3), (12, some 4)] [(9, some 3), (10, none), (12, some 4), (13, none)] mixed (by kernel_rfl) (by kernel_rfl) (by kernel_rfl) ?_; intro K hK)
 | (with_reducible refine a_cond (ht := ?_) (hf := ?_) <;> intro hb <;> (try simp at hb) <;> (try contradiction) <;> (try subst hb) <;> (try omega))
 | (with_reducible first | refine a_move (hr:=?_) | refine a_assign (hr:=?_) | refine a_load (hr:=?_) | refine a_fieldAddr (hr:=?_) | refine a_bin (hr:=?_) | refine a_pick (hr:=?_) | refine a_box (hr:=?_) | refine a_eqB (hr:=?_) | refine a_eqS (hr:=?_) | refine a_call0 (hcall := q1) (hr:=?_) | refine a_call0 (hcall := q2) (hr:=?_) | refine a_gT (hr:=?_) | refine a_gF (hr:=?_) | refine a_gU (hr:=?_))
 | (with_reducible refine a_gB (hT := ?_) (hF := ?_) <;> intro hb <;> (try simp at hb) <;> (try contradiction) <;> (try subst hb) <;> (try omega))
 | fail)
      all_goals first
        | (exfalso; omega)
        | ((refine zzr hQ ?_); exact zzd)
  · rw [decide_eq_false heq, Bool.false_and]
    refine zzg (nt := 41) (rs := [.tmp 6]) Tryd.func82 ?_; intro Q hQ hW
    repeat' (first
 | (with_reducible refine run_n ?_; with_reducible first | refine hK _ _ (by simp) ?_ | refine hK _ _ ?_; clear hK K)
 | (refine zzc ?_)
 | (with_reducible refine awp_regT (by kernel_rfl) ?_; intro K hK)
 | (with_reducible refine awp_regCM (id := 1) [(9, some 3), (12, some 4)] [(9, some 3), (10, none), (12, some 4), (13, none)] mixed (by kernel_rfl) (by kernel_rfl) (by kernel_rfl) ?_; intro K hK)
 | (with_reducible refine a_cond (ht := ?_) (hf := ?_) <;> intro hb <;> (try simp at hb) <;> (try contradiction) <;> (try subst hb) <;> (try omega))
 | (with_reducible first | refine a_move (hr:=?_) | refine a_assign (hr:=?_) | refine a_load (hr:=?_) | refine a_fieldAddr (hr:=?_) | refine a_bin (hr:=?_) | refine a_pick (hr:=?_) | refine a_box (hr:=?_) | refine a_eqB (hr:=?_) | refine a_eqS (hr:=?_) | refine a_call0 (hcall := q1) (hr:=?_) | refine a_call0 (hcall := q2) (hr:=?_) | refine a_gT (hr:=?_) | refine a_gF (hr:=?_) | refine a_gU (hr:=?_))
 | (with_reducible refine a_gB (hT := ?_) (hF := ?_) <;> intro hb <;> (try simp at hb) <;> (try contradiction) <;> (try subst hb) <;> (try omega))
 | fail)
    all_goals first
      | (exfalso; omega)
      | ((refine zzr hQ ?_); exact zzd)
/-- Where a tree's terms begin. -/
theorem c_begin (e : List TermV) (hl : e.length ≤ 1000) : ∀ (T : Tr) (pre post : List TermV) (i : Nat), T.ok → e = pre ++ T.flat ++ post → i + 1 = pre.length + T.flat.length → CallD Tryd.prog 70 [.sl 5 (e.map termAV), .raw (.int .i64 i)] noHeap (.raw (.int .i64 pre.length)) noHeap
  | .nul t, pre, post, i, hok, he, hi => by
    have hop := ownE_op hok.1
    have q1 := c_rtakes t.op hop
    rw [hok.2] at q1
    have hx : e[i]? = some t := by
      have := Tr.flat_last (.nul t)
      simp only [Tr.flat, List.length_singleton] at hi this
      rw [he, show i = pre.length by omega]; simp [Tr.flat]
    have hii : i = pre.length := by simp only [Tr.flat, List.length_singleton] at hi; omega
    have hie : i < e.length := (List.getElem?_eq_some_iff.1 hx).1
    rw [← hii]
    clear he hi hii hok
    obtain ⟨op, k, v, s, n⟩ := t
    refine zzg (nt := 21) (rs := [.tmp 4]) Tryd.func70 ?_; intro Q hQ hW
    repeat' (first
 | (with_reducible refine run_n ?_; with_reducible first | refine hK _ _ (by simp) ?_ | refine hK _ _ ?_; clear hK K)
 | (refine zzc ?_)
 | (with_reducible refine awp_regT (by kernel_rfl) ?_; intro K hK)
 | (with_reducible refine a_cond (ht := ?_) (hf := ?_) <;> intro hb <;> (try simp at hb) <;> (try contradiction) <;> (try subst hb) <;> (try omega))
 | (with_reducible first | refine a_move (hr:=?_) | refine a_assign (hr:=?_) | refine a_load (hr:=?_) | refine a_fieldAddr (hr:=?_) | refine a_bin (hr:=?_) | refine a_idxArr (hr:=?_) | refine a_indexAddr (hr:=?_) | refine a_call0 (hcall := q1) (hr:=?_))
 | fail)
    refine awp_inv (α := Nat) (fun k => [(1, .raw (.int .i64 i)), (5, .raw (.int .i64 0))]) (fun _ => hpL []) (fun k => True) (fun k => k) 0 trivial (zzw) ?_
    intro k _
    repeat' (first
 | (with_reducible refine run_n ?_; with_reducible first | refine hK _ _ (by simp) ?_ | refine hK _ _ ?_; clear hK K)
 | (refine zzc ?_)
 | (with_reducible refine awp_regT (by kernel_rfl) ?_; intro K hK)
 | (with_reducible refine a_cond (ht := ?_) (hf := ?_) <;> intro hb <;> (try simp at hb) <;> (try contradiction) <;> (try subst hb) <;> (try omega))
 | (with_reducible first | refine a_move (hr:=?_) | refine a_assign (hr:=?_) | refine a_load (hr:=?_) | refine a_fieldAddr (hr:=?_) | refine a_bin (hr:=?_) | refine a_idxArr (hr:=?_) | refine a_indexAddr (hr:=?_))
 | fail)
    all_goals ((refine zzr hQ ?_))
    all_goals (exact zzd)
  | .un t a, pre, post, i, hok, he, hi => by
    have hop := ownE_op hok.1.1
    have q1 := c_rtakes t.op hop
    rw [hok.1.2] at q1
    have hf := a.flat_ne
    simp only [Tr.flat, List.length_append, List.length_singleton] at hi
    have hx : e[i]? = some t := by rw [he, show i = pre.length + a.flat.length by omega]; simp [Tr.flat]
    have hie : i < e.length := (List.getElem?_eq_some_iff.1 hx).1
    have ih := c_begin e hl a pre ([t] ++ post) (i - 1) hok.2 (by rw [he]; simp [Tr.flat]) (by omega)
    rw [show ((i - 1 : Nat) : Int) = (i : Int) - 1 by omega] at ih
    have hi1 : 1 ≤ i := by omega
    have hpl : pre.length ≤ 1000 := by omega
    generalize pre.length = m at ih hpl ⊢
    clear he hi hok
    obtain ⟨op, k, v, s, n⟩ := t
    refine zzg (nt := 21) (rs := [.tmp 4]) Tryd.func70 ?_; intro Q hQ hW
    repeat' (first
 | (with_reducible refine run_n ?_; with_reducible first | refine hK _ _ (by simp) ?_ | refine hK _ _ ?_; clear hK K)
 | (refine zzc ?_)
 | (with_reducible refine awp_regT (by kernel_rfl) ?_; intro K hK)
 | (with_reducible refine a_cond (ht := ?_) (hf := ?_) <;> intro hb <;> (try simp at hb) <;> (try contradiction) <;> (try subst hb) <;> (try omega))
 | (with_reducible first | refine a_move (hr:=?_) | refine a_assign (hr:=?_) | refine a_load (hr:=?_) | refine a_fieldAddr (hr:=?_) | refine a_bin (hr:=?_) | refine a_idxArr (hr:=?_) | refine a_indexAddr (hr:=?_) | refine a_call0 (hcall := q1) (hr:=?_))
 | fail)
    refine awp_inv (α := Nat) (fun k => [(0, .sl 5 (e.map termAV)), (1, .raw (.int .i64 (if k = 1 then (i : Int) else m))), (5, .raw (.int .i64 k))]) (fun _ => hpL []) (fun k => k ≤ 1) (fun k => k) 1 (Nat.le_refl _) (zzw) ?_
    intro k hk
    rcases (show k = 1 ∨ k = 0 by omega) with rfl | rfl
    · simp only [if_true]
      repeat' (first
 | (with_reducible refine run_n ?_; with_reducible first | refine hK _ _ (by simp) ?_ | refine hK _ _ ?_; clear hK K)
 | (refine zzc ?_)
 | (with_reducible refine awp_regT (by kernel_rfl) ?_; intro K hK)
 | (with_reducible refine a_cond (ht := ?_) (hf := ?_) <;> intro hb <;> (try simp at hb) <;> (try contradiction) <;> (try subst hb) <;> (try omega))
 | (with_reducible first | refine a_move (hr:=?_) | refine a_assign (hr:=?_) | refine a_load (hr:=?_) | refine a_fieldAddr (hr:=?_) | refine a_bin (hr:=?_) | refine a_idxArr (hr:=?_) | refine a_indexAddr (hr:=?_) | refine a_callF (hcall := ih) (hr:=?_))
 | fail)
      exact ⟨0, by omega, by omega, zzw⟩
    · simp only [show ¬ (0 : Nat) = 1 by decide, if_false]
      repeat' (first
 | (with_reducible refine run_n ?_; with_reducible first | refine hK _ _ (by simp) ?_ | refine hK _ _ ?_; clear hK K)
 | (refine zzc ?_)
 | (with_reducible refine awp_regT (by kernel_rfl) ?_; intro K hK)
 | (with_reducible refine a_cond (ht := ?_) (hf := ?_) <;> intro hb <;> (try simp at hb) <;> (try contradiction) <;> (try subst hb) <;> (try omega))
 | (with_reducible first | refine a_move (hr:=?_) | refine a_assign (hr:=?_) | refine a_load (hr:=?_) | refine a_fieldAddr (hr:=?_) | refine a_bin (hr:=?_) | refine a_idxArr (hr:=?_) | refine a_indexAddr (hr:=?_))
 | fail)
      all_goals ((refine zzr hQ ?_))
      all_goals (exact zzd)
  | .bi t a b, pre, post, i, hok, he, hi => by
    have hop := ownE_op hok.1.1
    have q1 := c_rtakes t.op hop
    rw [hok.1.2] at q1
    have hfa := a.flat_ne
    have hfb := b.flat_ne
    simp only [Tr.flat, List.length_append, List.length_singleton] at hi
    have hx : e[i]? = some t := by rw [he, show i = pre.length + (a.flat.length + b.flat.length) by omega]; simp [Tr.flat]
    have hie : i < e.length := (List.getElem?_eq_some_iff.1 hx).1
    have i1 := c_begin e hl b (pre ++ a.flat) ([t] ++ post) (i - 1) hok.2.2 (by rw [he]; simp [Tr.flat]) (by rw [List.length_append]; omega)
    have i2 := c_begin e hl a pre (b.flat ++ ([t] ++ post)) (pre.length + a.flat.length - 1) hok.2.1 (by rw [he]; simp [Tr.flat]) (by omega)
    rw [List.length_append] at i1
    rw [show ((i - 1 : Nat) : Int) = (i : Int) - 1 by omega] at i1
    obtain ⟨w, hw⟩ : ∃ w, pre.length + a.flat.length = w := ⟨_, rfl⟩
    rw [hw] at i1 i2
    rw [show ((w - 1 : Nat) : Int) = (w : Int) - 1 by omega] at i2
    have hi1 : 1 ≤ i := by omega
    have hw1 : 1 ≤ w ∧ w ≤ 1000 := by omega
    have hpl : pre.length ≤ 1000 := by omega
    generalize pre.length = m at i2 hpl ⊢
    clear he hi hok hw
    obtain ⟨op, k, v, s, n⟩ := t
    refine zzg (nt := 21) (rs := [.tmp 4]) Tryd.func70 ?_; intro Q hQ hW
    repeat' (first
 | (with_reducible refine run_n ?_; with_reducible first | refine hK _ _ (by simp) ?_ | refine hK _ _ ?_; clear hK K)
 | (refine zzc ?_)
 | (with_reducible refine awp_regT (by kernel_rfl) ?_; intro K hK)
 | (with_reducible refine a_cond (ht := ?_) (hf := ?_) <;> intro hb <;> (try simp at hb) <;> (try contradiction) <;> (try subst hb) <;> (try omega))
 | (with_reducible first | refine a_move (hr:=?_) | refine a_assign (hr:=?_) | refine a_load (hr:=?_) | refine a_fieldAddr (hr:=?_) | refine a_bin (hr:=?_) | refine a_idxArr (hr:=?_) | refine a_indexAddr (hr:=?_) | refine a_call0 (hcall := q1) (hr:=?_))
 | fail)
    refine awp_inv (α := Nat) (fun k => [(0, .sl 5 (e.map termAV)), (1, .raw (.int .i64 (if k = 2 then (i : Int) else if k = 1 then (w : Int) else m))), (5, .raw (.int .i64 k))]) (fun _ => hpL []) (fun k => k ≤ 2) (fun k => k) 2 (Nat.le_refl _) (zzw) ?_
    intro k hk
    rcases (show k = 2 ∨ k = 1 ∨ k = 0 by omega) with rfl | rfl | rfl
    · simp only [if_true]
      repeat' (first
 | (with_reducible refine run_n ?_; with_reducible first | refine hK _ _ (by simp) ?_ | refine hK _ _ ?_; clear hK K)
 | (refine zzc ?_)
 | (with_reducible refine awp_regT (by kernel_rfl) ?_; intro K hK)
 | (with_reducible refine a_cond (ht := ?_) (hf := ?_) <;> intro hb <;> (try simp at hb) <;> (try contradiction) <;> (try subst hb) <;> (try omega))
 | (with_reducible first | refine a_move (hr:=?_) | refine a_assign (hr:=?_) | refine a_load (hr:=?_) | refine a_fieldAddr (hr:=?_) | refine a_bin (hr:=?_) | refine a_idxArr (hr:=?_) | refine a_indexAddr (hr:=?_) | refine a_callF (hcall := i1) (hr:=?_))
 | fail)
      exact ⟨1, by omega, by omega, zzw⟩
    · simp only [show ¬ (1 : Nat) = 2 by decide, if_false, if_true]
      repeat' (first
 | (with_reducible refine run_n ?_; with_reducible first | refine hK _ _ (by simp) ?_ | refine hK _ _ ?_; clear hK K)
 | (refine zzc ?_)
 | (with_reducible refine awp_regT (by kernel_rfl) ?_; intro K hK)
 | (with_reducible refine a_cond (ht := ?_) (hf := ?_) <;> intro hb <;> (try simp at hb) <;> (try contradiction) <;> (try subst hb) <;> (try omega))
 | (with_reducible first | refine a_move (hr:=?_) | refine a_assign (hr:=?_) | refine a_load (hr:=?_) | refine a_fieldAddr (hr:=?_) | refine a_bin (hr:=?_) | refine a_idxArr (hr:=?_) | refine a_indexAddr (hr:=?_) | refine a_callF (hcall := i2) (hr:=?_))
 | fail)
      exact ⟨0, by omega, by omega, zzw⟩
    · simp only [show ¬ (0 : Nat) = 2 by decide, show ¬ (0 : Nat) = 1 by decide, if_false]
      repeat' (first
 | (with_reducible refine run_n ?_; with_reducible first | refine hK _ _ (by simp) ?_ | refine hK _ _ ?_; clear hK K)
 | (refine zzc ?_)
 | (with_reducible refine awp_regT (by kernel_rfl) ?_; intro K hK)
 | (with_reducible refine a_cond (ht := ?_) (hf := ?_) <;> intro hb <;> (try simp at hb) <;> (try contradiction) <;> (try subst hb) <;> (try omega))
 | (with_reducible first | refine a_move (hr:=?_) | refine a_assign (hr:=?_) | refine a_load (hr:=?_) | refine a_fieldAddr (hr:=?_) | refine a_bin (hr:=?_) | refine a_idxArr (hr:=?_) | refine a_indexAddr (hr:=?_))
 | fail)
      all_goals ((refine zzr hQ ?_))
      all_goals (exact zzd)
/-- A part, as it is held. -/
def hldE (p : Pc) (b : Bool) : Pc := if b = true then ⟨⟨#[40]⟩ ++ p.s ++ ⟨#[41]⟩, 6, p.deep + 1⟩ else p
theorem c_rheld (e : List TermV) (t x : TermV) (i : Nat) (r : Bool) (p : Pc) (hl : e.length ≤ 1000) (ht : 0 ≤ t.op ∧ t.op ≤ 18) (hxo : 0 ≤ x.op ∧ x.op ≤ 18) (hx : e[i]? = some x) (hs : p.s.size ≤ 1000000) (hd : 0 ≤ p.deep ∧ p.deep ≤ 1000000)
    (hp : CallD Tryd.prog 46 [.sl 5 (e.map termAV), .raw (.int .i64 i)] noHeap (.tup [.raw (.string p.s), .raw (.int .i64 p.deep)]) noHeap) :
    CallD Tryd.prog 68 [.sl 5 (e.map termAV), termAV t, .raw (.int .i64 i), .raw (.bool r)] noHeap (.tup [.raw (.string (hldE p (brB t.op x.op r)).s), .raw (.int .i64 (hldE p (brB t.op x.op r)).deep)]) noHeap := by
  have q1 := c_brackets t x r ht hxo
  have hie : i < e.length := (List.getElem?_eq_some_iff.1 hx).1
  generalize brB t.op x.op r = b at q1 ⊢
  obtain ⟨s, str, dp⟩ := p
  obtain ⟨op, k, v, ts, n⟩ := t
  obtain ⟨xp, xk, xv, xs, xn⟩ := x
  simp only at hs hd hp ht
  unfold hldE
  cases b with
  | true =>
    simp only [if_true]
    refine zzg (nt := 32) (rs := [.tmp 8, .tmp 9]) Tryd.func68 ?_; intro Q hQ hW
    repeat' (first
 | (with_reducible refine run_n ?_; with_reducible first | refine hK _ _ (by simp) ?_ | refine hK _ _ ?_; clear hK K)
 | (refine zzc ?_)
 | (with_reducible refine awp_regT (by kernel_rfl) ?_; intro K hK)
 | (with_reducible refine awp_regCM (id := 2) [(5, some 5)] [(5, some 5), (18, none), (21, none), (22, none), (23, none)] mixed (by kernel_rfl) (by kernel_rfl) (by kernel_rfl) ?_; intro K hK)
 | (with_reducible refine a_cond (ht := ?_) (hf := ?_) <;> intro hb <;> (try simp at hb) <;> (try contradiction) <;> (try subst hb) <;> (try omega))
 | (with_reducible first | refine a_move (hr:=?_) | refine a_assign (hr:=?_) | refine a_load (hr:=?_) | refine a_bin (hr:=?_) | refine a_extract (hr:=?_) | refine a_box (hr:=?_) | refine a_idxArr (hr:=?_) | refine a_indexAddr (hr:=?_) | refine a_callF (hcall := hp) (hr:=?_) | refine a_call0 (hcall := q1) (hr:=?_))
 | fail)
    all_goals ((refine zzr hQ ?_))
    all_goals (exact zzd)
  | false =>
    simp only [Bool.false_eq_true, if_false]
    refine zzg (nt := 32) (rs := [.tmp 8, .tmp 9]) Tryd.func68 ?_; intro Q hQ hW
    repeat' (first
 | (with_reducible refine run_n ?_; with_reducible first | refine hK _ _ (by simp) ?_ | refine hK _ _ ?_; clear hK K)
 | (refine zzc ?_)
 | (with_reducible refine awp_regT (by kernel_rfl) ?_; intro K hK)
 | (with_reducible refine awp_regCM (id := 2) [(5, some 5)] [(5, some 5), (18, none), (21, none), (22, none), (23, none)] mixed (by kernel_rfl) (by kernel_rfl) (by kernel_rfl) ?_; intro K hK)
 | (with_reducible refine a_cond (ht := ?_) (hf := ?_) <;> intro hb <;> (try simp at hb) <;> (try contradiction) <;> (try subst hb) <;> (try omega))
 | (with_reducible first | refine a_move (hr:=?_) | refine a_assign (hr:=?_) | refine a_load (hr:=?_) | refine a_bin (hr:=?_) | refine a_extract (hr:=?_) | refine a_box (hr:=?_) | refine a_idxArr (hr:=?_) | refine a_indexAddr (hr:=?_) | refine a_callF (hcall := hp) (hr:=?_) | refine a_call0 (hcall := q1) (hr:=?_))
 | fail)
    all_goals ((refine zzr hQ ?_))
    all_goals (exact zzd)
end Go.Proofs.YtjbbnollidcagaaDoor.Asl

namespace Go.Proofs.YtjbbnollidcagaaDoor.Asl
open Go Go.RowKit
set_option linter.unusedVariables false
set_option linter.unusedSimpArgs false
set_option maxRecDepth 100000
set_option maxHeartbeats 4000000
theorem hld_held (p : Pc) (k : Int) : hldE p (!decide (k ≤ p.str)) = heldE p k := by
  unfold hldE heldE
  by_cases h : k ≤ p.str
  · simp [h]
  · simp [h]
theorem hld_wf {p : Pc} (b : Bool) {m : Nat} (h : p.s.size ≤ m ∧ 0 ≤ p.deep ∧ p.deep ≤ m) : (hldE p b).s.size ≤ m + 2 ∧ 0 ≤ (hldE p b).deep ∧ (hldE p b).deep ≤ m + 1 := by
  unfold hldE
  have e1 : (⟨#[40]⟩ : ByteArray).size = 1 := rfl
  have e2 : (⟨#[41]⟩ : ByteArray).size = 1 := rfl
  split
  · exact ⟨by simp only [ByteArray.size_append]; omega, by simp only; omega, by simp only; omega⟩
  · omega
theorem c_part (e : List TermV) (hl : e.length ≤ 40) (hw : ∀ t ∈ e, wfT t) : ∀ (T : Tr) (pre post : List TermV) (i : Nat), T.ok → e = pre ++ T.flat ++ post → i + 1 = pre.length + T.flat.length → CallD Tryd.prog 46 [.sl 5 (e.map termAV), .raw (.int .i64 i)] noHeap (.tup [.raw (.string T.pc.s), .raw (.int .i64 T.pc.deep)]) noHeap
  | .nul t, pre, post, i, hok, he, hi => by
    have hop := ownE_op hok.1
    simp only [Tr.flat, List.length_singleton] at hi
    have hx : e[i]? = some t := by rw [he, show i = pre.length by omega]; simp [Tr.flat]
    have hie : i < e.length := (List.getElem?_eq_some_iff.1 hx).1
    obtain ⟨t1, t2, t3, t4⟩ := hw t (List.mem_of_getElem? hx)
    have h3 : t.op < 3 := by
      have := hok.2
      unfold takesE at this
      split at this
      · assumption
      · split at this <;> cases this
    have q2 := c_rPrint t.k t.v t.s ⟨t1, t2⟩ t3
    clear he hi hok
    obtain ⟨op, k, v, s, n⟩ := t
    simp only [Tr.pc, nulE]
    simp only at hop h3 q2 t4
    rcases (show op = 0 ∨ op = 1 ∨ op = 2 by omega) with rfl | rfl | rfl
    · refine zzg (nt := 84) (rs := [.tmp 4, .tmp 5]) Tryd.func46 ?_; intro Q hQ hW
      repeat' (first
 | (with_reducible refine run_n ?_; with_reducible first | refine hK _ _ (by simp) ?_ | refine hK _ _ ?_; clear hK K)
 | (refine zzc ?_)
 | (with_reducible refine awp_regT (by kernel_rfl) ?_; intro K hK)
 | (with_reducible refine awp_regAM (id := 14) [(6, some 6)] mixed (by kernel_rfl) (by kernel_rfl) ?_; intro K hK)
 | (with_reducible refine a_cond (ht := ?_) (hf := ?_) <;> intro hb <;> (try simp at hb) <;> (try contradiction) <;> (try subst hb) <;> (try omega))
 | (with_reducible first | refine a_move (hr:=?_) | refine a_assign (hr:=?_) | refine a_load (hr:=?_) | refine a_fieldAddr (hr:=?_) | refine a_bin (hr:=?_) | refine a_extract (hr:=?_) | refine a_store (hr:=?_) | refine a_alloc (hr:=?_) | refine a_eqB (hr:=?_) | refine a_idxArr (hr:=?_) | refine a_eqS (hr:=?_) | refine a_indexAddr (hr:=?_) | refine a_maxC (hr:=?_) | refine a_call0 (hcall := q2) (hr:=?_))
 | fail)
      all_goals ((refine zzr hQ ?_))
      all_goals (exact zzd)
    · refine zzg (nt := 84) (rs := [.tmp 4, .tmp 5]) Tryd.func46 ?_; intro Q hQ hW
      repeat' (first
 | (with_reducible refine run_n ?_; with_reducible first | refine hK _ _ (by simp) ?_ | refine hK _ _ ?_; clear hK K)
 | (refine zzc ?_)
 | (with_reducible refine awp_regT (by kernel_rfl) ?_; intro K hK)
 | (with_reducible refine awp_regAM (id := 14) [(6, some 6)] mixed (by kernel_rfl) (by kernel_rfl) ?_; intro K hK)
 | (with_reducible refine a_cond (ht := ?_) (hf := ?_) <;> intro hb <;> (try simp at hb) <;> (try contradiction) <;> (try subst hb) <;> (try omega))
 | (with_reducible first | refine a_move (hr:=?_) | refine a_assign (hr:=?_) | refine a_load (hr:=?_) | refine a_fieldAddr (hr:=?_) | refine a_bin (hr:=?_) | refine a_extract (hr:=?_) | refine a_store (hr:=?_) | refine a_alloc (hr:=?_) | refine a_eqB (hr:=?_) | refine a_idxArr (hr:=?_) | refine a_eqS (hr:=?_) | refine a_indexAddr (hr:=?_) | refine a_maxC (hr:=?_) | refine a_call0 (hcall := q2) (hr:=?_))
 | fail)
      all_goals ((refine zzr hQ ?_))
      all_goals (exact zzd)
    · refine zzg (nt := 84) (rs := [.tmp 4, .tmp 5]) Tryd.func46 ?_; intro Q hQ hW
      repeat' (first
 | (with_reducible refine run_n ?_; with_reducible first | refine hK _ _ (by simp) ?_ | refine hK _ _ ?_; clear hK K)
 | (refine zzc ?_)
 | (with_reducible refine awp_regT (by kernel_rfl) ?_; intro K hK)
 | (with_reducible refine awp_regAM (id := 14) [(6, some 6)] mixed (by kernel_rfl) (by kernel_rfl) ?_; intro K hK)
 | (with_reducible refine a_cond (ht := ?_) (hf := ?_) <;> intro hb <;> (try simp at hb) <;> (try contradiction) <;> (try subst hb) <;> (try omega))
 | (with_reducible first | refine a_move (hr:=?_) | refine a_assign (hr:=?_) | refine a_load (hr:=?_) | refine a_fieldAddr (hr:=?_) | refine a_bin (hr:=?_) | refine a_extract (hr:=?_) | refine a_store (hr:=?_) | refine a_alloc (hr:=?_) | refine a_eqB (hr:=?_) | refine a_idxArr (hr:=?_) | refine a_eqS (hr:=?_) | refine a_indexAddr (hr:=?_) | refine a_maxC (hr:=?_) | refine a_call0 (hcall := q2) (hr:=?_))
 | fail)
      all_goals ((refine zzr hQ ?_))
      all_goals (exact zzd)
  | .un t a, pre, post, i, hok, he, hi => by
    have hop := ownE_op hok.1.1
    have q1 := c_rtakes t.op hop
    rw [hok.1.2] at q1
    have q4 := c_Sign t.op hop
    have hsg := sgn_size hop
    have hf := a.flat_ne
    simp only [Tr.flat, List.length_append, List.length_singleton] at hi
    have hx : e[i]? = some t := by rw [he, show i = pre.length + a.flat.length by omega]; simp [Tr.flat]
    have hxa : e[i - 1]? = some a.root := by
      rw [he, show i - 1 = pre.length + (a.flat.length - 1) by omega]
      simp only [Tr.flat, List.append_assoc]
      rw [List.getElem?_append_right (by omega), Nat.add_sub_cancel_left, List.getElem?_append_left (by omega)]
      exact a.flat_last
    have hie : i < e.length := (List.getElem?_eq_some_iff.1 hx).1
    have hopa := ownE_op (Tr.ok_root hok.2)
    have hal : a.flat.length ≤ 40 := by omega
    have hwa := pc_wf hok.2
    have ih := c_part e hl hw a pre ([t] ++ post) (i - 1) hok.2 (by rw [he]; simp [Tr.flat]) (by omega)
    have hh := c_rheld e t a.root (i - 1) true a.pc (by omega) hop hopa hxa (by omega) (by omega) ih
    rw [show ((i - 1 : Nat) : Int) = (i : Int) - 1 by omega] at hh
    have hbr := (brB_at hop hopa).1
    have hst := pc_str hok.2
    have hi1 : 1 ≤ i := by omega
    have htk := hok.1.2
    have hwf := hld_wf (p := a.pc) (brB t.op a.root.op true) (m := 8000) (by omega)
    have key : hldE a.pc (brB t.op a.root.op true) = if t.op = 5 then a.pc else heldE a.pc (strE t.op) := by
      rcases hbr with hbr | hbr
      · rw [hbr]
        by_cases h5 : t.op = 5
        · rw [if_pos h5, if_pos h5]; rfl
        · rw [if_neg h5, if_neg h5, if_pos htk, ← hst]; exact hld_held _ _
      · omega
    rw [key] at hh hwf
    clear he hi hok hbr key ih hxa hst
    simp only [Tr.pc, unE]
    generalize a.pc = p at hh hwa hwf ⊢
    obtain ⟨op, k, v, s, n⟩ := t
    simp only at hop q1 q4 hsg htk hh hwf ⊢
    by_cases h5 : op = 5
    · subst h5
      simp only [if_true] at hh hwf ⊢
      obtain ⟨ps, pst, pd⟩ := p
      simp only at hwa hwf
      refine zzg (nt := 84) (rs := [.tmp 4, .tmp 5]) Tryd.func46 ?_; intro Q hQ hW
      repeat' (first
 | (with_reducible refine run_n ?_; with_reducible first | refine hK _ _ (by simp) ?_ | refine hK _ _ ?_; clear hK K)
 | (refine zzc ?_)
 | (with_reducible refine awp_regT (by kernel_rfl) ?_; intro K hK)
 | (with_reducible refine awp_regAM (id := 14) [(6, some 6)] mixed (by kernel_rfl) (by kernel_rfl) ?_; intro K hK)
 | (with_reducible refine a_cond (ht := ?_) (hf := ?_) <;> intro hb <;> (try simp at hb) <;> (try contradiction) <;> (try subst hb) <;> (try omega))
 | (with_reducible first | refine a_move (hr:=?_) | refine a_assign (hr:=?_) | refine a_load (hr:=?_) | refine a_fieldAddr (hr:=?_) | refine a_bin (hr:=?_) | refine a_extract (hr:=?_) | refine a_store (hr:=?_) | refine a_alloc (hr:=?_) | refine a_eqB (hr:=?_) | refine a_idxArr (hr:=?_) | refine a_eqS (hr:=?_) | refine a_indexAddr (hr:=?_) | refine a_maxC (hr:=?_) | refine a_call0 (hcall := q1) (hr:=?_) | refine a_call0 (hcall := q4) (hr:=?_) | refine a_callF (hcall := hh) (hr:=?_))
 | fail)
      all_goals ((refine zzr hQ ?_))
      all_goals (exact zzd)
    · simp only [if_neg h5] at hh hwf ⊢
      have hr : 3 ≤ op ∧ op < 6 := by
        unfold takesE at htk
        split at htk
        · cases htk
        · split at htk
          · omega
          · cases htk
      generalize heldE p (strE op) = y at hh hwf ⊢
      generalize sgnE op = sg at q4 hsg ⊢
      obtain ⟨ps, pst, pd⟩ := y
      simp only at hwf
      refine zzg (nt := 84) (rs := [.tmp 4, .tmp 5]) Tryd.func46 ?_; intro Q hQ hW
      repeat' (first
 | (with_reducible refine run_n ?_; with_reducible first | refine hK _ _ (by simp) ?_ | refine hK _ _ ?_; clear hK K)
 | (refine zzc ?_)
 | (with_reducible refine awp_regT (by kernel_rfl) ?_; intro K hK)
 | (with_reducible refine awp_regAM (id := 14) [(6, some 6)] mixed (by kernel_rfl) (by kernel_rfl) ?_; intro K hK)
 | (with_reducible refine a_cond (ht := ?_) (hf := ?_) <;> intro hb <;> (try simp at hb) <;> (try contradiction) <;> (try subst hb) <;> (try omega))
 | (with_reducible first | refine a_move (hr:=?_) | refine a_assign (hr:=?_) | refine a_load (hr:=?_) | refine a_fieldAddr (hr:=?_) | refine a_bin (hr:=?_) | refine a_extract (hr:=?_) | refine a_store (hr:=?_) | refine a_alloc (hr:=?_) | refine a_eqB (hr:=?_) | refine a_idxArr (hr:=?_) | refine a_eqS (hr:=?_) | refine a_indexAddr (hr:=?_) | refine a_maxC (hr:=?_) | refine a_call0 (hcall := q1) (hr:=?_) | refine a_call0 (hcall := q4) (hr:=?_) | refine a_callF (hcall := hh) (hr:=?_))
 | fail)
      all_goals ((refine zzr hQ ?_))
      all_goals (exact zzd)
  | .bi t a b, pre, post, i, hok, he, hi => by
    have hop := ownE_op hok.1.1
    have q1 := c_rtakes t.op hop
    rw [hok.1.2] at q1
    have q4 := c_Sign t.op hop
    have hsg := sgn_size hop
    have hfa := a.flat_ne
    have hfb := b.flat_ne
    simp only [Tr.flat, List.length_append, List.length_singleton] at hi
    have hx : e[i]? = some t := by rw [he, show i = pre.length + (a.flat.length + b.flat.length) by omega]; simp [Tr.flat]
    have hxb : e[i - 1]? = some b.root := by
      rw [he, show i - 1 = pre.length + (a.flat.length + (b.flat.length - 1)) by omega]
      simp only [Tr.flat, List.append_assoc]
      rw [List.getElem?_append_right (by omega), Nat.add_sub_cancel_left, List.getElem?_append_right (by omega), Nat.add_sub_cancel_left, List.getElem?_append_left (by omega)]
      exact b.flat_last
    have hxa : e[pre.length + a.flat.length - 1]? = some a.root := by
      rw [he, show pre.length + a.flat.length - 1 = pre.length + (a.flat.length - 1) by omega]
      simp only [Tr.flat, List.append_assoc]
      rw [List.getElem?_append_right (by omega), Nat.add_sub_cancel_left, List.getElem?_append_left (by omega)]
      exact a.flat_last
    have hie : i < e.length := (List.getElem?_eq_some_iff.1 hx).1
    have hopa := ownE_op (Tr.ok_root hok.2.1)
    have hopb := ownE_op (Tr.ok_root hok.2.2)
    have hal : a.flat.length ≤ 40 := by omega
    have hbl : b.flat.length ≤ 40 := by omega
    have hwa := pc_wf hok.2.1
    have hwb := pc_wf hok.2.2
    have i1 := c_part e hl hw b (pre ++ a.flat) ([t] ++ post) (i - 1) hok.2.2 (by rw [he]; simp [Tr.flat]) (by rw [List.length_append]; omega)
    have i2 := c_part e hl hw a pre (b.flat ++ ([t] ++ post)) (pre.length + a.flat.length - 1) hok.2.1 (by rw [he]; simp [Tr.flat]) (by omega)
    have bg := c_begin e (by omega) b (pre ++ a.flat) ([t] ++ post) (i - 1) hok.2.2 (by rw [he]; simp [Tr.flat]) (by rw [List.length_append]; omega)
    have hh1 := c_rheld e t b.root (i - 1) true b.pc (by omega) hop hopb hxb (by omega) (by omega) i1
    have hh2 := c_rheld e t a.root (pre.length + a.flat.length - 1) false a.pc (by omega) hop hopa hxa (by omega) (by omega) i2
    rw [List.length_append] at bg
    rw [show ((i - 1 : Nat) : Int) = (i : Int) - 1 by omega] at hh1 bg
    obtain ⟨w, hwq⟩ : ∃ w, pre.length + a.flat.length = w := ⟨_, rfl⟩
    rw [hwq] at bg hh2
    rw [show ((w - 1 : Nat) : Int) = (w : Int) - 1 by omega] at hh2
    have hw1 : 1 ≤ w ∧ w ≤ 1000 := by omega
    have hbr1 := (brB_at hop hopb).1
    have hbr2 := (brB_at hop hopa).2
    have hsta := pc_str hok.2.1
    have hstb := pc_str hok.2.2
    have hi1 : 1 ≤ i := by omega
    have htk := hok.1.2
    have h5 : ¬ t.op = 5 := fun h => by rw [h] at htk; exact absurd htk (by decide)
    have hr : 6 ≤ t.op := by
      unfold takesE at htk
      split at htk
      · cases htk
      · split at htk
        · cases htk
        · omega
    have k1 : hldE b.pc (brB t.op b.root.op true) = heldE b.pc (strE t.op + 1) := by
      rcases hbr1 with hbr | hbr
      · rw [hbr, if_neg h5, if_neg (by omega), ← hstb]; exact hld_held _ _
      · omega
    have k2 : hldE a.pc (brB t.op a.root.op false) = heldE a.pc (if strE t.op = 2 then 3 else strE t.op) := by
      rcases hbr2 with hbr | hbr
      · rw [hbr, ← hsta]; exact hld_held _ _
      · exact absurd htk hbr
    have w1 := hld_wf (p := b.pc) (brB t.op b.root.op true) (m := 8000) (by omega)
    have w2 := hld_wf (p := a.pc) (brB t.op a.root.op false) (m := 8000) (by omega)
    rw [k1] at hh1 w1
    rw [k2] at hh2 w2
    clear he hi hok hbr1 hbr2 k1 k2 i1 i2 hxa hxb hsta hstb hwa hwb hwq
    simp only [Tr.pc, biE]
    generalize heldE b.pc (strE t.op + 1) = y at hh1 w1 ⊢
    generalize heldE a.pc (if strE t.op = 2 then 3 else strE t.op) = z at hh2 w2 ⊢
    obtain ⟨op, k, v, s, n⟩ := t
    simp only at hop q1 q4 hsg htk hh1 hh2 w1 w2 h5 hr ⊢
    generalize sgnE op = sg at q4 hsg ⊢
    obtain ⟨ys, yst, yd⟩ := y
    obtain ⟨zs, zst, zd⟩ := z
    simp only at w1 w2
    refine zzg (nt := 84) (rs := [.tmp 4, .tmp 5]) Tryd.func46 ?_; intro Q hQ hW
    repeat' (first
 | (with_reducible refine run_n ?_; with_reducible first | refine hK _ _ (by simp) ?_ | refine hK _ _ ?_; clear hK K)
 | (refine zzc ?_)
 | (with_reducible refine awp_regT (by kernel_rfl) ?_; intro K hK)
 | (with_reducible refine awp_regCM (id := 14) [(6, some 6)] [(6, some 6), (62, none), (63, none), (64, none), (66, none), (68, none)] mixed (by kernel_rfl) (by kernel_rfl) (by kernel_rfl) ?_; intro K hK)
 | (with_reducible refine a_cond (ht := ?_) (hf := ?_) <;> intro hb <;> (try simp at hb) <;> (try contradiction) <;> (try subst hb) <;> (try omega))
 | (with_reducible first | refine a_move (hr:=?_) | refine a_assign (hr:=?_) | refine a_load (hr:=?_) | refine a_fieldAddr (hr:=?_) | refine a_bin (hr:=?_) | refine a_extract (hr:=?_) | refine a_store (hr:=?_) | refine a_alloc (hr:=?_) | refine a_eqB (hr:=?_) | refine a_idxArr (hr:=?_) | refine a_eqS (hr:=?_) | refine a_indexAddr (hr:=?_) | refine a_maxC (hr:=?_) | refine a_call0 (hcall := q1) (hr:=?_) | refine a_call0 (hcall := q4) (hr:=?_) | refine a_callF (hcall := hh1) (hr:=?_) | refine a_callF (hcall := bg) (hr:=?_) | refine a_callF (hcall := hh2) (hr:=?_))
 | fail)
    all_goals ((refine zzr hQ ?_))
    all_goals (exact zzd)
theorem c_rCheck (e : List TermV) (hw : ∀ t ∈ e, wfT t) (hl : e.length ≤ 140737488351232) : CallD Tryd.prog 17 [.sl 5 (e.map termAV)] noHeap (.raw (.int .i64 (wholeE e).2)) noHeap := by
  unfold wholeE
  by_cases h40 : 40 < e.length
  · rw [if_pos h40]
    refine zzg (nt := 51) (rs := [.tmp 2]) Tryd.func17 ?_; intro Q hQ hW
    repeat' (first
 | (with_reducible refine run_n ?_; with_reducible first | refine hK _ _ (by simp) ?_ | refine hK _ _ ?_; clear hK K)
 | (refine zzc ?_)
 | (with_reducible refine awp_regT (by kernel_rfl) ?_; intro K hK)
 | (with_reducible refine a_cond (ht := ?_) (hf := ?_) <;> intro hb <;> (try simp at hb) <;> (try contradiction) <;> (try subst hb) <;> (try omega))
 | (with_reducible first | refine a_move (hr:=?_) | refine a_assign (hr:=?_) | refine a_load (hr:=?_) | refine a_fieldAddr (hr:=?_) | refine a_bin (hr:=?_) | refine a_lenS (hr:=?_) | refine a_lenR (hr:=?_) | refine a_extract (hr:=?_) | refine a_store (hr:=?_) | refine a_alloc (hr:=?_) | refine a_eqB (hr:=?_) | refine a_neB (hr:=?_) | refine a_idxArr (hr:=?_) | refine a_eqS (hr:=?_) | refine a_neS (hr:=?_) | refine a_indexAddr (hr:=?_))
 | fail)
    all_goals ((refine zzr hQ ?_))
    all_goals (exact zzd)
  rw [if_neg h40]
  have hwt := whole_tr e [] (by simp)
  rw [List.map_nil] at hwt
  obtain ⟨R, hR⟩ : ∃ R, wholeL e [] = R := ⟨_, rfl⟩
  rw [hR] at hwt ⊢
  have start : WhI e R 0 [] := ⟨Nat.zero_le _, hR, Nat.le_refl _, by simp [sumS], by simp⟩
  refine zzg (nt := 51) (rs := [.tmp 2]) Tryd.func17 ?_; intro Q hQ hW
  repeat' (first
 | (with_reducible refine run_n ?_; with_reducible first | refine hK _ _ (by simp) ?_ | refine hK _ _ ?_; clear hK K)
 | (refine zzc ?_)
 | (with_reducible refine awp_regT (by kernel_rfl) ?_; intro K hK)
 | (with_reducible refine a_cond (ht := ?_) (hf := ?_) <;> intro hb <;> (try simp at hb) <;> (try contradiction) <;> (try subst hb) <;> (try omega))
 | (with_reducible first | refine a_move (hr:=?_) | refine a_assign (hr:=?_) | refine a_load (hr:=?_) | refine a_fieldAddr (hr:=?_) | refine a_bin (hr:=?_) | refine a_lenS (hr:=?_) | refine a_lenR (hr:=?_) | refine a_extract (hr:=?_) | refine a_store (hr:=?_) | refine a_alloc (hr:=?_) | refine a_eqB (hr:=?_) | refine a_neB (hr:=?_) | refine a_idxArr (hr:=?_) | refine a_eqS (hr:=?_) | refine a_neS (hr:=?_) | refine a_indexAddr (hr:=?_))
 | fail)
  refine awp_inv (α := Nat × List Pc) (fun s => [(0, .sl 5 (e.map termAV)), (3, .raw (.int .i64 s.2.length)), (12, .sl 5 (e.map termAV)), (13, .raw (.int .i64 e.length)), (14, .raw (.int .i64 s.1))]) (fun s => hpL []) (fun s => WhI e R s.1 s.2) (fun s => e.length - s.1) (0, []) start (zzw) ?_
  rintro ⟨i, st⟩ g
  simp only at g ⊢
  have hln := g.ln
  have hiN := g.iN
  rcases Nat.lt_or_ge i e.length with hlt | hge
  · have hx := List.getElem?_eq_getElem hlt
    have hd := List.drop_eq_getElem_cons hlt
    have hwt := hw e[i] (List.getElem_mem hlt)
    generalize e[i] = y at hx hd hwt
    have q1 := c_rown y (by have := hwt.2.2.2; omega)
    have heq := g.eq
    rw [hd, wholeL] at heq
    by_cases ho : ownE y = 0
    · rw [if_neg (by simpa using ho)] at heq
      have hop := ownE_op ho
      have q2 := c_rtakes y.op hop
      have htk2 : takesE y.op ≤ 2 := by unfold takesE; split <;> (try split) <;> omega
      rw [ho] at q1
      by_cases hn : st.length < takesE y.op
      · rw [if_pos hn] at heq
        have hF : outW R = (Pc.z, 6) := by rw [← heq]; rfl
        rw [hF] at hQ
        generalize takesE y.op = tk at q2 hn htk2
        clear heq g hd hF
        obtain ⟨op, k, v, s, n⟩ := y
        repeat' (first
 | (with_reducible refine run_n ?_; with_reducible first | refine hK _ _ (by simp) ?_ | refine hK _ _ ?_; clear hK K)
 | (refine zzc ?_)
 | (with_reducible refine awp_regT (by kernel_rfl) ?_; intro K hK)
 | (with_reducible refine a_cond (ht := ?_) (hf := ?_) <;> intro hb <;> (try simp at hb) <;> (try contradiction) <;> (try subst hb) <;> (try omega))
 | (with_reducible first | refine a_move (hr:=?_) | refine a_assign (hr:=?_) | refine a_load (hr:=?_) | refine a_fieldAddr (hr:=?_) | refine a_bin (hr:=?_) | refine a_lenS (hr:=?_) | refine a_lenR (hr:=?_) | refine a_extract (hr:=?_) | refine a_store (hr:=?_) | refine a_alloc (hr:=?_) | refine a_eqB (hr:=?_) | refine a_neB (hr:=?_) | refine a_idxArr (hr:=?_) | refine a_eqS (hr:=?_) | refine a_neS (hr:=?_) | refine a_indexAddr (hr:=?_) | refine a_call0 (hcall := q1) (hr:=?_) | refine a_call0 (hcall := q2) (hr:=?_))
 | fail)
        all_goals ((refine zzr hQ ?_))
        all_goals (exact zzd)
      · have gn := g.next hd ho hn
        have hlen : (st.take (st.length - takesE y.op) ++ [joinE y (st.drop (st.length - takesE y.op))]).length + takesE y.op = st.length + 1 := by
          rw [List.length_append, List.length_take, List.length_singleton]; omega
        generalize st.take (st.length - takesE y.op) ++ [joinE y (st.drop (st.length - takesE y.op))] = st2 at gn hlen
        generalize takesE y.op = tk at q2 hn htk2 hlen
        clear heq g hd
        obtain ⟨op, k, v, s, n⟩ := y
        repeat' (first
 | (with_reducible refine run_n ?_; with_reducible first | refine hK _ _ (by simp) ?_ | refine hK _ _ ?_; clear hK K)
 | (refine zzc ?_)
 | (with_reducible refine awp_regT (by kernel_rfl) ?_; intro K hK)
 | (with_reducible refine a_cond (ht := ?_) (hf := ?_) <;> intro hb <;> (try simp at hb) <;> (try contradiction) <;> (try subst hb) <;> (try omega))
 | (with_reducible first | refine a_move (hr:=?_) | refine a_assign (hr:=?_) | refine a_load (hr:=?_) | refine a_fieldAddr (hr:=?_) | refine a_bin (hr:=?_) | refine a_lenS (hr:=?_) | refine a_lenR (hr:=?_) | refine a_extract (hr:=?_) | refine a_store (hr:=?_) | refine a_alloc (hr:=?_) | refine a_eqB (hr:=?_) | refine a_neB (hr:=?_) | refine a_idxArr (hr:=?_) | refine a_eqS (hr:=?_) | refine a_neS (hr:=?_) | refine a_indexAddr (hr:=?_) | refine a_call0 (hcall := q1) (hr:=?_) | refine a_call0 (hcall := q2) (hr:=?_))
 | fail)
        exact ⟨(i + 1, st2), by simp only; omega, gn, zzw⟩
    · rw [if_pos ho] at heq
      have hF : outW R = (Pc.z, ownE y) := by rw [← heq]; unfold outW; rw [if_pos ho]
      rw [hF] at hQ
      generalize ownE y = ow at q1 ho hQ
      clear heq g hd hF
      obtain ⟨op, k, v, s, n⟩ := y
      repeat' (first
 | (with_reducible refine run_n ?_; with_reducible first | refine hK _ _ (by simp) ?_ | refine hK _ _ ?_; clear hK K)
 | (refine zzc ?_)
 | (with_reducible refine awp_regT (by kernel_rfl) ?_; intro K hK)
 | (with_reducible refine a_cond (ht := ?_) (hf := ?_) <;> intro hb <;> (try simp at hb) <;> (try contradiction) <;> (try subst hb) <;> (try omega))
 | (with_reducible first | refine a_move (hr:=?_) | refine a_assign (hr:=?_) | refine a_load (hr:=?_) | refine a_fieldAddr (hr:=?_) | refine a_bin (hr:=?_) | refine a_lenS (hr:=?_) | refine a_lenR (hr:=?_) | refine a_extract (hr:=?_) | refine a_store (hr:=?_) | refine a_alloc (hr:=?_) | refine a_eqB (hr:=?_) | refine a_neB (hr:=?_) | refine a_idxArr (hr:=?_) | refine a_eqS (hr:=?_) | refine a_neS (hr:=?_) | refine a_indexAddr (hr:=?_) | refine a_call0 (hcall := q1) (hr:=?_))
 | fail)
      all_goals ((refine zzr hQ ?_))
      all_goals (exact zzd)
  · obtain rfl : i = e.length := by have := g.iN; omega
    have heq := g.eq
    rw [List.drop_length, wholeL] at heq
    rw [← heq] at hQ hwt
    obtain ⟨us, r1, r2, r3⟩ := hwt rfl
    simp only at r1
    subst r1
    clear heq hR start g
    rcases us with _ | ⟨T, _ | ⟨b, l⟩⟩
    · simp only [List.map_nil, outW, Pc.z] at hQ
      repeat' (first
 | (with_reducible refine run_n ?_; with_reducible first | refine hK _ _ (by simp) ?_ | refine hK _ _ ?_; clear hK K)
 | (refine zzc ?_)
 | (with_reducible refine awp_regT (by kernel_rfl) ?_; intro K hK)
 | (with_reducible refine a_cond (ht := ?_) (hf := ?_) <;> intro hb <;> (try simp at hb) <;> (try contradiction) <;> (try subst hb) <;> (try omega))
 | (with_reducible first | refine a_move (hr:=?_) | refine a_assign (hr:=?_) | refine a_load (hr:=?_) | refine a_fieldAddr (hr:=?_) | refine a_bin (hr:=?_) | refine a_lenS (hr:=?_) | refine a_lenR (hr:=?_) | refine a_extract (hr:=?_) | refine a_store (hr:=?_) | refine a_alloc (hr:=?_) | refine a_eqB (hr:=?_) | refine a_neB (hr:=?_) | refine a_idxArr (hr:=?_) | refine a_eqS (hr:=?_) | refine a_neS (hr:=?_) | refine a_indexAddr (hr:=?_))
 | fail)
      all_goals ((refine zzr hQ ?_))
      all_goals (exact zzd)
    · have hfl : T.flat = e := by simpa [flats] using r3
      have hfn := T.flat_ne
      rw [hfl] at hfn
      have hp := c_part e (by omega) hw T [] [] (e.length - 1) (r2 T (by simp)) (by simp [hfl]) (by rw [hfl]; simp; omega)
      rw [show ((e.length - 1 : Nat) : Int) = (e.length : Int) - 1 by omega] at hp
      simp only [List.map_cons, List.map_nil, outW] at hQ
      generalize T.pc = p at hp hQ
      obtain ⟨xa, xb, xc⟩ := p
      simp only at hQ hp
      by_cases hd : 12 < xc
      · rw [if_pos hd] at hQ
        unfold Pc.z at hQ
        repeat' (first
 | (with_reducible refine run_n ?_; with_reducible first | refine hK _ _ (by simp) ?_ | refine hK _ _ ?_; clear hK K)
 | (refine zzc ?_)
 | (with_reducible refine awp_regT (by kernel_rfl) ?_; intro K hK)
 | (with_reducible refine a_cond (ht := ?_) (hf := ?_) <;> intro hb <;> (try simp at hb) <;> (try contradiction) <;> (try subst hb) <;> (try omega))
 | (with_reducible first | refine a_move (hr:=?_) | refine a_assign (hr:=?_) | refine a_load (hr:=?_) | refine a_fieldAddr (hr:=?_) | refine a_bin (hr:=?_) | refine a_lenS (hr:=?_) | refine a_lenR (hr:=?_) | refine a_extract (hr:=?_) | refine a_store (hr:=?_) | refine a_alloc (hr:=?_) | refine a_eqB (hr:=?_) | refine a_neB (hr:=?_) | refine a_idxArr (hr:=?_) | refine a_eqS (hr:=?_) | refine a_neS (hr:=?_) | refine a_indexAddr (hr:=?_) | refine a_callF (hcall := hp) (hr:=?_))
 | fail)
        all_goals ((refine zzr hQ ?_))
        all_goals (exact zzd)
      · rw [if_neg hd] at hQ
        repeat' (first
 | (with_reducible refine run_n ?_; with_reducible first | refine hK _ _ (by simp) ?_ | refine hK _ _ ?_; clear hK K)
 | (refine zzc ?_)
 | (with_reducible refine awp_regT (by kernel_rfl) ?_; intro K hK)
 | (with_reducible refine a_cond (ht := ?_) (hf := ?_) <;> intro hb <;> (try simp at hb) <;> (try contradiction) <;> (try subst hb) <;> (try omega))
 | (with_reducible first | refine a_move (hr:=?_) | refine a_assign (hr:=?_) | refine a_load (hr:=?_) | refine a_fieldAddr (hr:=?_) | refine a_bin (hr:=?_) | refine a_lenS (hr:=?_) | refine a_lenR (hr:=?_) | refine a_extract (hr:=?_) | refine a_store (hr:=?_) | refine a_alloc (hr:=?_) | refine a_eqB (hr:=?_) | refine a_neB (hr:=?_) | refine a_idxArr (hr:=?_) | refine a_eqS (hr:=?_) | refine a_neS (hr:=?_) | refine a_indexAddr (hr:=?_) | refine a_callF (hcall := hp) (hr:=?_))
 | fail)
        all_goals ((refine zzr hQ ?_))
        all_goals (exact zzd)
    · simp only [List.map_cons, outW, Pc.z] at hQ
      repeat' (first
 | (with_reducible refine run_n ?_; with_reducible first | refine hK _ _ (by simp) ?_ | refine hK _ _ ?_; clear hK K)
 | (refine zzc ?_)
 | (with_reducible refine awp_regT (by kernel_rfl) ?_; intro K hK)
 | (with_reducible refine a_cond (ht := ?_) (hf := ?_) <;> intro hb <;> (try simp at hb) <;> (try contradiction) <;> (try subst hb) <;> (try omega))
 | (with_reducible first | refine a_move (hr:=?_) | refine a_assign (hr:=?_) | refine a_load (hr:=?_) | refine a_fieldAddr (hr:=?_) | refine a_bin (hr:=?_) | refine a_lenS (hr:=?_) | refine a_lenR (hr:=?_) | refine a_extract (hr:=?_) | refine a_store (hr:=?_) | refine a_alloc (hr:=?_) | refine a_eqB (hr:=?_) | refine a_neB (hr:=?_) | refine a_idxArr (hr:=?_) | refine a_eqS (hr:=?_) | refine a_neS (hr:=?_) | refine a_indexAddr (hr:=?_))
 | fail)
      all_goals ((refine zzr hQ ?_))
      all_goals (exact zzd)
end Go.Proofs.YtjbbnollidcagaaDoor.Asl

