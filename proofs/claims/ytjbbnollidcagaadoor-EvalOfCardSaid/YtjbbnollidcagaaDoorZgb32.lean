/- Part 32 of what the row leans on: abstract values and states, their rules, and the contracts of the functions. -/
import Derived.Test.YtjbbnollidcagaaDoorZgb31
namespace Go.Proofs.YtjbbnollidcagaaDoor.Asl
open Go Go.RowKit
set_option linter.unusedVariables false
set_option linter.unusedSimpArgs false
set_option maxRecDepth 100000
set_option maxHeartbeats 4000000
theorem c_brackets (t x : TermV) (r : Bool) (ht : 0 ≤ t.op ∧ t.op ≤ 18) (hx : 0 ≤ x.op ∧ x.op ≤ 18) : CallD Tryd.prog 82 [termAV t, termAV x, .raw (.bool r)] noHeap (.raw (.bool (brB t.op x.op r))) noHeap := by
  have q1 := c_rstrength t.op ht
  have q2 := c_rstrength x.op hx
  unfold brB
  obtain ⟨op, k, v, s, n⟩ := t
  obtain ⟨xp, xk, xv, xs, xn⟩ := x
  simp only at ht hx q1 q2 ⊢
  generalize rstrE op = a at q1 ⊢
  generalize rstrE xp = b at q2 ⊢
  by_cases h5 : op = 5 ∨ b = 9
  · rw [if_pos h5]
    refine calls_go (nt := 41) (rs := [.tmp 6]) Tryd.func82 rfl rfl rfl (by simp) (by intro id h; simp at h <;> omega) ?_; intro Q hQ hW
    repeat' (first
    | (with_reducible refine run_n ?_; with_reducible first | refine hK _ _ (by simp) ?_ | refine hK _ _ ?_; clear hK K)
    | (refine zzc ?_)
    | (with_reducible refine awp_regT (by kernel_rfl) ?_; intro K hK)
    | (with_reducible refine awp_regCM (id := 1) [(9, some 3), (12, some 4)] [(9, some 3), (10, none), (12, some 4), (13, none)] mixed (by kernel_rfl) (by kernel_rfl) (by kernel_rfl) ?_; intro K hK)
    | (with_reducible refine a_cond (ht := ?_) (hf := ?_) <;> intro hb <;> (try simp at hb) <;> (try contradiction) <;> (try subst hb) <;> (try omega))
    | (with_reducible first | refine a_move (hr:=?_) | refine a_assign (hr:=?_) | refine a_load (hr:=?_) | refine a_fieldAddr (hr:=?_) | refine a_bin (hr:=?_) | refine a_pick (hr:=?_) | refine a_box (hr:=?_) | refine a_eqB (hr:=?_) | refine a_eqS (hr:=?_) | refine a_call0 (hcall := q1) (hr:=?_) | refine a_call0 (hcall := q2) (hr:=?_) | refine a_gT (hr:=?_) | refine a_gF (hr:=?_) | refine a_gU (hr:=?_))
    | (with_reducible refine a_gB (hT := ?_) (hF := ?_) <;> intro hb <;> (try simp at hb) <;> (try contradiction) <;> (try subst hb) <;> (try omega))
    | fail)
    all_goals first
      | (exfalso; omega)
      | ((refine zzr hQ ?_); exact Fin.drop (by simp; exact .r) (by simp))
  rw [if_neg h5]
  by_cases h9 : a = 9
  · rw [if_pos h9]
    refine calls_go (nt := 41) (rs := [.tmp 6]) Tryd.func82 rfl rfl rfl (by simp) (by intro id h; simp at h <;> omega) ?_; intro Q hQ hW
    repeat' (first
    | (with_reducible refine run_n ?_; with_reducible first | refine hK _ _ (by simp) ?_ | refine hK _ _ ?_; clear hK K)
    | (refine zzc ?_)
    | (with_reducible refine awp_regT (by kernel_rfl) ?_; intro K hK)
    | (with_reducible refine awp_regCM (id := 1) [(9, some 3), (12, some 4)] [(9, some 3), (10, none), (12, some 4), (13, none)] mixed (by kernel_rfl) (by kernel_rfl) (by kernel_rfl) ?_; intro K hK)
    | (with_reducible refine a_cond (ht := ?_) (hf := ?_) <;> intro hb <;> (try simp at hb) <;> (try contradiction) <;> (try subst hb) <;> (try omega))
    | (with_reducible first | refine a_move (hr:=?_) | refine a_assign (hr:=?_) | refine a_load (hr:=?_) | refine a_fieldAddr (hr:=?_) | refine a_bin (hr:=?_) | refine a_pick (hr:=?_) | refine a_box (hr:=?_) | refine a_eqB (hr:=?_) | refine a_eqS (hr:=?_) | refine a_call0 (hcall := q1) (hr:=?_) | refine a_call0 (hcall := q2) (hr:=?_) | refine a_gT (hr:=?_) | refine a_gF (hr:=?_) | refine a_gU (hr:=?_))
    | (with_reducible refine a_gB (hT := ?_) (hF := ?_) <;> intro hb <;> (try simp at hb) <;> (try contradiction) <;> (try subst hb) <;> (try omega))
    | fail)
    all_goals first
      | (exfalso; omega)
      | ((refine zzr hQ ?_); exact Fin.drop (by simp; exact .r) (by simp))
  rw [if_neg h9]
  by_cases hlt : b < a
  · rw [decide_eq_true hlt, Bool.true_or]
    refine calls_go (nt := 41) (rs := [.tmp 6]) Tryd.func82 rfl rfl rfl (by simp) (by intro id h; simp at h <;> omega) ?_; intro Q hQ hW
    repeat' (first
    | (with_reducible refine run_n ?_; with_reducible first | refine hK _ _ (by simp) ?_ | refine hK _ _ ?_; clear hK K)
    | (refine zzc ?_)
    | (with_reducible refine awp_regT (by kernel_rfl) ?_; intro K hK)
    | (with_reducible refine awp_regCM (id := 1) [(9, some 3), (12, some 4)] [(9, some 3), (10, none), (12, some 4), (13, none)] mixed (by kernel_rfl) (by kernel_rfl) (by kernel_rfl) ?_; intro K hK)
    | (with_reducible refine a_cond (ht := ?_) (hf := ?_) <;> intro hb <;> (try simp at hb) <;> (try contradiction) <;> (try subst hb) <;> (try omega))
    | (with_reducible first | refine a_move (hr:=?_) | refine a_assign (hr:=?_) | refine a_load (hr:=?_) | refine a_fieldAddr (hr:=?_) | refine a_bin (hr:=?_) | refine a_pick (hr:=?_) | refine a_box (hr:=?_) | refine a_eqB (hr:=?_) | refine a_eqS (hr:=?_) | refine a_call0 (hcall := q1) (hr:=?_) | refine a_call0 (hcall := q2) (hr:=?_) | refine a_gT (hr:=?_) | refine a_gF (hr:=?_) | refine a_gU (hr:=?_))
    | (with_reducible refine a_gB (hT := ?_) (hF := ?_) <;> intro hb <;> (try simp at hb) <;> (try contradiction) <;> (try subst hb) <;> (try omega))
    | fail)
    all_goals first
      | (exfalso; omega)
      | ((refine zzr hQ ?_); exact Fin.drop (by simp; exact .r) (by simp))
  rw [decide_eq_false hlt, Bool.false_or]
  by_cases heq : b = a
  · rw [decide_eq_true heq, Bool.true_and]
    cases r with
    | true =>
      rw [Bool.true_or]
      refine calls_go (nt := 41) (rs := [.tmp 6]) Tryd.func82 rfl rfl rfl (by simp) (by intro id h; simp at h <;> omega) ?_; intro Q hQ hW
      repeat' (first
    | (with_reducible refine run_n ?_; with_reducible first | refine hK _ _ (by simp) ?_ | refine hK _ _ ?_; clear hK K)
    | (refine zzc ?_)
    | (with_reducible refine awp_regT (by kernel_rfl) ?_; intro K hK)
    | (with_reducible refine awp_regCM (id := 1) [(9, some 3), (12, some 4)] [(9, some 3), (10, none), (12, some 4), (13, none)] mixed (by kernel_rfl) (by kernel_rfl) (by kernel_rfl) ?_; intro K hK)
    | (with_reducible refine a_cond (ht := ?_) (hf := ?_) <;> intro hb <;> (try simp at hb) <;> (try contradiction) <;> (try subst hb) <;> (try omega))
    | (with_reducible first | refine a_move (hr:=?_) | refine a_assign (hr:=?_) | refine a_load (hr:=?_) | refine a_fieldAddr (hr:=?_) | refine a_bin (hr:=?_) | refine a_pick (hr:=?_) | refine a_box (hr:=?_) | refine a_eqB (hr:=?_) | refine a_eqS (hr:=?_) | refine a_call0 (hcall := q1) (hr:=?_) | refine a_call0 (hcall := q2) (hr:=?_) | refine a_gT (hr:=?_) | refine a_gF (hr:=?_) | refine a_gU (hr:=?_))
    | (with_reducible refine a_gB (hT := ?_) (hF := ?_) <;> intro hb <;> (try simp at hb) <;> (try contradiction) <;> (try subst hb) <;> (try omega))
    | fail)
      all_goals first
        | (exfalso; omega)
        | ((refine zzr hQ ?_); exact Fin.drop (by simp; exact .r) (by simp))
    | false =>
      rw [Bool.false_or]
      refine calls_go (nt := 41) (rs := [.tmp 6]) Tryd.func82 rfl rfl rfl (by simp) (by intro id h; simp at h <;> omega) ?_; intro Q hQ hW
      repeat' (first
    | (with_reducible refine run_n ?_; with_reducible first | refine hK _ _ (by simp) ?_ | refine hK _ _ ?_; clear hK K)
    | (refine zzc ?_)
    | (with_reducible refine awp_regT (by kernel_rfl) ?_; intro K hK)
    | (with_reducible refine awp_regCM (id := 1) [(9, some 3), (12, some 4)] [(9, some 3), (10, none), (12, some 4), (13, none)] mixed (by kernel_rfl) (by kernel_rfl) (by kernel_rfl) ?_; intro K hK)
    | (with_reducible refine a_cond (ht := ?_) (hf := ?_) <;> intro hb <;> (try simp at hb) <;> (try contradiction) <;> (try subst hb) <;> (try omega))
    | (with_reducible first | refine a_move (hr:=?_) | refine a_assign (hr:=?_) | refine a_load (hr:=?_) | refine a_fieldAddr (hr:=?_) | refine a_bin (hr:=?_) | refine a_pick (hr:=?_) | refine a_box (hr:=?_) | refine a_eqB (hr:=?_) | refine a_eqS (hr:=?_) | refine a_call0 (hcall := q1) (hr:=?_) | refine a_call0 (hcall := q2) (hr:=?_) | refine a_gT (hr:=?_) | refine a_gF (hr:=?_) | refine a_gU (hr:=?_))
    | (with_reducible refine a_gB (hT := ?_) (hF := ?_) <;> intro hb <;> (try simp at hb) <;> (try contradiction) <;> (try subst hb) <;> (try omega))
    | fail)
      all_goals first
        | (exfalso; omega)
        | ((refine zzr hQ ?_); exact Fin.drop (by simp; exact .r) (by simp))
  · rw [decide_eq_false heq, Bool.false_and]
    refine calls_go (nt := 41) (rs := [.tmp 6]) Tryd.func82 rfl rfl rfl (by simp) (by intro id h; simp at h <;> omega) ?_; intro Q hQ hW
    repeat' (first
    | (with_reducible refine run_n ?_; with_reducible first | refine hK _ _ (by simp) ?_ | refine hK _ _ ?_; clear hK K)
    | (refine zzc ?_)
    | (with_reducible refine awp_regT (by kernel_rfl) ?_; intro K hK)
    | (with_reducible refine awp_regCM (id := 1) [(9, some 3), (12, some 4)] [(9, some 3), (10, none), (12, some 4), (13, none)] mixed (by kernel_rfl) (by kernel_rfl) (by kernel_rfl) ?_; intro K hK)
    | (with_reducible refine a_cond (ht := ?_) (hf := ?_) <;> intro hb <;> (try simp at hb) <;> (try contradiction) <;> (try subst hb) <;> (try omega))
    | (with_reducible first | refine a_move (hr:=?_) | refine a_assign (hr:=?_) | refine a_load (hr:=?_) | refine a_fieldAddr (hr:=?_) | refine a_bin (hr:=?_) | refine a_pick (hr:=?_) | refine a_box (hr:=?_) | refine a_eqB (hr:=?_) | refine a_eqS (hr:=?_) | refine a_call0 (hcall := q1) (hr:=?_) | refine a_call0 (hcall := q2) (hr:=?_) | refine a_gT (hr:=?_) | refine a_gF (hr:=?_) | refine a_gU (hr:=?_))
    | (with_reducible refine a_gB (hT := ?_) (hF := ?_) <;> intro hb <;> (try simp at hb) <;> (try contradiction) <;> (try subst hb) <;> (try omega))
    | fail)
    all_goals first
      | (exfalso; omega)
      | ((refine zzr hQ ?_); exact Fin.drop (by simp; exact .r) (by simp))
/-- Where a tree's terms begin. -/
theorem c_begin (e : List TermV) (hl : e.length ≤ 1000) : ∀ (T : Tr) (pre post : List TermV) (i : Nat), T.ok → e = pre ++ T.flat ++ post → i + 1 = pre.length + T.flat.length → CallD Tryd.prog 70 [.sl 5 (e.map termAV), .raw (.int .i64 i)] noHeap (.raw (.int .i64 pre.length)) noHeap
  | .nul t, pre, post, i, hok, he, hi => by
    have hop := ownE_op hok.1
    have q1 := c_rtakes t.op hop
    rw [hok.2] at q1
    have hx : e[i]? = some t := by
      have := Tr.flat_last (.nul t)
      simp only [Tr.flat, List.length_singleton] at hi this
      rw [he, show i = pre.length by omega]; simp [Tr.flat]
    have hii : i = pre.length := by simp only [Tr.flat, List.length_singleton] at hi; omega
    have hie : i < e.length := (List.getElem?_eq_some_iff.1 hx).1
    rw [← hii]
    clear he hi hii hok
    obtain ⟨op, k, v, s, n⟩ := t
    refine calls_go (nt := 21) (rs := [.tmp 4]) Tryd.func70 rfl rfl rfl (by simp) (by intro id h; simp at h <;> omega) ?_; intro Q hQ hW
    repeat' (first
    | (with_reducible refine run_n ?_; with_reducible first | refine hK _ _ (by simp) ?_ | refine hK _ _ ?_; clear hK K)
    | (refine zzc ?_)
    | (with_reducible refine awp_regT (by kernel_rfl) ?_; intro K hK)
    | (with_reducible refine a_cond (ht := ?_) (hf := ?_) <;> intro hb <;> (try simp at hb) <;> (try contradiction) <;> (try subst hb) <;> (try omega))
    | (with_reducible first | refine a_move (hr:=?_) | refine a_assign (hr:=?_) | refine a_load (hr:=?_) | refine a_fieldAddr (hr:=?_) | refine a_bin (hr:=?_) | refine a_idxArr (hr:=?_) | refine a_indexAddr (hr:=?_) | refine a_call0 (hcall := q1) (hr:=?_))
    | fail)
    refine awp_inv (α := Nat) (fun k => [(1, .raw (.int .i64 i)), (5, .raw (.int .i64 0))]) (fun _ => hpL []) (fun k => True) (fun k => k) 0 trivial (zzw) ?_
    intro k _
    repeat' (first
    | (with_reducible refine run_n ?_; with_reducible first | refine hK _ _ (by simp) ?_ | refine hK _ _ ?_; clear hK K)
    | (refine zzc ?_)
    | (with_reducible refine awp_regT (by kernel_rfl) ?_; intro K hK)
    | (with_reducible refine a_cond (ht := ?_) (hf := ?_) <;> intro hb <;> (try simp at hb) <;> (try contradiction) <;> (try subst hb) <;> (try omega))
    | (with_reducible first | refine a_move (hr:=?_) | refine a_assign (hr:=?_) | refine a_load (hr:=?_) | refine a_fieldAddr (hr:=?_) | refine a_bin (hr:=?_) | refine a_idxArr (hr:=?_) | refine a_indexAddr (hr:=?_))
    | fail)
    all_goals ((refine zzr hQ ?_))
    all_goals (exact Fin.drop (by simp; exact .r) (by simp))
  | .un t a, pre, post, i, hok, he, hi => by
    have hop := ownE_op hok.1.1
    have q1 := c_rtakes t.op hop
    rw [hok.1.2] at q1
    have hf := a.flat_ne
    simp only [Tr.flat, List.length_append, List.length_singleton] at hi
    have hx : e[i]? = some t := by rw [he, show i = pre.length + a.flat.length by omega]; simp [Tr.flat]
    have hie : i < e.length := (List.getElem?_eq_some_iff.1 hx).1
    have ih := c_begin e hl a pre ([t] ++ post) (i - 1) hok.2 (by rw [he]; simp [Tr.flat]) (by omega)
    rw [show ((i - 1 : Nat) : Int) = (i : Int) - 1 by omega] at ih
    have hi1 : 1 ≤ i := by omega
    have hpl : pre.length ≤ 1000 := by omega
    generalize pre.length = m at ih hpl ⊢
    clear he hi hok
    obtain ⟨op, k, v, s, n⟩ := t
    refine calls_go (nt := 21) (rs := [.tmp 4]) Tryd.func70 rfl rfl rfl (by simp) (by intro id h; simp at h <;> omega) ?_; intro Q hQ hW
    repeat' (first
    | (with_reducible refine run_n ?_; with_reducible first | refine hK _ _ (by simp) ?_ | refine hK _ _ ?_; clear hK K)
    | (refine zzc ?_)
    | (with_reducible refine awp_regT (by kernel_rfl) ?_; intro K hK)
    | (with_reducible refine a_cond (ht := ?_) (hf := ?_) <;> intro hb <;> (try simp at hb) <;> (try contradiction) <;> (try subst hb) <;> (try omega))
    | (with_reducible first | refine a_move (hr:=?_) | refine a_assign (hr:=?_) | refine a_load (hr:=?_) | refine a_fieldAddr (hr:=?_) | refine a_bin (hr:=?_) | refine a_idxArr (hr:=?_) | refine a_indexAddr (hr:=?_) | refine a_call0 (hcall := q1) (hr:=?_))
    | fail)
    refine awp_inv (α := Nat) (fun k => [(0, .sl 5 (e.map termAV)), (1, .raw (.int .i64 (if k = 1 then (i : Int) else m))), (5, .raw (.int .i64 k))]) (fun _ => hpL []) (fun k => k ≤ 1) (fun k => k) 1 (Nat.le_refl _) (zzw) ?_
    intro k hk
    rcases (show k = 1 ∨ k = 0 by omega) with rfl | rfl
    · simp only [if_true]
      repeat' (first
    | (with_reducible refine run_n ?_; with_reducible first | refine hK _ _ (by simp) ?_ | refine hK _ _ ?_; clear hK K)
    | (refine zzc ?_)
    | (with_reducible refine awp_regT (by kernel_rfl) ?_; intro K hK)
    | (with_reducible refine a_cond (ht := ?_) (hf := ?_) <;> intro hb <;> (try simp at hb) <;> (try contradiction) <;> (try subst hb) <;> (try omega))
    | (with_reducible first | refine a_move (hr:=?_) | refine a_assign (hr:=?_) | refine a_load (hr:=?_) | refine a_fieldAddr (hr:=?_) | refine a_bin (hr:=?_) | refine a_idxArr (hr:=?_) | refine a_indexAddr (hr:=?_) | refine a_callF (hcall := ih) (hr:=?_))
    | fail)
      exact ⟨0, by omega, by omega, zzw⟩
    · simp only [show ¬ (0 : Nat) = 1 by decide, if_false]
      repeat' (first
    | (with_reducible refine run_n ?_; with_reducible first | refine hK _ _ (by simp) ?_ | refine hK _ _ ?_; clear hK K)
    | (refine zzc ?_)
    | (with_reducible refine awp_regT (by kernel_rfl) ?_; intro K hK)
    | (with_reducible refine a_cond (ht := ?_) (hf := ?_) <;> intro hb <;> (try simp at hb) <;> (try contradiction) <;> (try subst hb) <;> (try omega))
    | (with_reducible first | refine a_move (hr:=?_) | refine a_assign (hr:=?_) | refine a_load (hr:=?_) | refine a_fieldAddr (hr:=?_) | refine a_bin (hr:=?_) | refine a_idxArr (hr:=?_) | refine a_indexAddr (hr:=?_))
    | fail)
      all_goals ((refine zzr hQ ?_))
      all_goals (exact Fin.drop (by simp; exact .r) (by simp))
  | .bi t a b, pre, post, i, hok, he, hi => by
    have hop := ownE_op hok.1.1
    have q1 := c_rtakes t.op hop
    rw [hok.1.2] at q1
    have hfa := a.flat_ne
    have hfb := b.flat_ne
    simp only [Tr.flat, List.length_append, List.length_singleton] at hi
    have hx : e[i]? = some t := by rw [he, show i = pre.length + (a.flat.length + b.flat.length) by omega]; simp [Tr.flat]
    have hie : i < e.length := (List.getElem?_eq_some_iff.1 hx).1
    have i1 := c_begin e hl b (pre ++ a.flat) ([t] ++ post) (i - 1) hok.2.2 (by rw [he]; simp [Tr.flat]) (by rw [List.length_append]; omega)
    have i2 := c_begin e hl a pre (b.flat ++ ([t] ++ post)) (pre.length + a.flat.length - 1) hok.2.1 (by rw [he]; simp [Tr.flat]) (by omega)
    rw [List.length_append] at i1
    rw [show ((i - 1 : Nat) : Int) = (i : Int) - 1 by omega] at i1
    obtain ⟨w, hw⟩ : ∃ w, pre.length + a.flat.length = w := ⟨_, rfl⟩
    rw [hw] at i1 i2
    rw [show ((w - 1 : Nat) : Int) = (w : Int) - 1 by omega] at i2
    have hi1 : 1 ≤ i := by omega
    have hw1 : 1 ≤ w ∧ w ≤ 1000 := by omega
    have hpl : pre.length ≤ 1000 := by omega
    generalize pre.length = m at i2 hpl ⊢
    clear he hi hok hw
    obtain ⟨op, k, v, s, n⟩ := t
    refine calls_go (nt := 21) (rs := [.tmp 4]) Tryd.func70 rfl rfl rfl (by simp) (by intro id h; simp at h <;> omega) ?_; intro Q hQ hW
    repeat' (first
    | (with_reducible refine run_n ?_; with_reducible first | refine hK _ _ (by simp) ?_ | refine hK _ _ ?_; clear hK K)
    | (refine zzc ?_)
    | (with_reducible refine awp_regT (by kernel_rfl) ?_; intro K hK)
    | (with_reducible refine a_cond (ht := ?_) (hf := ?_) <;> intro hb <;> (try simp at hb) <;> (try contradiction) <;> (try subst hb) <;> (try omega))
    | (with_reducible first | refine a_move (hr:=?_) | refine a_assign (hr:=?_) | refine a_load (hr:=?_) | refine a_fieldAddr (hr:=?_) | refine a_bin (hr:=?_) | refine a_idxArr (hr:=?_) | refine a_indexAddr (hr:=?_) | refine a_call0 (hcall := q1) (hr:=?_))
    | fail)
    refine awp_inv (α := Nat) (fun k => [(0, .sl 5 (e.map termAV)), (1, .raw (.int .i64 (if k = 2 then (i : Int) else if k = 1 then (w : Int) else m))), (5, .raw (.int .i64 k))]) (fun _ => hpL []) (fun k => k ≤ 2) (fun k => k) 2 (Nat.le_refl _) (zzw) ?_
    intro k hk
    rcases (show k = 2 ∨ k = 1 ∨ k = 0 by omega) with rfl | rfl | rfl
    · simp only [if_true]
      repeat' (first
    | (with_reducible refine run_n ?_; with_reducible first | refine hK _ _ (by simp) ?_ | refine hK _ _ ?_; clear hK K)
    | (refine zzc ?_)
    | (with_reducible refine awp_regT (by kernel_rfl) ?_; intro K hK)
    | (with_reducible refine a_cond (ht := ?_) (hf := ?_) <;> intro hb <;> (try simp at hb) <;> (try contradiction) <;> (try subst hb) <;> (try omega))
    | (with_reducible first | refine a_move (hr:=?_) | refine a_assign (hr:=?_) | refine a_load (hr:=?_) | refine a_fieldAddr (hr:=?_) | refine a_bin (hr:=?_) | refine a_idxArr (hr:=?_) | refine a_indexAddr (hr:=?_) | refine a_callF (hcall := i1) (hr:=?_))
    | fail)
      exact ⟨1, by omega, by omega, zzw⟩
    · simp only [show ¬ (1 : Nat) = 2 by decide, if_false, if_true]
      repeat' (first
    | (with_reducible refine run_n ?_; with_reducible first | refine hK _ _ (by simp) ?_ | refine hK _ _ ?_; clear hK K)
    | (refine zzc ?_)
    | (with_reducible refine awp_regT (by kernel_rfl) ?_; intro K hK)
    | (with_reducible refine a_cond (ht := ?_) (hf := ?_) <;> intro hb <;> (try simp at hb) <;> (try contradiction) <;> (try subst hb) <;> (try omega))
    | (with_reducible first | refine a_move (hr:=?_) | refine a_assign (hr:=?_) | refine a_load (hr:=?_) | refine a_fieldAddr (hr:=?_) | refine a_bin (hr:=?_) | refine a_idxArr (hr:=?_) | refine a_indexAddr (hr:=?_) | refine a_callF (hcall := i2) (hr:=?_))
    | fail)
      exact ⟨0, by omega, by omega, zzw⟩
    · simp only [show ¬ (0 : Nat) = 2 by decide, show ¬ (0 : Nat) = 1 by decide, if_false]
      repeat' (first
    | (with_reducible refine run_n ?_; with_reducible first | refine hK _ _ (by simp) ?_ | refine hK _ _ ?_; clear hK K)
    | (refine zzc ?_)
    | (with_reducible refine awp_regT (by kernel_rfl) ?_; intro K hK)
    | (with_reducible refine a_cond (ht := ?_) (hf := ?_) <;> intro hb <;> (try simp at hb) <;> (try contradiction) <;> (try subst hb) <;> (try omega))
    | (with_reducible first | refine a_move (hr:=?_) | refine a_assign (hr:=?_) | refine a_load (hr:=?_) | refine a_fieldAddr (hr:=?_) | refine a_bin (hr:=?_) | refine a_idxArr (hr:=?_) | refine a_indexAddr (hr:=?_))
    | fail)
      all_goals ((refine zzr hQ ?_))
      all_goals (exact Fin.drop (by simp; exact .r) (by simp))
/-- A part, as it is held. -/
def hldE (p : Pc) (b : Bool) : Pc := if b = true then ⟨⟨#[40]⟩ ++ p.s ++ ⟨#[41]⟩, 6, p.deep + 1⟩ else p
theorem c_rheld (e : List TermV) (t x : TermV) (i : Nat) (r : Bool) (p : Pc) (hl : e.length ≤ 1000) (ht : 0 ≤ t.op ∧ t.op ≤ 18) (hxo : 0 ≤ x.op ∧ x.op ≤ 18) (hx : e[i]? = some x) (hs : p.s.size ≤ 1000000) (hd : 0 ≤ p.deep ∧ p.deep ≤ 1000000)
    (hp : CallD Tryd.prog 46 [.sl 5 (e.map termAV), .raw (.int .i64 i)] noHeap (.tup [.raw (.string p.s), .raw (.int .i64 p.deep)]) noHeap) :
    CallD Tryd.prog 68 [.sl 5 (e.map termAV), termAV t, .raw (.int .i64 i), .raw (.bool r)] noHeap (.tup [.raw (.string (hldE p (brB t.op x.op r)).s), .raw (.int .i64 (hldE p (brB t.op x.op r)).deep)]) noHeap := by
  have q1 := c_brackets t x r ht hxo
  have hie : i < e.length := (List.getElem?_eq_some_iff.1 hx).1
  generalize brB t.op x.op r = b at q1 ⊢
  obtain ⟨s, str, dp⟩ := p
  obtain ⟨op, k, v, ts, n⟩ := t
  obtain ⟨xp, xk, xv, xs, xn⟩ := x
  simp only at hs hd hp ht
  unfold hldE
  cases b with
  | true =>
    simp only [if_true]
    refine calls_go (nt := 32) (rs := [.tmp 8, .tmp 9]) Tryd.func68 rfl rfl rfl (by simp) (by intro id h; simp at h <;> omega) ?_; intro Q hQ hW
    repeat' (first
    | (with_reducible refine run_n ?_; with_reducible first | refine hK _ _ (by simp) ?_ | refine hK _ _ ?_; clear hK K)
    | (refine zzc ?_)
    | (with_reducible refine awp_regT (by kernel_rfl) ?_; intro K hK)
    | (with_reducible refine awp_regCM (id := 2) [(5, some 5)] [(5, some 5), (18, none), (21, none), (22, none), (23, none)] mixed (by kernel_rfl) (by kernel_rfl) (by kernel_rfl) ?_; intro K hK)
    | (with_reducible refine a_cond (ht := ?_) (hf := ?_) <;> intro hb <;> (try simp at hb) <;> (try contradiction) <;> (try subst hb) <;> (try omega))
    | (with_reducible first | refine a_move (hr:=?_) | refine a_assign (hr:=?_) | refine a_load (hr:=?_) | refine a_bin (hr:=?_) | refine a_extract (hr:=?_) | refine a_box (hr:=?_) | refine a_idxArr (hr:=?_) | refine a_indexAddr (hr:=?_) | refine a_callF (hcall := hp) (hr:=?_) | refine a_call0 (hcall := q1) (hr:=?_))
    | fail)
    all_goals ((refine zzr hQ ?_))
    all_goals (exact Fin.drop (by simp; exact .r) (by simp))
  | false =>
    simp only [Bool.false_eq_true, if_false]
    refine calls_go (nt := 32) (rs := [.tmp 8, .tmp 9]) Tryd.func68 rfl rfl rfl (by simp) (by intro id h; simp at h <;> omega) ?_; intro Q hQ hW
    repeat' (first
    | (with_reducible refine run_n ?_; with_reducible first | refine hK _ _ (by simp) ?_ | refine hK _ _ ?_; clear hK K)
    | (refine zzc ?_)
    | (with_reducible refine awp_regT (by kernel_rfl) ?_; intro K hK)
    | (with_reducible refine awp_regCM (id := 2) [(5, some 5)] [(5, some 5), (18, none), (21, none), (22, none), (23, none)] mixed (by kernel_rfl) (by kernel_rfl) (by kernel_rfl) ?_; intro K hK)
    | (with_reducible refine a_cond (ht := ?_) (hf := ?_) <;> intro hb <;> (try simp at hb) <;> (try contradiction) <;> (try subst hb) <;> (try omega))
    | (with_reducible first | refine a_move (hr:=?_) | refine a_assign (hr:=?_) | refine a_load (hr:=?_) | refine a_bin (hr:=?_) | refine a_extract (hr:=?_) | refine a_box (hr:=?_) | refine a_idxArr (hr:=?_) | refine a_indexAddr (hr:=?_) | refine a_callF (hcall := hp) (hr:=?_) | refine a_call0 (hcall := q1) (hr:=?_))
    | fail)
    all_goals ((refine zzr hQ ?_))
    all_goals (exact Fin.drop (by simp; exact .r) (by simp))
end Go.Proofs.YtjbbnollidcagaaDoor.Asl

