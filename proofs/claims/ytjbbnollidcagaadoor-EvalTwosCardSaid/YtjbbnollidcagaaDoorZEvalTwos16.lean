/- Part 16 of what the row leans on: abstract values and states, their rules, and the contracts of the functions. -/
import Derived.Test.YtjbbnollidcagaaDoorZEvalTwos15
namespace Go.Proofs.YtjbbnollidcagaaDoor.Asl
open Go Go.RowKit
set_option linter.unusedVariables false
set_option linter.unusedSimpArgs false
set_option maxRecDepth 100000
set_option maxHeartbeats 4000000
structure TermV where
  op : Int
  k : Int
  v : Int
  s : ByteArray
  n : ByteArray
  deriving DecidableEq
@[simp] def termAV (t : TermV) : AV := .agg [.raw (.int .i64 t.op), valAV t.k t.v t.s, .raw (.string t.n)]
instance : FlatF termAV := ⟨fun x => by simp⟩
def resB (w : ByteArray) : Bool := decide (w = ⟨#[116, 114, 117, 101]⟩) || decide (w = ⟨#[102, 97, 108, 115, 101]⟩) || decide (w = ⟨#[104, 97, 115]⟩) || decide (w = ⟨#[108, 101, 110]⟩)
theorem c_reserved (w : ByteArray) : CallD Tryd.prog 92 [.raw (.string w)] noHeap (.raw (.bool (resB w))) noHeap := by
  generalize hr : resB w = r
  unfold resB at hr
  by_cases h1 : w = ⟨#[116, 114, 117, 101]⟩
  · subst h1; obtain rfl : r = true := by simpa using hr.symm
    refine calls_go (nt := 17) (rs := [.tmp 2]) Tryd.func92 rfl rfl rfl (by simp) (by intro id h; simp at h <;> omega) ?_; intro Q hQ hW
    repeat' (first
    | (with_reducible refine run_n ?_; with_reducible first | refine hK _ _ (by simp) ?_ | refine hK _ _ ?_; clear hK K)
    | (with_reducible first | refine awp_seq ?_ | refine then_n ?_ | refine then_r ?_ | refine then_e ?_ | refine awp_skip ?_ | refine awp_label ?_ | refine awp_ret ?_ | refine awp_exit ?_ | refine awp_block ?_ | refine awp_scope ?_ | refine in_n ?_ | refine in_r ?_ | refine in_e ?_ | refine in_ne (by decide) ?_ | refine ng_n ?_ | refine ng_r ?_ | refine ng_e ?_)
    | (with_reducible refine awp_regT (by kernel_rfl) ?_; intro K hK)
    | (with_reducible refine a_cond (ht := ?_) (hf := ?_) <;> intro hb <;> (try simp at hb) <;> (try contradiction) <;> (try subst hb) <;> (try omega))
    | (with_reducible first | refine a_move (hr := ?_) | refine a_assign (hr := ?_) | refine a_bin (hr := ?_) | refine a_pick (hr := ?_) | refine a_eqB (hr := ?_) | refine a_eqS (hr := ?_) | refine a_gT (hr := ?_) | refine a_gF (hr := ?_) | refine a_gU (hr := ?_))
    | (with_reducible refine a_gB (hT := ?_) (hF := ?_) <;> intro hb <;> (try simp at hb) <;> (try contradiction) <;> (try subst hb) <;> (try omega))
    | fail)
    all_goals ((refine hQ _ _ _ _ (by first | exact .inr rfl | exact .inl rfl) (by simp; exact .r) (by simp; exact .r) ?_))
    all_goals (exact Fin.drop (by simp; exact .r) (by simp))
  by_cases h2 : w = ⟨#[102, 97, 108, 115, 101]⟩
  · subst h2; obtain rfl : r = true := by simpa using hr.symm
    refine calls_go (nt := 17) (rs := [.tmp 2]) Tryd.func92 rfl rfl rfl (by simp) (by intro id h; simp at h <;> omega) ?_; intro Q hQ hW
    repeat' (first
    | (with_reducible refine run_n ?_; with_reducible first | refine hK _ _ (by simp) ?_ | refine hK _ _ ?_; clear hK K)
    | (with_reducible first | refine awp_seq ?_ | refine then_n ?_ | refine then_r ?_ | refine then_e ?_ | refine awp_skip ?_ | refine awp_label ?_ | refine awp_ret ?_ | refine awp_exit ?_ | refine awp_block ?_ | refine awp_scope ?_ | refine in_n ?_ | refine in_r ?_ | refine in_e ?_ | refine in_ne (by decide) ?_ | refine ng_n ?_ | refine ng_r ?_ | refine ng_e ?_)
    | (with_reducible refine awp_regT (by kernel_rfl) ?_; intro K hK)
    | (with_reducible refine a_cond (ht := ?_) (hf := ?_) <;> intro hb <;> (try simp at hb) <;> (try contradiction) <;> (try subst hb) <;> (try omega))
    | (with_reducible first | refine a_move (hr := ?_) | refine a_assign (hr := ?_) | refine a_bin (hr := ?_) | refine a_pick (hr := ?_) | refine a_eqB (hr := ?_) | refine a_eqS (hr := ?_) | refine a_gT (hr := ?_) | refine a_gF (hr := ?_) | refine a_gU (hr := ?_))
    | (with_reducible refine a_gB (hT := ?_) (hF := ?_) <;> intro hb <;> (try simp at hb) <;> (try contradiction) <;> (try subst hb) <;> (try omega))
    | fail)
    all_goals ((refine hQ _ _ _ _ (by first | exact .inr rfl | exact .inl rfl) (by simp; exact .r) (by simp; exact .r) ?_))
    all_goals (exact Fin.drop (by simp; exact .r) (by simp))
  by_cases h3 : w = ⟨#[104, 97, 115]⟩
  · subst h3; obtain rfl : r = true := by simpa using hr.symm
    refine calls_go (nt := 17) (rs := [.tmp 2]) Tryd.func92 rfl rfl rfl (by simp) (by intro id h; simp at h <;> omega) ?_; intro Q hQ hW
    repeat' (first
    | (with_reducible refine run_n ?_; with_reducible first | refine hK _ _ (by simp) ?_ | refine hK _ _ ?_; clear hK K)
    | (with_reducible first | refine awp_seq ?_ | refine then_n ?_ | refine then_r ?_ | refine then_e ?_ | refine awp_skip ?_ | refine awp_label ?_ | refine awp_ret ?_ | refine awp_exit ?_ | refine awp_block ?_ | refine awp_scope ?_ | refine in_n ?_ | refine in_r ?_ | refine in_e ?_ | refine in_ne (by decide) ?_ | refine ng_n ?_ | refine ng_r ?_ | refine ng_e ?_)
    | (with_reducible refine awp_regT (by kernel_rfl) ?_; intro K hK)
    | (with_reducible refine a_cond (ht := ?_) (hf := ?_) <;> intro hb <;> (try simp at hb) <;> (try contradiction) <;> (try subst hb) <;> (try omega))
    | (with_reducible first | refine a_move (hr := ?_) | refine a_assign (hr := ?_) | refine a_bin (hr := ?_) | refine a_pick (hr := ?_) | refine a_eqB (hr := ?_) | refine a_eqS (hr := ?_) | refine a_gT (hr := ?_) | refine a_gF (hr := ?_) | refine a_gU (hr := ?_))
    | (with_reducible refine a_gB (hT := ?_) (hF := ?_) <;> intro hb <;> (try simp at hb) <;> (try contradiction) <;> (try subst hb) <;> (try omega))
    | fail)
    all_goals ((refine hQ _ _ _ _ (by first | exact .inr rfl | exact .inl rfl) (by simp; exact .r) (by simp; exact .r) ?_))
    all_goals (exact Fin.drop (by simp; exact .r) (by simp))
  obtain rfl : r = decide (w = ⟨#[108, 101, 110]⟩) := by simpa [h1, h2, h3] using hr.symm
  clear hr
  refine calls_go (nt := 17) (rs := [.tmp 2]) Tryd.func92 rfl rfl rfl (by simp) (by intro id h; simp at h <;> omega) ?_; intro Q hQ hW
  repeat' (first
    | (with_reducible refine run_n ?_; with_reducible first | refine hK _ _ (by simp) ?_ | refine hK _ _ ?_; clear hK K)
    | (with_reducible first | refine awp_seq ?_ | refine then_n ?_ | refine then_r ?_ | refine then_e ?_ | refine awp_skip ?_ | refine awp_label ?_ | refine awp_ret ?_ | refine awp_exit ?_ | refine awp_block ?_ | refine awp_scope ?_ | refine in_n ?_ | refine in_r ?_ | refine in_e ?_ | refine in_ne (by decide) ?_ | refine ng_n ?_ | refine ng_r ?_ | refine ng_e ?_)
    | (with_reducible refine awp_regT (by kernel_rfl) ?_; intro K hK)
    | (with_reducible refine a_cond (ht := ?_) (hf := ?_) <;> intro hb <;> (try simp at hb) <;> (try contradiction) <;> (try subst hb) <;> (try omega))
    | (with_reducible first | refine a_move (hr := ?_) | refine a_assign (hr := ?_) | refine a_bin (hr := ?_) | refine a_pick (hr := ?_) | refine a_eqB (hr := ?_) | refine a_eqS (hr := ?_) | refine a_gT (hr := ?_) | refine a_gF (hr := ?_) | refine a_gU (hr := ?_))
    | (with_reducible refine a_gB (hT := ?_) (hF := ?_) <;> intro hb <;> (try simp at hb) <;> (try contradiction) <;> (try subst hb) <;> (try omega))
    | fail)
  all_goals ((refine hQ _ _ _ _ (by first | exact .inr rfl | exact .inl rfl) (by simp; exact .r) (by simp; exact .r) ?_))
  all_goals (exact Fin.drop (by simp; exact .r) (by simp))
/-- What is wrong with a term by itself. -/
def ownE (t : TermV) : Int :=
  if t.op < 0 ∨ 18 < t.op then 1
  else if t.op ≠ 0 ∧ ¬ (t.k = 0 ∧ t.v = 0 ∧ t.s = ⟨#[]⟩) then 1
  else if ¬ (t.op = 1 ∨ t.op = 2) ∧ t.n ≠ ⟨#[]⟩ then 1
  else if t.op = 1 ∨ t.op = 2 then (if resB t.n = true ∨ nameB (bytesOf t.n) = false then 30 else 0)
  else if t.op ≠ 0 then 0
  else if rightE t.k t.v t.s ≠ 0 then rightE t.k t.v t.s
  else if t.k = 1 ∧ t.v < 0 then 1 else 0
theorem c_own (t : TermV) (hn : t.n.size < 9223372036854775808) : CallD Tryd.prog 85 [termAV t] noHeap (.raw (.int .i64 (ownE t))) noHeap := by
  obtain ⟨op, k, v, s, n⟩ := t
  have p1 := c_reserved n
  have p2 := c_Name n hn
  have p3 := c_Right k v s
  simp only [ownE]
  simp only at hn
  by_cases h1 : op < 0 ∨ 18 < op
  · rw [if_pos h1]
    refine calls_go (nt := 72) (rs := [.tmp 2]) Tryd.func85 rfl rfl rfl (by simp) (by intro id h; simp at h <;> omega) ?_; intro Q hQ hW
    repeat' (first
    | (with_reducible refine run_n ?_; with_reducible first | refine hK _ _ (by simp) ?_ | refine hK _ _ ?_; clear hK K)
    | (with_reducible first | refine awp_seq ?_ | refine then_n ?_ | refine then_r ?_ | refine then_e ?_ | refine awp_skip ?_ | refine awp_label ?_ | refine awp_ret ?_ | refine awp_exit ?_ | refine awp_block ?_ | refine awp_scope ?_ | refine in_n ?_ | refine in_r ?_ | refine in_e ?_ | refine in_ne (by decide) ?_ | refine ng_n ?_ | refine ng_r ?_ | refine ng_e ?_)
    | (with_reducible refine awp_regT (by kernel_rfl) ?_; intro K hK)
    | (with_reducible refine a_cond (ht := ?_) (hf := ?_) <;> intro hb <;> (try simp at hb) <;> (try contradiction) <;> (try subst hb) <;> (try omega))
    | (with_reducible first | refine a_move (hr := ?_) | refine a_assign (hr := ?_) | refine a_load (hr := ?_) | refine a_fieldAddr (hr := ?_) | refine a_bin (hr := ?_) | refine a_pick (hr := ?_) | refine a_un (hr := ?_) | refine a_box (hr := ?_) | refine a_eqB (hr := ?_) | refine a_neB (hr := ?_) | refine a_eqS (hr := ?_) | refine a_neS (hr := ?_) | refine a_build (hr := ?_) | refine a_call0 (hcall := p1) (hr := ?_) | refine a_call0 (hcall := p2) (hr := ?_) | refine a_call0 (hcall := p3) (hr := ?_) | refine a_gT (hr := ?_) | refine a_gF (hr := ?_) | refine a_gU (hr := ?_))
    | (with_reducible refine a_gB (hT := ?_) (hF := ?_) <;> intro hb <;> (try simp at hb) <;> (try contradiction) <;> (try subst hb) <;> (try omega))
    | fail)
    all_goals first
      | (exfalso; simp_all; done)
      | (exfalso; omega)
      | ((refine hQ _ _ _ _ (by first | exact .inr rfl | exact .inl rfl) (by simp; exact .r) (by simp; exact .r) ?_); exact Fin.drop (by simp; exact .r) (by simp))
  rw [if_neg h1]
  by_cases h0 : op = 0
  · subst h0
    rw [if_neg (by simp)]
    by_cases hn0 : n = ⟨#[]⟩
    · subst hn0
      rw [if_neg (by simp), if_neg (by decide), if_neg (by simp)]
      by_cases hr : rightE k v s = 0
      · rw [hr] at p3 ⊢
        rw [if_neg (by simp)]
        by_cases h5 : k = 1 ∧ v < 0
        · rw [if_pos h5]
          obtain ⟨rfl, h5⟩ := h5
          refine calls_go (nt := 72) (rs := [.tmp 2]) Tryd.func85 rfl rfl rfl (by simp) (by intro id h; simp at h <;> omega) ?_; intro Q hQ hW
          repeat' (first
    | (with_reducible refine run_n ?_; with_reducible first | refine hK _ _ (by simp) ?_ | refine hK _ _ ?_; clear hK K)
    | (with_reducible first | refine awp_seq ?_ | refine then_n ?_ | refine then_r ?_ | refine then_e ?_ | refine awp_skip ?_ | refine awp_label ?_ | refine awp_ret ?_ | refine awp_exit ?_ | refine awp_block ?_ | refine awp_scope ?_ | refine in_n ?_ | refine in_r ?_ | refine in_e ?_ | refine in_ne (by decide) ?_ | refine ng_n ?_ | refine ng_r ?_ | refine ng_e ?_)
    | (with_reducible refine awp_regT (by kernel_rfl) ?_; intro K hK)
    | (with_reducible refine a_cond (ht := ?_) (hf := ?_) <;> intro hb <;> (try simp at hb) <;> (try contradiction) <;> (try subst hb) <;> (try omega))
    | (with_reducible first | refine a_move (hr := ?_) | refine a_assign (hr := ?_) | refine a_load (hr := ?_) | refine a_fieldAddr (hr := ?_) | refine a_bin (hr := ?_) | refine a_pick (hr := ?_) | refine a_un (hr := ?_) | refine a_box (hr := ?_) | refine a_eqB (hr := ?_) | refine a_neB (hr := ?_) | refine a_eqS (hr := ?_) | refine a_neS (hr := ?_) | refine a_build (hr := ?_) | refine a_call0 (hcall := p1) (hr := ?_) | refine a_call0 (hcall := p2) (hr := ?_) | refine a_call0 (hcall := p3) (hr := ?_) | refine a_gT (hr := ?_) | refine a_gF (hr := ?_) | refine a_gU (hr := ?_))
    | (with_reducible refine a_gB (hT := ?_) (hF := ?_) <;> intro hb <;> (try simp at hb) <;> (try contradiction) <;> (try subst hb) <;> (try omega))
    | fail)
          all_goals first
            | (exfalso; simp_all; done)
            | (exfalso; omega)
            | ((refine hQ _ _ _ _ (by first | exact .inr rfl | exact .inl rfl) (by simp; exact .r) (by simp; exact .r) ?_); exact Fin.drop (by simp; exact .r) (by simp))
        · rw [if_neg h5]
          by_cases k1 : k = 1
          · subst k1
            have h5 : ¬ v < 0 := fun h => h5 ⟨rfl, h⟩
            refine calls_go (nt := 72) (rs := [.tmp 2]) Tryd.func85 rfl rfl rfl (by simp) (by intro id h; simp at h <;> omega) ?_; intro Q hQ hW
            repeat' (first
    | (with_reducible refine run_n ?_; with_reducible first | refine hK _ _ (by simp) ?_ | refine hK _ _ ?_; clear hK K)
    | (with_reducible first | refine awp_seq ?_ | refine then_n ?_ | refine then_r ?_ | refine then_e ?_ | refine awp_skip ?_ | refine awp_label ?_ | refine awp_ret ?_ | refine awp_exit ?_ | refine awp_block ?_ | refine awp_scope ?_ | refine in_n ?_ | refine in_r ?_ | refine in_e ?_ | refine in_ne (by decide) ?_ | refine ng_n ?_ | refine ng_r ?_ | refine ng_e ?_)
    | (with_reducible refine awp_regT (by kernel_rfl) ?_; intro K hK)
    | (with_reducible refine a_cond (ht := ?_) (hf := ?_) <;> intro hb <;> (try simp at hb) <;> (try contradiction) <;> (try subst hb) <;> (try omega))
    | (with_reducible first | refine a_move (hr := ?_) | refine a_assign (hr := ?_) | refine a_load (hr := ?_) | refine a_fieldAddr (hr := ?_) | refine a_bin (hr := ?_) | refine a_pick (hr := ?_) | refine a_un (hr := ?_) | refine a_box (hr := ?_) | refine a_eqB (hr := ?_) | refine a_neB (hr := ?_) | refine a_eqS (hr := ?_) | refine a_neS (hr := ?_) | refine a_build (hr := ?_) | refine a_call0 (hcall := p1) (hr := ?_) | refine a_call0 (hcall := p2) (hr := ?_) | refine a_call0 (hcall := p3) (hr := ?_) | refine a_gT (hr := ?_) | refine a_gF (hr := ?_) | refine a_gU (hr := ?_))
    | (with_reducible refine a_gB (hT := ?_) (hF := ?_) <;> intro hb <;> (try simp at hb) <;> (try contradiction) <;> (try subst hb) <;> (try omega))
    | fail)
            all_goals first
              | (exfalso; simp_all; done)
              | (exfalso; omega)
              | ((refine hQ _ _ _ _ (by first | exact .inr rfl | exact .inl rfl) (by simp; exact .r) (by simp; exact .r) ?_); exact Fin.drop (by simp; exact .r) (by simp))
          · clear h5
            refine calls_go (nt := 72) (rs := [.tmp 2]) Tryd.func85 rfl rfl rfl (by simp) (by intro id h; simp at h <;> omega) ?_; intro Q hQ hW
            repeat' (first
    | (with_reducible refine run_n ?_; with_reducible first | refine hK _ _ (by simp) ?_ | refine hK _ _ ?_; clear hK K)
    | (with_reducible first | refine awp_seq ?_ | refine then_n ?_ | refine then_r ?_ | refine then_e ?_ | refine awp_skip ?_ | refine awp_label ?_ | refine awp_ret ?_ | refine awp_exit ?_ | refine awp_block ?_ | refine awp_scope ?_ | refine in_n ?_ | refine in_r ?_ | refine in_e ?_ | refine in_ne (by decide) ?_ | refine ng_n ?_ | refine ng_r ?_ | refine ng_e ?_)
    | (with_reducible refine awp_regT (by kernel_rfl) ?_; intro K hK)
    | (with_reducible refine a_cond (ht := ?_) (hf := ?_) <;> intro hb <;> (try simp at hb) <;> (try contradiction) <;> (try subst hb) <;> (try omega))
    | (with_reducible first | refine a_move (hr := ?_) | refine a_assign (hr := ?_) | refine a_load (hr := ?_) | refine a_fieldAddr (hr := ?_) | refine a_bin (hr := ?_) | refine a_pick (hr := ?_) | refine a_un (hr := ?_) | refine a_box (hr := ?_) | refine a_eqB (hr := ?_) | refine a_neB (hr := ?_) | refine a_eqS (hr := ?_) | refine a_neS (hr := ?_) | refine a_build (hr := ?_) | refine a_call0 (hcall := p1) (hr := ?_) | refine a_call0 (hcall := p2) (hr := ?_) | refine a_call0 (hcall := p3) (hr := ?_) | refine a_gT (hr := ?_) | refine a_gF (hr := ?_) | refine a_gU (hr := ?_))
    | (with_reducible refine a_gB (hT := ?_) (hF := ?_) <;> intro hb <;> (try simp at hb) <;> (try contradiction) <;> (try subst hb) <;> (try omega))
    | fail)
            all_goals first
              | (exfalso; simp_all; done)
              | (exfalso; omega)
              | ((refine hQ _ _ _ _ (by first | exact .inr rfl | exact .inl rfl) (by simp; exact .r) (by simp; exact .r) ?_); exact Fin.drop (by simp; exact .r) (by simp))
      · rw [if_pos hr]
        generalize rightE k v s = e at p3 hr ⊢
        refine calls_go (nt := 72) (rs := [.tmp 2]) Tryd.func85 rfl rfl rfl (by simp) (by intro id h; simp at h <;> omega) ?_; intro Q hQ hW
        repeat' (first
    | (with_reducible refine run_n ?_; with_reducible first | refine hK _ _ (by simp) ?_ | refine hK _ _ ?_; clear hK K)
    | (with_reducible first | refine awp_seq ?_ | refine then_n ?_ | refine then_r ?_ | refine then_e ?_ | refine awp_skip ?_ | refine awp_label ?_ | refine awp_ret ?_ | refine awp_exit ?_ | refine awp_block ?_ | refine awp_scope ?_ | refine in_n ?_ | refine in_r ?_ | refine in_e ?_ | refine in_ne (by decide) ?_ | refine ng_n ?_ | refine ng_r ?_ | refine ng_e ?_)
    | (with_reducible refine awp_regT (by kernel_rfl) ?_; intro K hK)
    | (with_reducible refine a_cond (ht := ?_) (hf := ?_) <;> intro hb <;> (try simp at hb) <;> (try contradiction) <;> (try subst hb) <;> (try omega))
    | (with_reducible first | refine a_move (hr := ?_) | refine a_assign (hr := ?_) | refine a_load (hr := ?_) | refine a_fieldAddr (hr := ?_) | refine a_bin (hr := ?_) | refine a_pick (hr := ?_) | refine a_un (hr := ?_) | refine a_box (hr := ?_) | refine a_eqB (hr := ?_) | refine a_neB (hr := ?_) | refine a_eqS (hr := ?_) | refine a_neS (hr := ?_) | refine a_build (hr := ?_) | refine a_call0 (hcall := p1) (hr := ?_) | refine a_call0 (hcall := p2) (hr := ?_) | refine a_call0 (hcall := p3) (hr := ?_) | refine a_gT (hr := ?_) | refine a_gF (hr := ?_) | refine a_gU (hr := ?_))
    | (with_reducible refine a_gB (hT := ?_) (hF := ?_) <;> intro hb <;> (try simp at hb) <;> (try contradiction) <;> (try subst hb) <;> (try omega))
    | fail)
        all_goals first
          | (exfalso; simp_all; done)
          | (exfalso; omega)
          | ((refine hQ _ _ _ _ (by first | exact .inr rfl | exact .inl rfl) (by simp; exact .r) (by simp; exact .r) ?_); exact Fin.drop (by simp; exact .r) (by simp))
    · rw [if_pos ⟨by decide, hn0⟩]
      refine calls_go (nt := 72) (rs := [.tmp 2]) Tryd.func85 rfl rfl rfl (by simp) (by intro id h; simp at h <;> omega) ?_; intro Q hQ hW
      repeat' (first
    | (with_reducible refine run_n ?_; with_reducible first | refine hK _ _ (by simp) ?_ | refine hK _ _ ?_; clear hK K)
    | (with_reducible first | refine awp_seq ?_ | refine then_n ?_ | refine then_r ?_ | refine then_e ?_ | refine awp_skip ?_ | refine awp_label ?_ | refine awp_ret ?_ | refine awp_exit ?_ | refine awp_block ?_ | refine awp_scope ?_ | refine in_n ?_ | refine in_r ?_ | refine in_e ?_ | refine in_ne (by decide) ?_ | refine ng_n ?_ | refine ng_r ?_ | refine ng_e ?_)
    | (with_reducible refine awp_regT (by kernel_rfl) ?_; intro K hK)
    | (with_reducible refine a_cond (ht := ?_) (hf := ?_) <;> intro hb <;> (try simp at hb) <;> (try contradiction) <;> (try subst hb) <;> (try omega))
    | (with_reducible first | refine a_move (hr := ?_) | refine a_assign (hr := ?_) | refine a_load (hr := ?_) | refine a_fieldAddr (hr := ?_) | refine a_bin (hr := ?_) | refine a_pick (hr := ?_) | refine a_un (hr := ?_) | refine a_box (hr := ?_) | refine a_eqB (hr := ?_) | refine a_neB (hr := ?_) | refine a_eqS (hr := ?_) | refine a_neS (hr := ?_) | refine a_build (hr := ?_) | refine a_call0 (hcall := p1) (hr := ?_) | refine a_call0 (hcall := p2) (hr := ?_) | refine a_call0 (hcall := p3) (hr := ?_) | refine a_gT (hr := ?_) | refine a_gF (hr := ?_) | refine a_gU (hr := ?_))
    | (with_reducible refine a_gB (hT := ?_) (hF := ?_) <;> intro hb <;> (try simp at hb) <;> (try contradiction) <;> (try subst hb) <;> (try omega))
    | fail)
      all_goals first
        | (exfalso; simp_all; done)
        | (exfalso; omega)
        | ((refine hQ _ _ _ _ (by first | exact .inr rfl | exact .inl rfl) (by simp; exact .r) (by simp; exact .r) ?_); exact Fin.drop (by simp; exact .r) (by simp))
  · by_cases hv : k = 0 ∧ v = 0 ∧ s = ⟨#[]⟩
    · obtain ⟨rfl, rfl, rfl⟩ := hv
      rw [if_neg (by simp)]
      by_cases h12 : op = 1 ∨ op = 2
      · rw [if_neg (fun h => h.1 h12), if_pos h12]
        generalize resB n = b1 at p1 ⊢
        generalize nameB (bytesOf n) = b2 at p2 ⊢
        rcases h12 with rfl | rfl
        · cases b1 <;> cases b2
          · rw [if_pos (by simp)]
            refine calls_go (nt := 72) (rs := [.tmp 2]) Tryd.func85 rfl rfl rfl (by simp) (by intro id h; simp at h <;> omega) ?_; intro Q hQ hW
            repeat' (first
    | (with_reducible refine run_n ?_; with_reducible first | refine hK _ _ (by simp) ?_ | refine hK _ _ ?_; clear hK K)
    | (with_reducible first | refine awp_seq ?_ | refine then_n ?_ | refine then_r ?_ | refine then_e ?_ | refine awp_skip ?_ | refine awp_label ?_ | refine awp_ret ?_ | refine awp_exit ?_ | refine awp_block ?_ | refine awp_scope ?_ | refine in_n ?_ | refine in_r ?_ | refine in_e ?_ | refine in_ne (by decide) ?_ | refine ng_n ?_ | refine ng_r ?_ | refine ng_e ?_)
    | (with_reducible refine awp_regT (by kernel_rfl) ?_; intro K hK)
    | (with_reducible refine a_cond (ht := ?_) (hf := ?_) <;> intro hb <;> (try simp at hb) <;> (try contradiction) <;> (try subst hb) <;> (try omega))
    | (with_reducible first | refine a_move (hr := ?_) | refine a_assign (hr := ?_) | refine a_load (hr := ?_) | refine a_fieldAddr (hr := ?_) | refine a_bin (hr := ?_) | refine a_pick (hr := ?_) | refine a_un (hr := ?_) | refine a_box (hr := ?_) | refine a_eqB (hr := ?_) | refine a_neB (hr := ?_) | refine a_eqS (hr := ?_) | refine a_neS (hr := ?_) | refine a_build (hr := ?_) | refine a_call0 (hcall := p1) (hr := ?_) | refine a_call0 (hcall := p2) (hr := ?_) | refine a_call0 (hcall := p3) (hr := ?_) | refine a_gT (hr := ?_) | refine a_gF (hr := ?_) | refine a_gU (hr := ?_))
    | (with_reducible refine a_gB (hT := ?_) (hF := ?_) <;> intro hb <;> (try simp at hb) <;> (try contradiction) <;> (try subst hb) <;> (try omega))
    | fail)
            all_goals first
              | (exfalso; simp_all; done)
              | (exfalso; omega)
              | ((refine hQ _ _ _ _ (by first | exact .inr rfl | exact .inl rfl) (by simp; exact .r) (by simp; exact .r) ?_); exact Fin.drop (by simp; exact .r) (by simp))
          · rw [if_neg (by simp)]
            refine calls_go (nt := 72) (rs := [.tmp 2]) Tryd.func85 rfl rfl rfl (by simp) (by intro id h; simp at h <;> omega) ?_; intro Q hQ hW
            repeat' (first
    | (with_reducible refine run_n ?_; with_reducible first | refine hK _ _ (by simp) ?_ | refine hK _ _ ?_; clear hK K)
    | (with_reducible first | refine awp_seq ?_ | refine then_n ?_ | refine then_r ?_ | refine then_e ?_ | refine awp_skip ?_ | refine awp_label ?_ | refine awp_ret ?_ | refine awp_exit ?_ | refine awp_block ?_ | refine awp_scope ?_ | refine in_n ?_ | refine in_r ?_ | refine in_e ?_ | refine in_ne (by decide) ?_ | refine ng_n ?_ | refine ng_r ?_ | refine ng_e ?_)
    | (with_reducible refine awp_regT (by kernel_rfl) ?_; intro K hK)
    | (with_reducible refine a_cond (ht := ?_) (hf := ?_) <;> intro hb <;> (try simp at hb) <;> (try contradiction) <;> (try subst hb) <;> (try omega))
    | (with_reducible first | refine a_move (hr := ?_) | refine a_assign (hr := ?_) | refine a_load (hr := ?_) | refine a_fieldAddr (hr := ?_) | refine a_bin (hr := ?_) | refine a_pick (hr := ?_) | refine a_un (hr := ?_) | refine a_box (hr := ?_) | refine a_eqB (hr := ?_) | refine a_neB (hr := ?_) | refine a_eqS (hr := ?_) | refine a_neS (hr := ?_) | refine a_build (hr := ?_) | refine a_call0 (hcall := p1) (hr := ?_) | refine a_call0 (hcall := p2) (hr := ?_) | refine a_call0 (hcall := p3) (hr := ?_) | refine a_gT (hr := ?_) | refine a_gF (hr := ?_) | refine a_gU (hr := ?_))
    | (with_reducible refine a_gB (hT := ?_) (hF := ?_) <;> intro hb <;> (try simp at hb) <;> (try contradiction) <;> (try subst hb) <;> (try omega))
    | fail)
            all_goals first
              | (exfalso; simp_all; done)
              | (exfalso; omega)
              | ((refine hQ _ _ _ _ (by first | exact .inr rfl | exact .inl rfl) (by simp; exact .r) (by simp; exact .r) ?_); exact Fin.drop (by simp; exact .r) (by simp))
          · rw [if_pos (by simp)]
            refine calls_go (nt := 72) (rs := [.tmp 2]) Tryd.func85 rfl rfl rfl (by simp) (by intro id h; simp at h <;> omega) ?_; intro Q hQ hW
            repeat' (first
    | (with_reducible refine run_n ?_; with_reducible first | refine hK _ _ (by simp) ?_ | refine hK _ _ ?_; clear hK K)
    | (with_reducible first | refine awp_seq ?_ | refine then_n ?_ | refine then_r ?_ | refine then_e ?_ | refine awp_skip ?_ | refine awp_label ?_ | refine awp_ret ?_ | refine awp_exit ?_ | refine awp_block ?_ | refine awp_scope ?_ | refine in_n ?_ | refine in_r ?_ | refine in_e ?_ | refine in_ne (by decide) ?_ | refine ng_n ?_ | refine ng_r ?_ | refine ng_e ?_)
    | (with_reducible refine awp_regT (by kernel_rfl) ?_; intro K hK)
    | (with_reducible refine a_cond (ht := ?_) (hf := ?_) <;> intro hb <;> (try simp at hb) <;> (try contradiction) <;> (try subst hb) <;> (try omega))
    | (with_reducible first | refine a_move (hr := ?_) | refine a_assign (hr := ?_) | refine a_load (hr := ?_) | refine a_fieldAddr (hr := ?_) | refine a_bin (hr := ?_) | refine a_pick (hr := ?_) | refine a_un (hr := ?_) | refine a_box (hr := ?_) | refine a_eqB (hr := ?_) | refine a_neB (hr := ?_) | refine a_eqS (hr := ?_) | refine a_neS (hr := ?_) | refine a_build (hr := ?_) | refine a_call0 (hcall := p1) (hr := ?_) | refine a_call0 (hcall := p2) (hr := ?_) | refine a_call0 (hcall := p3) (hr := ?_) | refine a_gT (hr := ?_) | refine a_gF (hr := ?_) | refine a_gU (hr := ?_))
    | (with_reducible refine a_gB (hT := ?_) (hF := ?_) <;> intro hb <;> (try simp at hb) <;> (try contradiction) <;> (try subst hb) <;> (try omega))
    | fail)
            all_goals first
              | (exfalso; simp_all; done)
              | (exfalso; omega)
              | ((refine hQ _ _ _ _ (by first | exact .inr rfl | exact .inl rfl) (by simp; exact .r) (by simp; exact .r) ?_); exact Fin.drop (by simp; exact .r) (by simp))
          · rw [if_pos (by simp)]
            refine calls_go (nt := 72) (rs := [.tmp 2]) Tryd.func85 rfl rfl rfl (by simp) (by intro id h; simp at h <;> omega) ?_; intro Q hQ hW
            repeat' (first
    | (with_reducible refine run_n ?_; with_reducible first | refine hK _ _ (by simp) ?_ | refine hK _ _ ?_; clear hK K)
    | (with_reducible first | refine awp_seq ?_ | refine then_n ?_ | refine then_r ?_ | refine then_e ?_ | refine awp_skip ?_ | refine awp_label ?_ | refine awp_ret ?_ | refine awp_exit ?_ | refine awp_block ?_ | refine awp_scope ?_ | refine in_n ?_ | refine in_r ?_ | refine in_e ?_ | refine in_ne (by decide) ?_ | refine ng_n ?_ | refine ng_r ?_ | refine ng_e ?_)
    | (with_reducible refine awp_regT (by kernel_rfl) ?_; intro K hK)
    | (with_reducible refine a_cond (ht := ?_) (hf := ?_) <;> intro hb <;> (try simp at hb) <;> (try contradiction) <;> (try subst hb) <;> (try omega))
    | (with_reducible first | refine a_move (hr := ?_) | refine a_assign (hr := ?_) | refine a_load (hr := ?_) | refine a_fieldAddr (hr := ?_) | refine a_bin (hr := ?_) | refine a_pick (hr := ?_) | refine a_un (hr := ?_) | refine a_box (hr := ?_) | refine a_eqB (hr := ?_) | refine a_neB (hr := ?_) | refine a_eqS (hr := ?_) | refine a_neS (hr := ?_) | refine a_build (hr := ?_) | refine a_call0 (hcall := p1) (hr := ?_) | refine a_call0 (hcall := p2) (hr := ?_) | refine a_call0 (hcall := p3) (hr := ?_) | refine a_gT (hr := ?_) | refine a_gF (hr := ?_) | refine a_gU (hr := ?_))
    | (with_reducible refine a_gB (hT := ?_) (hF := ?_) <;> intro hb <;> (try simp at hb) <;> (try contradiction) <;> (try subst hb) <;> (try omega))
    | fail)
            all_goals first
              | (exfalso; simp_all; done)
              | (exfalso; omega)
              | ((refine hQ _ _ _ _ (by first | exact .inr rfl | exact .inl rfl) (by simp; exact .r) (by simp; exact .r) ?_); exact Fin.drop (by simp; exact .r) (by simp))
        · cases b1 <;> cases b2
          · rw [if_pos (by simp)]
            refine calls_go (nt := 72) (rs := [.tmp 2]) Tryd.func85 rfl rfl rfl (by simp) (by intro id h; simp at h <;> omega) ?_; intro Q hQ hW
            repeat' (first
    | (with_reducible refine run_n ?_; with_reducible first | refine hK _ _ (by simp) ?_ | refine hK _ _ ?_; clear hK K)
    | (with_reducible first | refine awp_seq ?_ | refine then_n ?_ | refine then_r ?_ | refine then_e ?_ | refine awp_skip ?_ | refine awp_label ?_ | refine awp_ret ?_ | refine awp_exit ?_ | refine awp_block ?_ | refine awp_scope ?_ | refine in_n ?_ | refine in_r ?_ | refine in_e ?_ | refine in_ne (by decide) ?_ | refine ng_n ?_ | refine ng_r ?_ | refine ng_e ?_)
    | (with_reducible refine awp_regT (by kernel_rfl) ?_; intro K hK)
    | (with_reducible refine a_cond (ht := ?_) (hf := ?_) <;> intro hb <;> (try simp at hb) <;> (try contradiction) <;> (try subst hb) <;> (try omega))
    | (with_reducible first | refine a_move (hr := ?_) | refine a_assign (hr := ?_) | refine a_load (hr := ?_) | refine a_fieldAddr (hr := ?_) | refine a_bin (hr := ?_) | refine a_pick (hr := ?_) | refine a_un (hr := ?_) | refine a_box (hr := ?_) | refine a_eqB (hr := ?_) | refine a_neB (hr := ?_) | refine a_eqS (hr := ?_) | refine a_neS (hr := ?_) | refine a_build (hr := ?_) | refine a_call0 (hcall := p1) (hr := ?_) | refine a_call0 (hcall := p2) (hr := ?_) | refine a_call0 (hcall := p3) (hr := ?_) | refine a_gT (hr := ?_) | refine a_gF (hr := ?_) | refine a_gU (hr := ?_))
    | (with_reducible refine a_gB (hT := ?_) (hF := ?_) <;> intro hb <;> (try simp at hb) <;> (try contradiction) <;> (try subst hb) <;> (try omega))
    | fail)
            all_goals first
              | (exfalso; simp_all; done)
              | (exfalso; omega)
              | ((refine hQ _ _ _ _ (by first | exact .inr rfl | exact .inl rfl) (by simp; exact .r) (by simp; exact .r) ?_); exact Fin.drop (by simp; exact .r) (by simp))
          · rw [if_neg (by simp)]
            refine calls_go (nt := 72) (rs := [.tmp 2]) Tryd.func85 rfl rfl rfl (by simp) (by intro id h; simp at h <;> omega) ?_; intro Q hQ hW
            repeat' (first
    | (with_reducible refine run_n ?_; with_reducible first | refine hK _ _ (by simp) ?_ | refine hK _ _ ?_; clear hK K)
    | (with_reducible first | refine awp_seq ?_ | refine then_n ?_ | refine then_r ?_ | refine then_e ?_ | refine awp_skip ?_ | refine awp_label ?_ | refine awp_ret ?_ | refine awp_exit ?_ | refine awp_block ?_ | refine awp_scope ?_ | refine in_n ?_ | refine in_r ?_ | refine in_e ?_ | refine in_ne (by decide) ?_ | refine ng_n ?_ | refine ng_r ?_ | refine ng_e ?_)
    | (with_reducible refine awp_regT (by kernel_rfl) ?_; intro K hK)
    | (with_reducible refine a_cond (ht := ?_) (hf := ?_) <;> intro hb <;> (try simp at hb) <;> (try contradiction) <;> (try subst hb) <;> (try omega))
    | (with_reducible first | refine a_move (hr := ?_) | refine a_assign (hr := ?_) | refine a_load (hr := ?_) | refine a_fieldAddr (hr := ?_) | refine a_bin (hr := ?_) | refine a_pick (hr := ?_) | refine a_un (hr := ?_) | refine a_box (hr := ?_) | refine a_eqB (hr := ?_) | refine a_neB (hr := ?_) | refine a_eqS (hr := ?_) | refine a_neS (hr := ?_) | refine a_build (hr := ?_) | refine a_call0 (hcall := p1) (hr := ?_) | refine a_call0 (hcall := p2) (hr := ?_) | refine a_call0 (hcall := p3) (hr := ?_) | refine a_gT (hr := ?_) | refine a_gF (hr := ?_) | refine a_gU (hr := ?_))
    | (with_reducible refine a_gB (hT := ?_) (hF := ?_) <;> intro hb <;> (try simp at hb) <;> (try contradiction) <;> (try subst hb) <;> (try omega))
    | fail)
            all_goals first
              | (exfalso; simp_all; done)
              | (exfalso; omega)
              | ((refine hQ _ _ _ _ (by first | exact .inr rfl | exact .inl rfl) (by simp; exact .r) (by simp; exact .r) ?_); exact Fin.drop (by simp; exact .r) (by simp))
          · rw [if_pos (by simp)]
            refine calls_go (nt := 72) (rs := [.tmp 2]) Tryd.func85 rfl rfl rfl (by simp) (by intro id h; simp at h <;> omega) ?_; intro Q hQ hW
            repeat' (first
    | (with_reducible refine run_n ?_; with_reducible first | refine hK _ _ (by simp) ?_ | refine hK _ _ ?_; clear hK K)
    | (with_reducible first | refine awp_seq ?_ | refine then_n ?_ | refine then_r ?_ | refine then_e ?_ | refine awp_skip ?_ | refine awp_label ?_ | refine awp_ret ?_ | refine awp_exit ?_ | refine awp_block ?_ | refine awp_scope ?_ | refine in_n ?_ | refine in_r ?_ | refine in_e ?_ | refine in_ne (by decide) ?_ | refine ng_n ?_ | refine ng_r ?_ | refine ng_e ?_)
    | (with_reducible refine awp_regT (by kernel_rfl) ?_; intro K hK)
    | (with_reducible refine a_cond (ht := ?_) (hf := ?_) <;> intro hb <;> (try simp at hb) <;> (try contradiction) <;> (try subst hb) <;> (try omega))
    | (with_reducible first | refine a_move (hr := ?_) | refine a_assign (hr := ?_) | refine a_load (hr := ?_) | refine a_fieldAddr (hr := ?_) | refine a_bin (hr := ?_) | refine a_pick (hr := ?_) | refine a_un (hr := ?_) | refine a_box (hr := ?_) | refine a_eqB (hr := ?_) | refine a_neB (hr := ?_) | refine a_eqS (hr := ?_) | refine a_neS (hr := ?_) | refine a_build (hr := ?_) | refine a_call0 (hcall := p1) (hr := ?_) | refine a_call0 (hcall := p2) (hr := ?_) | refine a_call0 (hcall := p3) (hr := ?_) | refine a_gT (hr := ?_) | refine a_gF (hr := ?_) | refine a_gU (hr := ?_))
    | (with_reducible refine a_gB (hT := ?_) (hF := ?_) <;> intro hb <;> (try simp at hb) <;> (try contradiction) <;> (try subst hb) <;> (try omega))
    | fail)
            all_goals first
              | (exfalso; simp_all; done)
              | (exfalso; omega)
              | ((refine hQ _ _ _ _ (by first | exact .inr rfl | exact .inl rfl) (by simp; exact .r) (by simp; exact .r) ?_); exact Fin.drop (by simp; exact .r) (by simp))
          · rw [if_pos (by simp)]
            refine calls_go (nt := 72) (rs := [.tmp 2]) Tryd.func85 rfl rfl rfl (by simp) (by intro id h; simp at h <;> omega) ?_; intro Q hQ hW
            repeat' (first
    | (with_reducible refine run_n ?_; with_reducible first | refine hK _ _ (by simp) ?_ | refine hK _ _ ?_; clear hK K)
    | (with_reducible first | refine awp_seq ?_ | refine then_n ?_ | refine then_r ?_ | refine then_e ?_ | refine awp_skip ?_ | refine awp_label ?_ | refine awp_ret ?_ | refine awp_exit ?_ | refine awp_block ?_ | refine awp_scope ?_ | refine in_n ?_ | refine in_r ?_ | refine in_e ?_ | refine in_ne (by decide) ?_ | refine ng_n ?_ | refine ng_r ?_ | refine ng_e ?_)
    | (with_reducible refine awp_regT (by kernel_rfl) ?_; intro K hK)
    | (with_reducible refine a_cond (ht := ?_) (hf := ?_) <;> intro hb <;> (try simp at hb) <;> (try contradiction) <;> (try subst hb) <;> (try omega))
    | (with_reducible first | refine a_move (hr := ?_) | refine a_assign (hr := ?_) | refine a_load (hr := ?_) | refine a_fieldAddr (hr := ?_) | refine a_bin (hr := ?_) | refine a_pick (hr := ?_) | refine a_un (hr := ?_) | refine a_box (hr := ?_) | refine a_eqB (hr := ?_) | refine a_neB (hr := ?_) | refine a_eqS (hr := ?_) | refine a_neS (hr := ?_) | refine a_build (hr := ?_) | refine a_call0 (hcall := p1) (hr := ?_) | refine a_call0 (hcall := p2) (hr := ?_) | refine a_call0 (hcall := p3) (hr := ?_) | refine a_gT (hr := ?_) | refine a_gF (hr := ?_) | refine a_gU (hr := ?_))
    | (with_reducible refine a_gB (hT := ?_) (hF := ?_) <;> intro hb <;> (try simp at hb) <;> (try contradiction) <;> (try subst hb) <;> (try omega))
    | fail)
            all_goals first
              | (exfalso; simp_all; done)
              | (exfalso; omega)
              | ((refine hQ _ _ _ _ (by first | exact .inr rfl | exact .inl rfl) (by simp; exact .r) (by simp; exact .r) ?_); exact Fin.drop (by simp; exact .r) (by simp))
      · by_cases hn0 : n = ⟨#[]⟩
        · subst hn0
          rw [if_neg (by simp), if_neg h12, if_pos h0]
          refine calls_go (nt := 72) (rs := [.tmp 2]) Tryd.func85 rfl rfl rfl (by simp) (by intro id h; simp at h <;> omega) ?_; intro Q hQ hW
          repeat' (first
    | (with_reducible refine run_n ?_; with_reducible first | refine hK _ _ (by simp) ?_ | refine hK _ _ ?_; clear hK K)
    | (with_reducible first | refine awp_seq ?_ | refine then_n ?_ | refine then_r ?_ | refine then_e ?_ | refine awp_skip ?_ | refine awp_label ?_ | refine awp_ret ?_ | refine awp_exit ?_ | refine awp_block ?_ | refine awp_scope ?_ | refine in_n ?_ | refine in_r ?_ | refine in_e ?_ | refine in_ne (by decide) ?_ | refine ng_n ?_ | refine ng_r ?_ | refine ng_e ?_)
    | (with_reducible refine awp_regT (by kernel_rfl) ?_; intro K hK)
    | (with_reducible refine a_cond (ht := ?_) (hf := ?_) <;> intro hb <;> (try simp at hb) <;> (try contradiction) <;> (try subst hb) <;> (try omega))
    | (with_reducible first | refine a_move (hr := ?_) | refine a_assign (hr := ?_) | refine a_load (hr := ?_) | refine a_fieldAddr (hr := ?_) | refine a_bin (hr := ?_) | refine a_pick (hr := ?_) | refine a_un (hr := ?_) | refine a_box (hr := ?_) | refine a_eqB (hr := ?_) | refine a_neB (hr := ?_) | refine a_eqS (hr := ?_) | refine a_neS (hr := ?_) | refine a_build (hr := ?_) | refine a_call0 (hcall := p1) (hr := ?_) | refine a_call0 (hcall := p2) (hr := ?_) | refine a_call0 (hcall := p3) (hr := ?_) | refine a_gT (hr := ?_) | refine a_gF (hr := ?_) | refine a_gU (hr := ?_))
    | (with_reducible refine a_gB (hT := ?_) (hF := ?_) <;> intro hb <;> (try simp at hb) <;> (try contradiction) <;> (try subst hb) <;> (try omega))
    | fail)
          all_goals first
            | (exfalso; simp_all; done)
            | (exfalso; omega)
            | ((refine hQ _ _ _ _ (by first | exact .inr rfl | exact .inl rfl) (by simp; exact .r) (by simp; exact .r) ?_); exact Fin.drop (by simp; exact .r) (by simp))
        · rw [if_pos ⟨h12, hn0⟩]
          refine calls_go (nt := 72) (rs := [.tmp 2]) Tryd.func85 rfl rfl rfl (by simp) (by intro id h; simp at h <;> omega) ?_; intro Q hQ hW
          repeat' (first
    | (with_reducible refine run_n ?_; with_reducible first | refine hK _ _ (by simp) ?_ | refine hK _ _ ?_; clear hK K)
    | (with_reducible first | refine awp_seq ?_ | refine then_n ?_ | refine then_r ?_ | refine then_e ?_ | refine awp_skip ?_ | refine awp_label ?_ | refine awp_ret ?_ | refine awp_exit ?_ | refine awp_block ?_ | refine awp_scope ?_ | refine in_n ?_ | refine in_r ?_ | refine in_e ?_ | refine in_ne (by decide) ?_ | refine ng_n ?_ | refine ng_r ?_ | refine ng_e ?_)
    | (with_reducible refine awp_regT (by kernel_rfl) ?_; intro K hK)
    | (with_reducible refine a_cond (ht := ?_) (hf := ?_) <;> intro hb <;> (try simp at hb) <;> (try contradiction) <;> (try subst hb) <;> (try omega))
    | (with_reducible first | refine a_move (hr := ?_) | refine a_assign (hr := ?_) | refine a_load (hr := ?_) | refine a_fieldAddr (hr := ?_) | refine a_bin (hr := ?_) | refine a_pick (hr := ?_) | refine a_un (hr := ?_) | refine a_box (hr := ?_) | refine a_eqB (hr := ?_) | refine a_neB (hr := ?_) | refine a_eqS (hr := ?_) | refine a_neS (hr := ?_) | refine a_build (hr := ?_) | refine a_call0 (hcall := p1) (hr := ?_) | refine a_call0 (hcall := p2) (hr := ?_) | refine a_call0 (hcall := p3) (hr := ?_) | refine a_gT (hr := ?_) | refine a_gF (hr := ?_) | refine a_gU (hr := ?_))
    | (with_reducible refine a_gB (hT := ?_) (hF := ?_) <;> intro hb <;> (try simp at hb) <;> (try contradiction) <;> (try subst hb) <;> (try omega))
    | fail)
          all_goals first
            | (exfalso; simp_all; done)
            | (exfalso; omega)
            | ((refine hQ _ _ _ _ (by first | exact .inr rfl | exact .inl rfl) (by simp; exact .r) (by simp; exact .r) ?_); exact Fin.drop (by simp; exact .r) (by simp))
    · rw [if_pos ⟨h0, hv⟩]
      refine calls_go (nt := 72) (rs := [.tmp 2]) Tryd.func85 rfl rfl rfl (by simp) (by intro id h; simp at h <;> omega) ?_; intro Q hQ hW
      repeat' (first
    | (with_reducible refine run_n ?_; with_reducible first | refine hK _ _ (by simp) ?_ | refine hK _ _ ?_; clear hK K)
    | (with_reducible first | refine awp_seq ?_ | refine then_n ?_ | refine then_r ?_ | refine then_e ?_ | refine awp_skip ?_ | refine awp_label ?_ | refine awp_ret ?_ | refine awp_exit ?_ | refine awp_block ?_ | refine awp_scope ?_ | refine in_n ?_ | refine in_r ?_ | refine in_e ?_ | refine in_ne (by decide) ?_ | refine ng_n ?_ | refine ng_r ?_ | refine ng_e ?_)
    | (with_reducible refine awp_regT (by kernel_rfl) ?_; intro K hK)
    | (with_reducible refine a_cond (ht := ?_) (hf := ?_) <;> intro hb <;> (try simp at hb) <;> (try contradiction) <;> (try subst hb) <;> (try omega))
    | (with_reducible first | refine a_move (hr := ?_) | refine a_assign (hr := ?_) | refine a_load (hr := ?_) | refine a_fieldAddr (hr := ?_) | refine a_bin (hr := ?_) | refine a_pick (hr := ?_) | refine a_un (hr := ?_) | refine a_box (hr := ?_) | refine a_eqB (hr := ?_) | refine a_neB (hr := ?_) | refine a_eqS (hr := ?_) | refine a_neS (hr := ?_) | refine a_build (hr := ?_) | refine a_call0 (hcall := p1) (hr := ?_) | refine a_call0 (hcall := p2) (hr := ?_) | refine a_call0 (hcall := p3) (hr := ?_) | refine a_gT (hr := ?_) | refine a_gF (hr := ?_) | refine a_gU (hr := ?_))
    | (with_reducible refine a_gB (hT := ?_) (hF := ?_) <;> intro hb <;> (try simp at hb) <;> (try contradiction) <;> (try subst hb) <;> (try omega))
    | fail)
      all_goals first
        | (exfalso; simp_all; done)
        | (exfalso; omega)
        | ((refine hQ _ _ _ _ (by first | exact .inr rfl | exact .inl rfl) (by simp; exact .r) (by simp; exact .r) ?_); exact Fin.drop (by simp; exact .r) (by simp))
end Go.Proofs.YtjbbnollidcagaaDoor.Asl

namespace Go.Proofs.YtjbbnollidcagaaDoor.Asl
open Go Go.RowKit
set_option linter.unusedVariables false
set_option linter.unusedSimpArgs false
set_option maxRecDepth 100000
set_option maxHeartbeats 4000000
def takesE (op : Int) : Nat := if op < 3 then 0 else if op < 6 then 1 else 2
def strE (op : Int) : Int := if op < 3 ∨ op = 5 then 6 else if op < 6 then 5 else if op < 9 then 4 else if op < 11 then 3 else if op < 17 then 2 else if op < 18 then 1 else 0
def sgnE (op : Int) : ByteArray :=
  if op = 3 ∨ op = 10 then ⟨#[45]⟩ else if op = 4 then ⟨#[33]⟩ else if op = 6 then ⟨#[42]⟩ else if op = 7 then ⟨#[47]⟩ else if op = 8 then ⟨#[37]⟩ else if op = 9 then ⟨#[43]⟩ else if op = 11 then ⟨#[60]⟩ else if op = 12 then ⟨#[60, 61]⟩
  else if op = 13 then ⟨#[62]⟩ else if op = 14 then ⟨#[62, 61]⟩ else if op = 15 then ⟨#[61, 61]⟩ else if op = 16 then ⟨#[33, 61]⟩ else if op = 17 then ⟨#[38, 38]⟩ else if op = 18 then ⟨#[124, 124]⟩ else ⟨#[]⟩
theorem ops {op : Int} (h : 0 ≤ op ∧ op ≤ 18) : op = 0 ∨ op = 1 ∨ op = 2 ∨ op = 3 ∨ op = 4 ∨ op = 5 ∨ op = 6 ∨ op = 7 ∨ op = 8 ∨ op = 9 ∨ op = 10 ∨ op = 11 ∨ op = 12 ∨ op = 13 ∨ op = 14 ∨ op = 15 ∨ op = 16 ∨ op = 17 ∨ op = 18 := by omega
theorem c_takes (op : Int) (h : 0 ≤ op ∧ op ≤ 18) : CallD Tryd.prog 86 [.raw (.int .i64 op)] noHeap (.raw (.int .i64 (takesE op))) noHeap := by
  rcases ops h with rfl | rfl | rfl | rfl | rfl | rfl | rfl | rfl | rfl | rfl | rfl | rfl | rfl | rfl | rfl | rfl | rfl | rfl | rfl
  all_goals
    refine calls_go (nt := 9) (rs := [.tmp 2]) Tryd.func86 rfl rfl rfl (by simp) (by intro id h; simp at h <;> omega) ?_; intro Q hQ hW
    repeat' (first
    | (with_reducible refine run_n ?_; with_reducible first | refine hK _ _ (by simp) ?_ | refine hK _ _ ?_; clear hK K)
    | (with_reducible first | refine awp_seq ?_ | refine then_n ?_ | refine then_r ?_ | refine then_e ?_ | refine awp_skip ?_ | refine awp_label ?_ | refine awp_ret ?_ | refine awp_exit ?_ | refine awp_block ?_ | refine awp_scope ?_ | refine in_n ?_ | refine in_r ?_ | refine in_e ?_ | refine in_ne (by decide) ?_ | refine ng_n ?_ | refine ng_r ?_ | refine ng_e ?_)
    | (with_reducible refine awp_regT (by kernel_rfl) ?_; intro K hK)
    | (with_reducible refine a_cond (ht := ?_) (hf := ?_) <;> intro hb <;> (try simp at hb) <;> (try contradiction) <;> (try subst hb) <;> (try omega))
    | (with_reducible first | refine a_move (hr := ?_) | refine a_assign (hr := ?_) | refine a_bin (hr := ?_))
    | fail)
    all_goals ((refine hQ _ _ _ _ (by first | exact .inr rfl | exact .inl rfl) (by simp; exact .r) (by simp; exact .r) ?_))
    all_goals (exact Fin.drop (by simp; exact .r) (by simp))
theorem c_strength (op : Int) (h : 0 ≤ op ∧ op ≤ 18) : CallD Tryd.prog 95 [.raw (.int .i64 op)] noHeap (.raw (.int .i64 (strE op))) noHeap := by
  rcases ops h with rfl | rfl | rfl | rfl | rfl | rfl | rfl | rfl | rfl | rfl | rfl | rfl | rfl | rfl | rfl | rfl | rfl | rfl | rfl
  all_goals
    refine calls_go (nt := 39) (rs := [.tmp 2]) Tryd.func95 rfl rfl rfl (by simp) (by intro id h; simp at h <;> omega) ?_; intro Q hQ hW
    repeat' (first
    | (with_reducible refine run_n ?_; with_reducible first | refine hK _ _ (by simp) ?_ | refine hK _ _ ?_; clear hK K)
    | (with_reducible first | refine awp_seq ?_ | refine then_n ?_ | refine then_r ?_ | refine then_e ?_ | refine awp_skip ?_ | refine awp_label ?_ | refine awp_ret ?_ | refine awp_exit ?_ | refine awp_block ?_ | refine awp_scope ?_ | refine in_n ?_ | refine in_r ?_ | refine in_e ?_ | refine in_ne (by decide) ?_ | refine ng_n ?_ | refine ng_r ?_ | refine ng_e ?_)
    | (with_reducible refine awp_regT (by kernel_rfl) ?_; intro K hK)
    | (with_reducible refine a_cond (ht := ?_) (hf := ?_) <;> intro hb <;> (try simp at hb) <;> (try contradiction) <;> (try subst hb) <;> (try omega))
    | (with_reducible first | refine a_move (hr := ?_) | refine a_assign (hr := ?_) | refine a_bin (hr := ?_) | refine a_pick (hr := ?_) | refine a_eqB (hr := ?_) | refine a_eqS (hr := ?_) | refine a_gT (hr := ?_) | refine a_gF (hr := ?_) | refine a_gU (hr := ?_))
    | (with_reducible refine a_gB (hT := ?_) (hF := ?_) <;> intro hb <;> (try simp at hb) <;> (try contradiction) <;> (try subst hb) <;> (try omega))
    | fail)
    all_goals ((refine hQ _ _ _ _ (by first | exact .inr rfl | exact .inl rfl) (by simp; exact .r) (by simp; exact .r) ?_))
    all_goals (exact Fin.drop (by simp; exact .r) (by simp))
theorem c_sign (op : Int) (h : 0 ≤ op ∧ op ≤ 18) : CallD Tryd.prog 98 [.raw (.int .i64 op)] noHeap (.raw (.string (sgnE op))) noHeap := by
  rcases ops h with rfl | rfl | rfl | rfl | rfl | rfl | rfl | rfl | rfl | rfl | rfl | rfl | rfl | rfl | rfl | rfl | rfl | rfl | rfl
  all_goals
    refine calls_go (nt := 33) (rs := [.tmp 2]) Tryd.func98 rfl rfl rfl (by simp) (by intro id h; simp at h <;> omega) ?_; intro Q hQ hW
    repeat' (first
    | (with_reducible refine run_n ?_; with_reducible first | refine hK _ _ (by simp) ?_ | refine hK _ _ ?_; clear hK K)
    | (with_reducible first | refine awp_seq ?_ | refine then_n ?_ | refine then_r ?_ | refine then_e ?_ | refine awp_skip ?_ | refine awp_label ?_ | refine awp_ret ?_ | refine awp_exit ?_ | refine awp_block ?_ | refine awp_scope ?_ | refine in_n ?_ | refine in_r ?_ | refine in_e ?_ | refine in_ne (by decide) ?_ | refine ng_n ?_ | refine ng_r ?_ | refine ng_e ?_)
    | (with_reducible refine awp_regT (by kernel_rfl) ?_; intro K hK)
    | (with_reducible refine a_cond (ht := ?_) (hf := ?_) <;> intro hb <;> (try simp at hb) <;> (try contradiction) <;> (try subst hb) <;> (try omega))
    | (with_reducible first | refine a_move (hr := ?_) | refine a_assign (hr := ?_) | refine a_bin (hr := ?_) | refine a_eqB (hr := ?_) | refine a_eqS (hr := ?_))
    | fail)
    all_goals ((refine hQ _ _ _ _ (by first | exact .inr rfl | exact .inl rfl) (by simp; exact .r) (by simp; exact .r) ?_))
    all_goals (exact Fin.drop (by simp; exact .r) (by simp))
/-- A part as a text. -/
structure Pc where
  s : ByteArray
  str : Int
  deep : Int
@[simp] def pcAV (p : Pc) : AV := .agg [.raw (.string p.s), .raw (.int .i64 p.str), .raw (.int .i64 p.deep)]
instance : FlatF pcAV := ⟨fun x => by simp⟩
def heldE (p : Pc) (least : Int) : Pc := if least ≤ p.str then p else ⟨⟨#[40]⟩ ++ p.s ++ ⟨#[41]⟩, 6, p.deep + 1⟩
theorem c_held (p : Pc) (least : Int) (hs : p.s.size ≤ 1000000) (hd : -1000000 ≤ p.deep ∧ p.deep ≤ 1000000) : CallD Tryd.prog 97 [pcAV p, .raw (.int .i64 least)] noHeap (pcAV (heldE p least)) noHeap := by
  unfold heldE
  obtain ⟨s, st, d⟩ := p
  simp only at hs hd ⊢
  by_cases h : least ≤ st
  · rw [if_pos h]
    refine calls_go (nt := 18) (rs := [.cell 4 120]) Tryd.func97 rfl rfl rfl (by simp) (by intro id h; simp at h <;> omega) ?_; intro Q hQ hW
    repeat' (first
    | (with_reducible refine run_n ?_; with_reducible first | refine hK _ _ (by simp) ?_ | refine hK _ _ ?_; clear hK K)
    | (with_reducible first | refine awp_seq ?_ | refine then_n ?_ | refine then_r ?_ | refine then_e ?_ | refine awp_skip ?_ | refine awp_label ?_ | refine awp_ret ?_ | refine awp_exit ?_ | refine awp_block ?_ | refine awp_scope ?_ | refine in_n ?_ | refine in_r ?_ | refine in_e ?_ | refine in_ne (by decide) ?_ | refine ng_n ?_ | refine ng_r ?_ | refine ng_e ?_)
    | (with_reducible refine awp_regT (by kernel_rfl) ?_; intro K hK)
    | (with_reducible refine a_cond (ht := ?_) (hf := ?_) <;> intro hb <;> (try simp at hb) <;> (try contradiction) <;> (try subst hb) <;> (try omega))
    | (with_reducible first | refine a_move (hr := ?_) | refine a_load (hr := ?_) | refine a_fieldAddr (hr := ?_) | refine a_bin (hr := ?_) | refine a_store (hr := ?_) | refine a_box (hr := ?_) | refine a_alloc (hr := ?_) | refine a_build (hr := ?_))
    | fail)
    all_goals ((refine hQ _ _ _ _ (by first | exact .inr rfl | exact .inl rfl) (by simp; exact .r) (by simp; exact .r) ?_))
    all_goals (exact Fin.drop (by simp; exact .r) (by simp))
  · rw [if_neg h]
    refine calls_go (nt := 18) (rs := [.cell 4 120]) Tryd.func97 rfl rfl rfl (by simp) (by intro id h; simp at h <;> omega) ?_; intro Q hQ hW
    repeat' (first
    | (with_reducible refine run_n ?_; with_reducible first | refine hK _ _ (by simp) ?_ | refine hK _ _ ?_; clear hK K)
    | (with_reducible first | refine awp_seq ?_ | refine then_n ?_ | refine then_r ?_ | refine then_e ?_ | refine awp_skip ?_ | refine awp_label ?_ | refine awp_ret ?_ | refine awp_exit ?_ | refine awp_block ?_ | refine awp_scope ?_ | refine in_n ?_ | refine in_r ?_ | refine in_e ?_ | refine in_ne (by decide) ?_ | refine ng_n ?_ | refine ng_r ?_ | refine ng_e ?_)
    | (with_reducible refine awp_regT (by kernel_rfl) ?_; intro K hK)
    | (with_reducible refine a_cond (ht := ?_) (hf := ?_) <;> intro hb <;> (try simp at hb) <;> (try contradiction) <;> (try subst hb) <;> (try omega))
    | (with_reducible first | refine a_move (hr := ?_) | refine a_load (hr := ?_) | refine a_fieldAddr (hr := ?_) | refine a_bin (hr := ?_) | refine a_store (hr := ?_) | refine a_box (hr := ?_) | refine a_alloc (hr := ?_) | refine a_build (hr := ?_))
    | fail)
    all_goals ((refine hQ _ _ _ _ (by first | exact .inr rfl | exact .inl rfl) (by simp; exact .r) (by simp; exact .r) ?_))
    all_goals (exact Fin.drop (by simp; exact .r) (by simp))
end Go.Proofs.YtjbbnollidcagaaDoor.Asl

namespace Go.Proofs.YtjbbnollidcagaaDoor.Asl
open Go Go.RowKit
set_option linter.unusedVariables false
set_option linter.unusedSimpArgs false
set_option maxRecDepth 100000
set_option maxHeartbeats 4000000
theorem ownE_op {t : TermV} (h : ownE t = 0) : 0 ≤ t.op ∧ t.op ≤ 18 := by
  unfold ownE at h
  by_cases h1 : t.op < 0 ∨ 18 < t.op
  · rw [if_pos h1] at h; exact absurd h (by decide)
  · omega
def unE (t : TermV) (a : Pc) : Pc := if t.op = 5 then ⟨⟨#[108, 101, 110, 40]⟩ ++ a.s ++ ⟨#[41]⟩, 6, a.deep + 1⟩ else ⟨sgnE t.op ++ (heldE a (strE t.op)).s, strE t.op, (heldE a (strE t.op)).deep + 1⟩
def biE (t : TermV) (a b : Pc) : Pc := ⟨(heldE a (if strE t.op = 2 then 3 else strE t.op)).s ++ ⟨#[32]⟩ ++ sgnE t.op ++ ⟨#[32]⟩ ++ (heldE b (strE t.op + 1)).s, strE t.op, max (heldE a (if strE t.op = 2 then 3 else strE t.op)).deep (heldE b (strE t.op + 1)).deep⟩
def nulE (t : TermV) : Pc := if t.op = 0 then ⟨prtS t.k t.v t.s, 6, 0⟩ else if t.op = 1 then ⟨t.n, 6, 0⟩ else ⟨⟨#[104, 97, 115, 40]⟩ ++ t.n ++ ⟨#[41]⟩, 6, 1⟩
def joinE (t : TermV) : List Pc → Pc
  | [] => nulE t
  | [a] => unE t a
  | a :: b :: _ => biE t a b
def wfT (t : TermV) : Prop := -9223372036854775808 ≤ t.v ∧ t.v < 9223372036854775808 ∧ t.s.size ≤ 1000000 ∧ t.n.size ≤ 1000000
def wfP (p : Pc) : Prop := p.s.size ≤ 100000 ∧ 0 ≤ p.deep ∧ p.deep ≤ 1000
theorem held_wf {p : Pc} (h : wfP p) (k : Int) : (heldE p k).s.size ≤ 1000000 ∧ 0 ≤ (heldE p k).deep ∧ (heldE p k).deep ≤ 1001 := by
  obtain ⟨h1, h2, h3⟩ := h
  unfold heldE
  split
  · exact ⟨by omega, h2, by omega⟩
  · refine ⟨?_, by simp only; omega, by simp only; omega⟩
    simp only [ByteArray.size_append]
    have e1 : (⟨#[40]⟩ : ByteArray).size = 1 := rfl
    have e2 : (⟨#[41]⟩ : ByteArray).size = 1 := rfl
    omega
theorem sgn_size {op : Int} (h : 0 ≤ op ∧ op ≤ 18) : (sgnE op).size ≤ 2 := by
  rcases ops h with rfl | rfl | rfl | rfl | rfl | rfl | rfl | rfl | rfl | rfl | rfl | rfl | rfl | rfl | rfl | rfl | rfl | rfl | rfl <;> decide
theorem c_join (t : TermV) (l : List Pc) (ho : ownE t = 0) (hl : l.length = takesE t.op) (ht : wfT t) (hp : ∀ p ∈ l, wfP p) : CallD Tryd.prog 87 [termAV t, .sl 3 (l.map pcAV)] noHeap (pcAV (joinE t l)) noHeap := by
  have hop := ownE_op ho
  clear ho
  obtain ⟨op, k, v, s, n⟩ := t
  obtain ⟨t1, t2, t3, t4⟩ := ht
  simp only at hop hl t1 t2 t3 t4
  have q1 := c_strength op hop
  have q2 := c_Print k v s ⟨t1, t2⟩ t3
  have q3 := c_takes op hop
  have q4 := c_sign op hop
  have hsg := sgn_size hop
  rcases l with _ | ⟨a, _ | ⟨b, _ | ⟨c, l⟩⟩⟩
  · have hop2 : op < 3 := by
      unfold takesE at hl
      split at hl
      · assumption
      · split at hl <;> cases hl
    simp only [joinE, nulE]
    by_cases h0 : op = 0
    · subst h0
      rw [if_pos rfl]
      refine calls_go (nt := 108) (rs := [.cell 4 120]) Tryd.func87 rfl rfl rfl (by simp) (by intro id h; simp at h <;> omega) ?_; intro Q hQ hW
      repeat' (first
    | (with_reducible refine run_n ?_; with_reducible first | refine hK _ _ (by simp) ?_ | refine hK _ _ ?_; clear hK K)
    | (with_reducible first | refine awp_seq ?_ | refine then_n ?_ | refine then_r ?_ | refine then_e ?_ | refine awp_skip ?_ | refine awp_label ?_ | refine awp_ret ?_ | refine awp_exit ?_ | refine awp_block ?_ | refine awp_scope ?_ | refine in_n ?_ | refine in_r ?_ | refine in_e ?_ | refine in_ne (by decide) ?_ | refine ng_n ?_ | refine ng_r ?_ | refine ng_e ?_)
    | (with_reducible refine awp_regT (by kernel_rfl) ?_; intro K hK)
    | (with_reducible refine awp_regAM (id := 9) [(4, some 4)] mixed (by kernel_rfl) (by kernel_rfl) ?_; intro K hK)
    | (with_reducible refine awp_regAM (id := 12) [(4, some 4), (63, some 2), (66, some 6), (70, some 6)] mixed (by kernel_rfl) (by kernel_rfl) ?_; intro K hK)
    | (with_reducible refine awp_regAM (id := 16) [(8, some 8), (9, some 9)] mixed (by kernel_rfl) (by kernel_rfl) ?_; intro K hK)
    | (with_reducible refine awp_regAM (id := 17) [(4, some 4), (90, some 8), (93, some 2), (98, some 9), (102, some 8), (104, some 9)] mixed (by kernel_rfl) (by kernel_rfl) ?_; intro K hK)
    | (with_reducible refine a_cond (ht := ?_) (hf := ?_) <;> intro hb <;> (try simp at hb) <;> (try contradiction) <;> (try subst hb) <;> (try omega))
    | (with_reducible first | refine a_move (hr := ?_) | refine a_assign (hr := ?_) | refine a_load (hr := ?_) | refine a_fieldAddr (hr := ?_) | refine a_bin (hr := ?_) | refine a_store (hr := ?_) | refine a_box (hr := ?_) | refine a_alloc (hr := ?_) | refine a_eqB (hr := ?_) | refine a_idxArr (hr := ?_) | refine a_eqS (hr := ?_) | refine a_indexAddr (hr := ?_) | refine a_build (hr := ?_) | refine a_maxC (hr := ?_) | refine a_call0 (hcall := q1) (hr := ?_) | refine a_call0 (hcall := q2) (hr := ?_) | refine a_call0 (hcall := q3) (hr := ?_) | refine a_call0 (hcall := q4) (hr := ?_))
    | fail)
      all_goals ((refine hQ _ _ _ _ (by first | exact .inr rfl | exact .inl rfl) (by simp; exact .r) (by simp; exact .r) ?_))
      all_goals (exact Fin.drop (by simp; exact .r) (by simp))
    rw [if_neg h0]
    by_cases h1 : op = 1
    · subst h1
      rw [if_pos rfl]
      refine calls_go (nt := 108) (rs := [.cell 4 120]) Tryd.func87 rfl rfl rfl (by simp) (by intro id h; simp at h <;> omega) ?_; intro Q hQ hW
      repeat' (first
    | (with_reducible refine run_n ?_; with_reducible first | refine hK _ _ (by simp) ?_ | refine hK _ _ ?_; clear hK K)
    | (with_reducible first | refine awp_seq ?_ | refine then_n ?_ | refine then_r ?_ | refine then_e ?_ | refine awp_skip ?_ | refine awp_label ?_ | refine awp_ret ?_ | refine awp_exit ?_ | refine awp_block ?_ | refine awp_scope ?_ | refine in_n ?_ | refine in_r ?_ | refine in_e ?_ | refine in_ne (by decide) ?_ | refine ng_n ?_ | refine ng_r ?_ | refine ng_e ?_)
    | (with_reducible refine awp_regT (by kernel_rfl) ?_; intro K hK)
    | (with_reducible refine awp_regAM (id := 9) [(4, some 4)] mixed (by kernel_rfl) (by kernel_rfl) ?_; intro K hK)
    | (with_reducible refine awp_regAM (id := 12) [(4, some 4), (63, some 2), (66, some 6), (70, some 6)] mixed (by kernel_rfl) (by kernel_rfl) ?_; intro K hK)
    | (with_reducible refine awp_regAM (id := 16) [(8, some 8), (9, some 9)] mixed (by kernel_rfl) (by kernel_rfl) ?_; intro K hK)
    | (with_reducible refine awp_regAM (id := 17) [(4, some 4), (90, some 8), (93, some 2), (98, some 9), (102, some 8), (104, some 9)] mixed (by kernel_rfl) (by kernel_rfl) ?_; intro K hK)
    | (with_reducible refine a_cond (ht := ?_) (hf := ?_) <;> intro hb <;> (try simp at hb) <;> (try contradiction) <;> (try subst hb) <;> (try omega))
    | (with_reducible first | refine a_move (hr := ?_) | refine a_assign (hr := ?_) | refine a_load (hr := ?_) | refine a_fieldAddr (hr := ?_) | refine a_bin (hr := ?_) | refine a_store (hr := ?_) | refine a_box (hr := ?_) | refine a_alloc (hr := ?_) | refine a_eqB (hr := ?_) | refine a_idxArr (hr := ?_) | refine a_eqS (hr := ?_) | refine a_indexAddr (hr := ?_) | refine a_build (hr := ?_) | refine a_maxC (hr := ?_) | refine a_call0 (hcall := q1) (hr := ?_) | refine a_call0 (hcall := q2) (hr := ?_) | refine a_call0 (hcall := q3) (hr := ?_) | refine a_call0 (hcall := q4) (hr := ?_))
    | fail)
      all_goals ((refine hQ _ _ _ _ (by first | exact .inr rfl | exact .inl rfl) (by simp; exact .r) (by simp; exact .r) ?_))
      all_goals (exact Fin.drop (by simp; exact .r) (by simp))
    rw [if_neg h1]
    obtain rfl : op = 2 := by omega
    refine calls_go (nt := 108) (rs := [.cell 4 120]) Tryd.func87 rfl rfl rfl (by simp) (by intro id h; simp at h <;> omega) ?_; intro Q hQ hW
    repeat' (first
    | (with_reducible refine run_n ?_; with_reducible first | refine hK _ _ (by simp) ?_ | refine hK _ _ ?_; clear hK K)
    | (with_reducible first | refine awp_seq ?_ | refine then_n ?_ | refine then_r ?_ | refine then_e ?_ | refine awp_skip ?_ | refine awp_label ?_ | refine awp_ret ?_ | refine awp_exit ?_ | refine awp_block ?_ | refine awp_scope ?_ | refine in_n ?_ | refine in_r ?_ | refine in_e ?_ | refine in_ne (by decide) ?_ | refine ng_n ?_ | refine ng_r ?_ | refine ng_e ?_)
    | (with_reducible refine awp_regT (by kernel_rfl) ?_; intro K hK)
    | (with_reducible refine awp_regAM (id := 9) [(4, some 4)] mixed (by kernel_rfl) (by kernel_rfl) ?_; intro K hK)
    | (with_reducible refine awp_regAM (id := 12) [(4, some 4), (63, some 2), (66, some 6), (70, some 6)] mixed (by kernel_rfl) (by kernel_rfl) ?_; intro K hK)
    | (with_reducible refine awp_regAM (id := 16) [(8, some 8), (9, some 9)] mixed (by kernel_rfl) (by kernel_rfl) ?_; intro K hK)
    | (with_reducible refine awp_regAM (id := 17) [(4, some 4), (90, some 8), (93, some 2), (98, some 9), (102, some 8), (104, some 9)] mixed (by kernel_rfl) (by kernel_rfl) ?_; intro K hK)
    | (with_reducible refine a_cond (ht := ?_) (hf := ?_) <;> intro hb <;> (try simp at hb) <;> (try contradiction) <;> (try subst hb) <;> (try omega))
    | (with_reducible first | refine a_move (hr := ?_) | refine a_assign (hr := ?_) | refine a_load (hr := ?_) | refine a_fieldAddr (hr := ?_) | refine a_bin (hr := ?_) | refine a_store (hr := ?_) | refine a_box (hr := ?_) | refine a_alloc (hr := ?_) | refine a_eqB (hr := ?_) | refine a_idxArr (hr := ?_) | refine a_eqS (hr := ?_) | refine a_indexAddr (hr := ?_) | refine a_build (hr := ?_) | refine a_maxC (hr := ?_) | refine a_call0 (hcall := q1) (hr := ?_) | refine a_call0 (hcall := q2) (hr := ?_) | refine a_call0 (hcall := q3) (hr := ?_) | refine a_call0 (hcall := q4) (hr := ?_))
    | fail)
    all_goals ((refine hQ _ _ _ _ (by first | exact .inr rfl | exact .inl rfl) (by simp; exact .r) (by simp; exact .r) ?_))
    all_goals (exact Fin.drop (by simp; exact .r) (by simp))
  · have hop2 : 3 ≤ op ∧ op < 6 := by
      unfold takesE at hl
      split at hl
      · cases hl
      · split at hl
        · omega
        · cases hl
    have hpa := hp a (by simp)
    have w1 := held_wf hpa (strE op)
    have q5 := c_held a (strE op) (by have := hpa.1; omega) (by have := hpa.2; omega)
    rw [show (takesE op : Nat) = 1 from hl.symm] at q3
    simp only [joinE, unE]
    obtain ⟨h1, h2, h3⟩ := hpa
    obtain ⟨xa, xastr, xad⟩ := a
    simp only at h1 h2 h3
    generalize heldE ⟨xa, xastr, xad⟩ (strE op) = y at q5 w1 ⊢
    obtain ⟨ys, yst, yd⟩ := y
    simp only at w1
    clear hl hp
    by_cases h5 : op = 5
    · subst h5
      rw [if_pos rfl]
      refine calls_go (nt := 108) (rs := [.cell 4 120]) Tryd.func87 rfl rfl rfl (by simp) (by intro id h; simp at h <;> omega) ?_; intro Q hQ hW
      repeat' (first
    | (with_reducible refine run_n ?_; with_reducible first | refine hK _ _ (by simp) ?_ | refine hK _ _ ?_; clear hK K)
    | (with_reducible first | refine awp_seq ?_ | refine then_n ?_ | refine then_r ?_ | refine then_e ?_ | refine awp_skip ?_ | refine awp_label ?_ | refine awp_ret ?_ | refine awp_exit ?_ | refine awp_block ?_ | refine awp_scope ?_ | refine in_n ?_ | refine in_r ?_ | refine in_e ?_ | refine in_ne (by decide) ?_ | refine ng_n ?_ | refine ng_r ?_ | refine ng_e ?_)
    | (with_reducible refine awp_regT (by kernel_rfl) ?_; intro K hK)
    | (with_reducible refine awp_regAM (id := 9) [(4, some 4)] mixed (by kernel_rfl) (by kernel_rfl) ?_; intro K hK)
    | (with_reducible refine awp_regAM (id := 12) [(4, some 4), (63, some 2), (66, some 6), (70, some 6)] mixed (by kernel_rfl) (by kernel_rfl) ?_; intro K hK)
    | (with_reducible refine awp_regAM (id := 16) [(8, some 8), (9, some 9)] mixed (by kernel_rfl) (by kernel_rfl) ?_; intro K hK)
    | (with_reducible refine awp_regAM (id := 17) [(4, some 4), (90, some 8), (93, some 2), (98, some 9), (102, some 8), (104, some 9)] mixed (by kernel_rfl) (by kernel_rfl) ?_; intro K hK)
    | (with_reducible refine a_cond (ht := ?_) (hf := ?_) <;> intro hb <;> (try simp at hb) <;> (try contradiction) <;> (try subst hb) <;> (try omega))
    | (with_reducible first | refine a_move (hr := ?_) | refine a_assign (hr := ?_) | refine a_load (hr := ?_) | refine a_fieldAddr (hr := ?_) | refine a_bin (hr := ?_) | refine a_store (hr := ?_) | refine a_box (hr := ?_) | refine a_alloc (hr := ?_) | refine a_eqB (hr := ?_) | refine a_idxArr (hr := ?_) | refine a_eqS (hr := ?_) | refine a_indexAddr (hr := ?_) | refine a_build (hr := ?_) | refine a_maxC (hr := ?_) | refine a_call0 (hcall := q1) (hr := ?_) | refine a_call0 (hcall := q2) (hr := ?_) | refine a_call0 (hcall := q3) (hr := ?_) | refine a_call0 (hcall := q4) (hr := ?_))
    | fail)
      all_goals ((refine hQ _ _ _ _ (by first | exact .inr rfl | exact .inl rfl) (by simp; exact .r) (by simp; exact .r) ?_))
      all_goals (exact Fin.drop (by simp; exact .r) (by simp))
    · rw [if_neg h5]
      generalize strE op = st at q1 q5 ⊢
      generalize sgnE op = sg at q4 hsg ⊢
      refine calls_go (nt := 108) (rs := [.cell 4 120]) Tryd.func87 rfl rfl rfl (by simp) (by intro id h; simp at h <;> omega) ?_; intro Q hQ hW
      repeat' (first
    | (with_reducible refine run_n ?_; with_reducible first | refine hK _ _ (by simp) ?_ | refine hK _ _ ?_; clear hK K)
    | (with_reducible first | refine awp_seq ?_ | refine then_n ?_ | refine then_r ?_ | refine then_e ?_ | refine awp_skip ?_ | refine awp_label ?_ | refine awp_ret ?_ | refine awp_exit ?_ | refine awp_block ?_ | refine awp_scope ?_ | refine in_n ?_ | refine in_r ?_ | refine in_e ?_ | refine in_ne (by decide) ?_ | refine ng_n ?_ | refine ng_r ?_ | refine ng_e ?_)
    | (with_reducible refine awp_regT (by kernel_rfl) ?_; intro K hK)
    | (with_reducible refine awp_regAM (id := 9) [(4, some 4)] mixed (by kernel_rfl) (by kernel_rfl) ?_; intro K hK)
    | (with_reducible refine awp_regAM (id := 12) [(4, some 4), (63, some 2), (66, some 6), (70, some 6)] mixed (by kernel_rfl) (by kernel_rfl) ?_; intro K hK)
    | (with_reducible refine awp_regAM (id := 16) [(8, some 8), (9, some 9)] mixed (by kernel_rfl) (by kernel_rfl) ?_; intro K hK)
    | (with_reducible refine awp_regAM (id := 17) [(4, some 4), (90, some 8), (93, some 2), (98, some 9), (102, some 8), (104, some 9)] mixed (by kernel_rfl) (by kernel_rfl) ?_; intro K hK)
    | (with_reducible refine a_cond (ht := ?_) (hf := ?_) <;> intro hb <;> (try simp at hb) <;> (try contradiction) <;> (try subst hb) <;> (try omega))
    | (with_reducible first | refine a_move (hr := ?_) | refine a_assign (hr := ?_) | refine a_load (hr := ?_) | refine a_fieldAddr (hr := ?_) | refine a_bin (hr := ?_) | refine a_store (hr := ?_) | refine a_box (hr := ?_) | refine a_alloc (hr := ?_) | refine a_eqB (hr := ?_) | refine a_idxArr (hr := ?_) | refine a_eqS (hr := ?_) | refine a_indexAddr (hr := ?_) | refine a_build (hr := ?_) | refine a_maxC (hr := ?_) | refine a_call0 (hcall := q1) (hr := ?_) | refine a_call0 (hcall := q2) (hr := ?_) | refine a_call0 (hcall := q3) (hr := ?_) | refine a_call0 (hcall := q4) (hr := ?_) | refine a_call0 (hcall := q5) (hr := ?_))
    | fail)
      all_goals ((refine hQ _ _ _ _ (by first | exact .inr rfl | exact .inl rfl) (by simp; exact .r) (by simp; exact .r) ?_))
      all_goals (exact Fin.drop (by simp; exact .r) (by simp))
  · have hop2 : 6 ≤ op := by
      unfold takesE at hl
      split at hl
      · cases hl
      · split at hl
        · cases hl
        · omega
    have hpa := hp a (by simp)
    have hpb := hp b (by simp)
    have w1 := held_wf hpa (if strE op = 2 then 3 else strE op)
    have w2 := held_wf hpb (strE op + 1)
    have q5 := c_held a (if strE op = 2 then 3 else strE op) (by have := hpa.1; omega) (by have := hpa.2; omega)
    have q6 := c_held b (strE op + 1) (by have := hpb.1; omega) (by have := hpb.2; omega)
    rw [show (takesE op : Nat) = 2 from hl.symm] at q3
    have hst : 0 ≤ strE op ∧ strE op ≤ 4 := by rcases ops hop with rfl | rfl | rfl | rfl | rfl | rfl | rfl | rfl | rfl | rfl | rfl | rfl | rfl | rfl | rfl | rfl | rfl | rfl | rfl <;> first | (exfalso; omega) | decide
    simp only [joinE, biE]
    obtain ⟨xa, xastr, xad⟩ := a
    obtain ⟨xb, xbstr, xbd⟩ := b
    clear hl hp hpa hpb
    generalize strE op = st at q1 q5 q6 w1 w2 hst ⊢
    generalize sgnE op = sg at q4 hsg ⊢
    by_cases h2 : st = 2
    · subst h2
      simp only [if_true] at q5 w1 ⊢
      generalize heldE ⟨xa, xastr, xad⟩ 3 = y at q5 w1 ⊢
      generalize heldE ⟨xb, xbstr, xbd⟩ (2 + 1) = z at q6 w2 ⊢
      obtain ⟨ys, yst, yd⟩ := y
      obtain ⟨zs, zst, zd⟩ := z
      simp only at w1 w2 ⊢
      refine calls_go (nt := 108) (rs := [.cell 4 120]) Tryd.func87 rfl rfl rfl (by simp) (by intro id h; simp at h <;> omega) ?_; intro Q hQ hW
      repeat' (first
    | (with_reducible refine run_n ?_; with_reducible first | refine hK _ _ (by simp) ?_ | refine hK _ _ ?_; clear hK K)
    | (with_reducible first | refine awp_seq ?_ | refine then_n ?_ | refine then_r ?_ | refine then_e ?_ | refine awp_skip ?_ | refine awp_label ?_ | refine awp_ret ?_ | refine awp_exit ?_ | refine awp_block ?_ | refine awp_scope ?_ | refine in_n ?_ | refine in_r ?_ | refine in_e ?_ | refine in_ne (by decide) ?_ | refine ng_n ?_ | refine ng_r ?_ | refine ng_e ?_)
    | (with_reducible refine awp_regT (by kernel_rfl) ?_; intro K hK)
    | (with_reducible refine awp_regCM (id := 9) [(4, some 4)] [(4, some 4), (43, none), (49, none)] mixed (by kernel_rfl) (by kernel_rfl) (by kernel_rfl) ?_; intro K hK)
    | (with_reducible refine awp_regCM (id := 12) [(4, some 4), (63, some 2), (66, some 6), (70, some 6)] [(4, some 4), (63, some 2), (64, none), (66, some 6), (70, some 6)] mixed (by kernel_rfl) (by kernel_rfl) (by kernel_rfl) ?_; intro K hK)
    | (with_reducible refine awp_regCM (id := 16) [(8, some 8), (9, some 9)] [(8, some 8), (9, some 9), (80, none), (81, none), (82, none), (85, none), (86, none), (88, none)] mixed (by kernel_rfl) (by kernel_rfl) (by kernel_rfl) ?_; intro K hK)
    | (with_reducible refine awp_regCM (id := 17) [(4, some 4), (90, some 8), (93, some 2), (98, some 9), (102, some 8), (104, some 9)] [(4, some 4), (90, some 8), (93, some 2), (94, none), (98, some 9), (102, some 8), (103, none), (104, some 9), (105, none)] mixed (by kernel_rfl) (by kernel_rfl) (by kernel_rfl) ?_; intro K hK)
    | (with_reducible refine a_cond (ht := ?_) (hf := ?_) <;> intro hb <;> (try simp at hb) <;> (try contradiction) <;> (try subst hb) <;> (try omega))
    | (with_reducible first | refine a_move (hr := ?_) | refine a_assign (hr := ?_) | refine a_load (hr := ?_) | refine a_fieldAddr (hr := ?_) | refine a_bin (hr := ?_) | refine a_store (hr := ?_) | refine a_box (hr := ?_) | refine a_alloc (hr := ?_) | refine a_eqB (hr := ?_) | refine a_idxArr (hr := ?_) | refine a_eqS (hr := ?_) | refine a_indexAddr (hr := ?_) | refine a_build (hr := ?_) | refine a_maxC (hr := ?_) | refine a_call0 (hcall := q1) (hr := ?_) | refine a_call0 (hcall := q2) (hr := ?_) | refine a_call0 (hcall := q3) (hr := ?_) | refine a_call0 (hcall := q4) (hr := ?_) | refine a_call0 (hcall := q5) (hr := ?_) | refine a_call0 (hcall := q6) (hr := ?_))
    | fail)
      all_goals ((refine hQ _ _ _ _ (by first | exact .inr rfl | exact .inl rfl) (by simp; exact .r) (by simp; exact .r) ?_))
      all_goals (exact Fin.drop (by simp; exact .r) (by simp))
    · simp only [if_neg h2] at q5 w1 ⊢
      generalize heldE ⟨xa, xastr, xad⟩ st = y at q5 w1 ⊢
      generalize heldE ⟨xb, xbstr, xbd⟩ (st + 1) = z at q6 w2 ⊢
      obtain ⟨ys, yst, yd⟩ := y
      obtain ⟨zs, zst, zd⟩ := z
      simp only at w1 w2 ⊢
      refine calls_go (nt := 108) (rs := [.cell 4 120]) Tryd.func87 rfl rfl rfl (by simp) (by intro id h; simp at h <;> omega) ?_; intro Q hQ hW
      repeat' (first
    | (with_reducible refine run_n ?_; with_reducible first | refine hK _ _ (by simp) ?_ | refine hK _ _ ?_; clear hK K)
    | (with_reducible first | refine awp_seq ?_ | refine then_n ?_ | refine then_r ?_ | refine then_e ?_ | refine awp_skip ?_ | refine awp_label ?_ | refine awp_ret ?_ | refine awp_exit ?_ | refine awp_block ?_ | refine awp_scope ?_ | refine in_n ?_ | refine in_r ?_ | refine in_e ?_ | refine in_ne (by decide) ?_ | refine ng_n ?_ | refine ng_r ?_ | refine ng_e ?_)
    | (with_reducible refine awp_regT (by kernel_rfl) ?_; intro K hK)
    | (with_reducible refine awp_regCM (id := 9) [(4, some 4)] [(4, some 4), (43, none), (49, none)] mixed (by kernel_rfl) (by kernel_rfl) (by kernel_rfl) ?_; intro K hK)
    | (with_reducible refine awp_regCM (id := 12) [(4, some 4), (63, some 2), (66, some 6), (70, some 6)] [(4, some 4), (63, some 2), (64, none), (66, some 6), (70, some 6)] mixed (by kernel_rfl) (by kernel_rfl) (by kernel_rfl) ?_; intro K hK)
    | (with_reducible refine awp_regCM (id := 16) [(8, some 8), (9, some 9)] [(8, some 8), (9, some 9), (80, none), (81, none), (82, none), (85, none), (86, none), (88, none)] mixed (by kernel_rfl) (by kernel_rfl) (by kernel_rfl) ?_; intro K hK)
    | (with_reducible refine awp_regCM (id := 17) [(4, some 4), (90, some 8), (93, some 2), (98, some 9), (102, some 8), (104, some 9)] [(4, some 4), (90, some 8), (93, some 2), (94, none), (98, some 9), (102, some 8), (103, none), (104, some 9), (105, none)] mixed (by kernel_rfl) (by kernel_rfl) (by kernel_rfl) ?_; intro K hK)
    | (with_reducible refine a_cond (ht := ?_) (hf := ?_) <;> intro hb <;> (try simp at hb) <;> (try contradiction) <;> (try subst hb) <;> (try omega))
    | (with_reducible first | refine a_move (hr := ?_) | refine a_assign (hr := ?_) | refine a_load (hr := ?_) | refine a_fieldAddr (hr := ?_) | refine a_bin (hr := ?_) | refine a_store (hr := ?_) | refine a_box (hr := ?_) | refine a_alloc (hr := ?_) | refine a_eqB (hr := ?_) | refine a_idxArr (hr := ?_) | refine a_eqS (hr := ?_) | refine a_indexAddr (hr := ?_) | refine a_build (hr := ?_) | refine a_maxC (hr := ?_) | refine a_call0 (hcall := q1) (hr := ?_) | refine a_call0 (hcall := q2) (hr := ?_) | refine a_call0 (hcall := q3) (hr := ?_) | refine a_call0 (hcall := q4) (hr := ?_) | refine a_call0 (hcall := q5) (hr := ?_) | refine a_call0 (hcall := q6) (hr := ?_))
    | fail)
      all_goals ((refine hQ _ _ _ _ (by first | exact .inr rfl | exact .inl rfl) (by simp; exact .r) (by simp; exact .r) ?_))
      all_goals (exact Fin.drop (by simp; exact .r) (by simp))
  · exfalso
    simp only [List.length_cons] at hl
    unfold takesE at hl
    split at hl
    · omega
    · split at hl <;> omega
end Go.Proofs.YtjbbnollidcagaaDoor.Asl

namespace Go.Proofs.YtjbbnollidcagaaDoor.Asl
open Go Go.RowKit
set_option linter.unusedVariables false
set_option linter.unusedSimpArgs false
set_option maxRecDepth 100000
set_option maxHeartbeats 4000000
def sumS (l : List Pc) : Nat := (l.map fun p => p.s.size).sum
theorem sumS_app (l m : List Pc) : sumS (l ++ m) = sumS l + sumS m := by simp [sumS]
theorem sumS_one (p : Pc) : sumS [p] = p.s.size := by simp [sumS]
theorem sumS_mem {l : List Pc} {p : Pc} (h : p ∈ l) : p.s.size ≤ sumS l := by
  induction l with
  | nil => cases h
  | cons q l ih =>
    have e : sumS (q :: l) = q.s.size + sumS l := by simp [sumS]
    rw [e]
    rcases List.mem_cons.1 h with rfl | h
    · omega
    · have := ih h; omega
theorem nameB_le {l : List Int} (h : nameB l = true) : l.length ≤ 16 := by
  cases l with
  | nil => simp
  | cons c l => simp [nameB] at h; simp; omega
theorem nat10_le (n : Int) : (nat10 20 n).length ≤ 20 := nat10_len 20 n
theorem prtS_size {k n : Int} {s : ByteArray} (h : rightE k n s = 0) : (prtS k n s).size ≤ 200 := by
  have e : (prtS k n s).size = (prtL k n s).length := by unfold prtS; rw [size_of_nums]
  rw [e]
  unfold prtL
  split
  · unfold digs10
    split
    · have := nat10_le (-n); simp; omega
    · have := nat10_le n; omega
  · split
    · split <;> simp
    · split
      · rename_i k3
        subst k3
        have h64 : s.size ≤ 64 := by
          simp only [rightE, if_true] at h
          by_cases h64 : 64 < s.size
          · rw [if_pos h64] at h; exact absurd h (by decide)
          · omega
        have := flat_esc (bytesOf s)
        rw [len_bytes] at this
        simp only [quoQ, List.length_cons, List.length_append, List.length_nil]; omega
      · simp
/-- What is right by itself is short. -/
theorem nul_wf {t : TermV} (h : ownE t = 0) (h0 : takesE t.op = 0) : (nulE t).s.size ≤ 200 ∧ 0 ≤ (nulE t).deep ∧ (nulE t).deep ≤ 1 := by
  have hop := ownE_op h
  have hop2 : t.op < 3 := by
    unfold takesE at h0
    split at h0
    · assumption
    · split at h0 <;> cases h0
  unfold ownE at h
  rw [if_neg (by omega)] at h
  unfold nulE
  by_cases k0 : t.op = 0
  · rw [if_pos k0]
    rw [if_neg (by simp [k0])] at h
    by_cases hn : ¬ (t.op = 1 ∨ t.op = 2) ∧ t.n ≠ ⟨#[]⟩
    · rw [if_pos hn] at h; exact absurd h (by decide)
    rw [if_neg hn, if_neg (by omega), if_neg (by simp [k0])] at h
    by_cases hr : rightE t.k t.v t.s ≠ 0
    · rw [if_pos hr] at h; exact absurd h hr
    exact ⟨prtS_size (by simpa using hr), by simp, by simp⟩
  · rw [if_neg k0]
    have k12 : t.op = 1 ∨ t.op = 2 := by omega
    by_cases hv : t.op ≠ 0 ∧ ¬ (t.k = 0 ∧ t.v = 0 ∧ t.s = ⟨#[]⟩)
    · rw [if_pos hv] at h; exact absurd h (by decide)
    rw [if_neg hv, if_neg (fun hh => hh.1 k12), if_pos k12] at h
    have hnm : nameB (bytesOf t.n) = true := by
      by_cases hb : resB t.n = true ∨ nameB (bytesOf t.n) = false
      · rw [if_pos hb] at h; exact absurd h (by decide)
      · cases hq : nameB (bytesOf t.n) with
        | true => rfl
        | false => exact absurd (.inr hq) hb
    have := nameB_le hnm
    rw [len_bytes] at this
    have e1 : (⟨#[104, 97, 115, 40]⟩ : ByteArray).size = 4 := rfl
    have e2 : (⟨#[41]⟩ : ByteArray).size = 1 := rfl
    split
    · exact ⟨by simp only; omega, by simp, by simp⟩
    · exact ⟨by simp only [ByteArray.size_append]; omega, by simp, by simp⟩
theorem held_sz (p : Pc) (k : Int) : (heldE p k).s.size ≤ p.s.size + 2 ∧ (0 ≤ p.deep → 0 ≤ (heldE p k).deep) ∧ (heldE p k).deep ≤ p.deep + 1 := by
  unfold heldE
  have e1 : (⟨#[40]⟩ : ByteArray).size = 1 := rfl
  have e2 : (⟨#[41]⟩ : ByteArray).size = 1 := rfl
  split
  · exact ⟨by omega, fun h => h, by omega⟩
  · exact ⟨by simp only [ByteArray.size_append]; omega, fun h => by simp only; omega, by simp only; omega⟩
theorem join_wf {t : TermV} {l : List Pc} {d : Int} (h : ownE t = 0) (hl : l.length = takesE t.op) (hd : ∀ p ∈ l, 0 ≤ p.deep ∧ p.deep ≤ d) (h0 : 0 ≤ d) : (joinE t l).s.size ≤ sumS l + 200 ∧ 0 ≤ (joinE t l).deep ∧ (joinE t l).deep ≤ d + 2 := by
  have hop := ownE_op h
  have hsg := sgn_size hop
  rcases l with _ | ⟨a, _ | ⟨b, l⟩⟩
  · have := nul_wf h hl.symm
    simp only [joinE, sumS, List.map_nil, List.sum_nil]
    omega
  · have q := held_sz a (strE t.op)
    have ha := hd a (by simp)
    have e3 : (⟨#[108, 101, 110, 40]⟩ : ByteArray).size = 4 := rfl
    have e2 : (⟨#[41]⟩ : ByteArray).size = 1 := rfl
    simp only [joinE, unE, sumS_one]
    split
    · exact ⟨by simp only [ByteArray.size_append]; omega, by simp only; omega, by simp only; omega⟩
    · have := q.2.1 ha.1
      exact ⟨by simp only [ByteArray.size_append]; omega, by simp only; omega, by simp only; omega⟩
  · have q1 := held_sz a (if strE t.op = 2 then 3 else strE t.op)
    have q2 := held_sz b (strE t.op + 1)
    have ha := hd a (by simp)
    have hb := hd b (by simp)
    have e1 : (⟨#[32]⟩ : ByteArray).size = 1 := rfl
    have es : sumS (a :: b :: l) = a.s.size + (b.s.size + sumS l) := by simp [sumS]
    have := q1.2.1 ha.1
    have := q2.2.1 hb.1
    rw [es]
    simp only [joinE, biE]
    refine ⟨by simp only [ByteArray.size_append]; omega, ?_, ?_⟩
    · omega
    · omega
/-- The pieces that stand, or what is wrong. -/
def wholeL : List TermV → List Pc → Int × List Pc
  | [], st => (0, st)
  | t :: l, st => if ownE t ≠ 0 then (ownE t, []) else if st.length < takesE t.op then (6, []) else wholeL l (st.take (st.length - takesE t.op) ++ [joinE t (st.drop (st.length - takesE t.op))])
def Pc.z : Pc := ⟨⟨#[]⟩, 0, 0⟩
def outW (r : Int × List Pc) : Pc × Int := if r.1 ≠ 0 then (Pc.z, r.1) else match r.2 with
  | [] => (Pc.z, 6)
  | [p] => if 12 < p.deep then (Pc.z, 50) else (p, 0)
  | _ => (Pc.z, 8)
def wholeE (e : List TermV) : Pc × Int := if 40 < e.length then (Pc.z, 3) else outW (wholeL e [])
structure WhI (e : List TermV) (R : Int × List Pc) (i : Nat) (st : List Pc) : Prop where
  iN : i ≤ e.length
  eq : wholeL (e.drop i) st = R
  ln : st.length ≤ i
  sz : sumS st ≤ 200 * i
  dp : ∀ p ∈ st, 0 ≤ p.deep ∧ p.deep ≤ 2 * i
theorem WhI.next {e : List TermV} {R : Int × List Pc} {i : Nat} {st : List Pc} {t : TermV} {l : List TermV} (h : WhI e R i st) (hd : e.drop i = t :: l) (ho : ownE t = 0) (hn : ¬ st.length < takesE t.op) : WhI e R (i + 1) (st.take (st.length - takesE t.op) ++ [joinE t (st.drop (st.length - takesE t.op))]) := by
  obtain ⟨h1, h2, h3, h4, h5⟩ := h
  have hlt : i < e.length := by
    rcases Nat.lt_or_ge i e.length with h | h
    · exact h
    · rw [List.drop_of_length_le h] at hd; cases hd
  have hd2 : e.drop (i + 1) = l := by
    have := congrArg (List.drop 1) hd
    rw [List.drop_drop] at this
    simpa using this
  have hdl : (st.drop (st.length - takesE t.op)).length = takesE t.op := by rw [List.length_drop]; omega
  have hj := join_wf (d := 2 * i) ho hdl (fun p hp => h5 p (List.mem_of_mem_drop hp)) (by omega)
  have hsp : sumS (st.take (st.length - takesE t.op)) + sumS (st.drop (st.length - takesE t.op)) = sumS st := by rw [← sumS_app, List.take_append_drop]
  refine ⟨hlt, ?_, ?_, ?_, ?_⟩
  · rw [hd2, ← h2, hd, wholeL, if_neg (by simpa using ho), if_neg hn]
  · rw [List.length_append, List.length_take, List.length_singleton]; omega
  · rw [sumS_app, sumS_one]; omega
  · intro p hp
    rcases List.mem_append.1 hp with hp | hp
    · have := h5 p (List.mem_of_mem_take hp); omega
    · rw [List.mem_singleton.1 hp]; omega
theorem CallD.nil2b {P : Program} {f : FuncId} {sz : Nat} {a r : AV} {g g' : Hp} (hc : CallD P f [a, .sl sz []] g r g') : CallD P f [a, .raw (.slice none 0 0)] g r g' := by
  intro C vs hC hvs
  cases hvs with
  | cons h1 h2 =>
    cases h2 with
    | cons h2 h3 =>
      rw [RV.raw_eq h2]
      exact hc C _ hC (.cons h1 (.cons .sl0 h3))
theorem drop_mapL (a : List Pc) (l : List AV) : List.drop a.length (List.map pcAV a ++ l) = l := by
  have h : (List.map pcAV a).length = a.length := by simp
  rw [← h, List.drop_left]
theorem take_mapL (a : List Pc) (l : List AV) : List.take a.length (List.map pcAV a ++ l) = List.map pcAV a := by
  have h : (List.map pcAV a).length = a.length := by simp
  rw [← h, List.take_left]
theorem take_mapS (a : List Pc) : List.take a.length (List.map pcAV a) = List.map pcAV a := List.take_of_length_le (by simp)
attribute [local simp] drop_mapL take_mapL take_mapS
theorem c_whole (e : List TermV) (hw : ∀ t ∈ e, wfT t) (hl : e.length ≤ 140737488351232) : CallD Tryd.prog 75 [.sl 5 (e.map termAV)] noHeap (.tup [pcAV (wholeE e).1, .raw (.int .i64 (wholeE e).2)]) noHeap := by
  unfold wholeE
  by_cases h40 : 40 < e.length
  · rw [if_pos h40]
    refine calls_go (nt := 65) (rs := [.cell 2 120, .tmp 3]) Tryd.func75 rfl rfl rfl (by simp) (by intro id h; simp at h <;> omega) ?_; intro Q hQ hW
    repeat' (first
    | (with_reducible refine run_n ?_; with_reducible first | refine hK _ _ (by simp) ?_ | refine hK _ _ ?_; clear hK K)
    | (with_reducible first | refine awp_seq ?_ | refine then_n ?_ | refine then_r ?_ | refine then_e ?_ | refine awp_skip ?_ | refine awp_label ?_ | refine awp_ret ?_ | refine awp_exit ?_ | refine awp_block ?_ | refine awp_scope ?_ | refine in_n ?_ | refine in_r ?_ | refine in_e ?_ | refine in_ne (by decide) ?_ | refine ng_n ?_ | refine ng_r ?_ | refine ng_e ?_)
    | (with_reducible refine awp_regT (by kernel_rfl) ?_; intro K hK)
    | (with_reducible refine awp_regAM (id := 13) [(6, some 6)] mixed (by kernel_rfl) (by kernel_rfl) ?_; intro K hK)
    | (with_reducible refine a_cond (ht := ?_) (hf := ?_) <;> intro hb <;> (try simp at hb) <;> (try contradiction) <;> (try subst hb) <;> (try omega))
    | (with_reducible first | refine a_move (hr := ?_) | refine a_assign (hr := ?_) | refine a_load (hr := ?_) | refine a_fieldAddr (hr := ?_) | refine a_bin (hr := ?_) | refine a_lenS (hr := ?_) | refine a_lenR (hr := ?_) | refine a_store (hr := ?_) | refine a_alloc (hr := ?_) | refine a_eqB (hr := ?_) | refine a_neB (hr := ?_) | refine a_idxArr (hr := ?_) | refine a_sliceArr (hr := ?_) | refine a_eqS (hr := ?_) | refine a_neS (hr := ?_) | refine a_sliceS (hr := ?_) | refine a_sliceR (hr := ?_) | refine a_indexAddr (hr := ?_) | refine a_build (hr := ?_) | refine a_buildSlice (hr := ?_) | refine a_append (hr := ?_) | refine a_append0 (hr := ?_) | refine a_appendX (hr := ?_))
    | fail)
    all_goals ((refine hQ _ _ _ _ (by first | exact .inr rfl | exact .inl rfl) (by simp; exact .r) (by simp; exact .r) ?_))
    all_goals (exact Fin.drop (by simp; exact .r) (by simp))
  rw [if_neg h40]
  obtain ⟨R, hR⟩ : ∃ R, wholeL e [] = R := ⟨_, rfl⟩
  rw [hR]
  have start : WhI e R 0 [] := ⟨Nat.zero_le _, hR, Nat.le_refl _, by simp [sumS], by simp⟩
  refine calls_go (nt := 65) (rs := [.cell 2 120, .tmp 3]) Tryd.func75 rfl rfl rfl (by simp) (by intro id h; simp at h <;> omega) ?_; intro Q hQ hW
  repeat' (first
    | (with_reducible refine run_n ?_; with_reducible first | refine hK _ _ (by simp) ?_ | refine hK _ _ ?_; clear hK K)
    | (with_reducible first | refine awp_seq ?_ | refine then_n ?_ | refine then_r ?_ | refine then_e ?_ | refine awp_skip ?_ | refine awp_label ?_ | refine awp_ret ?_ | refine awp_exit ?_ | refine awp_block ?_ | refine awp_scope ?_ | refine in_n ?_ | refine in_r ?_ | refine in_e ?_ | refine in_ne (by decide) ?_ | refine ng_n ?_ | refine ng_r ?_ | refine ng_e ?_)
    | (with_reducible refine awp_regT (by kernel_rfl) ?_; intro K hK)
    | (with_reducible refine awp_regAM (id := 13) [(6, some 6)] mixed (by kernel_rfl) (by kernel_rfl) ?_; intro K hK)
    | (with_reducible refine a_cond (ht := ?_) (hf := ?_) <;> intro hb <;> (try simp at hb) <;> (try contradiction) <;> (try subst hb) <;> (try omega))
    | (with_reducible first | refine a_move (hr := ?_) | refine a_assign (hr := ?_) | refine a_load (hr := ?_) | refine a_fieldAddr (hr := ?_) | refine a_bin (hr := ?_) | refine a_lenS (hr := ?_) | refine a_lenR (hr := ?_) | refine a_store (hr := ?_) | refine a_alloc (hr := ?_) | refine a_eqB (hr := ?_) | refine a_neB (hr := ?_) | refine a_idxArr (hr := ?_) | refine a_sliceArr (hr := ?_) | refine a_eqS (hr := ?_) | refine a_neS (hr := ?_) | refine a_sliceS (hr := ?_) | refine a_sliceR (hr := ?_) | refine a_indexAddr (hr := ?_) | refine a_build (hr := ?_) | refine a_buildSlice (hr := ?_) | refine a_append (hr := ?_) | refine a_append0 (hr := ?_) | refine a_appendX (hr := ?_))
    | fail)
  refine awp_inv (α := Nat × List Pc) (fun s => [(2, .ptr 2 0), (4, orow 60 3 (s.2.map pcAV)), (13, .sl 5 (e.map termAV)), (14, .raw (.int .i64 e.length)), (15, .raw (.int .i64 s.1))]) (fun s => ohp 60 3 (s.2.map pcAV) (hpL [(2, .box (pcAV Pc.z))])) (fun s => WhI e R s.1 s.2) (fun s => e.length - s.1) (0, []) start (by unfold Pc.z; exact weak_o (by repeat' (first | refine sub_ohp (by first | (simp; done) | (intro hne; simp at hne; simp [hne])) (by simp) ?_ | exact sub_hpL (by simp))) (by simp) (by simp <;> omega)) ?_
  rintro ⟨i, st⟩ g
  simp only at g ⊢
  unfold Pc.z
  have hsd : ∀ m, ∀ p ∈ st.drop m, p.s.size ≤ 8000 := fun m p hp => by have := sumS_mem (List.mem_of_mem_drop hp); have := g.sz; have := g.iN; omega
  rcases Nat.lt_or_ge i e.length with hlt | hge
  · have hx := List.getElem?_eq_getElem hlt
    have hd := List.drop_eq_getElem_cons hlt
    have hwt := hw e[i] (List.getElem_mem hlt)
    generalize e[i] = y at hx hd hwt
    have q1 := c_own y (by have := hwt.2.2.2; omega)
    have heq := g.eq
    rw [hd, wholeL] at heq
    by_cases ho : ownE y = 0
    · rw [if_neg (by simpa using ho)] at heq
      have hop := ownE_op ho
      have q2 := c_takes y.op hop
      have htk2 : takesE y.op ≤ 2 := by unfold takesE; split <;> (try split) <;> omega
      have hln := g.ln
      have hiN := g.iN
      rw [ho] at q1
      by_cases hn : st.length < takesE y.op
      · rw [if_pos hn] at heq
        have hF : outW R = (Pc.z, 6) := by rw [← heq]; rfl
        rw [hF] at hQ
        generalize takesE y.op = tk at q2 hn htk2
        unfold Pc.z at hQ
        clear heq g hd
        obtain ⟨op, k, v, s, n⟩ := y
        by_cases hst : st = []
        · subst hst
          repeat' (first
    | (with_reducible refine run_n ?_; with_reducible first | refine hK _ _ (by simp) ?_ | refine hK _ _ ?_; clear hK K)
    | (with_reducible first | refine awp_seq ?_ | refine then_n ?_ | refine then_r ?_ | refine then_e ?_ | refine awp_skip ?_ | refine awp_label ?_ | refine awp_ret ?_ | refine awp_exit ?_ | refine awp_block ?_ | refine awp_scope ?_ | refine in_n ?_ | refine in_r ?_ | refine in_e ?_ | refine in_ne (by decide) ?_ | refine ng_n ?_ | refine ng_r ?_ | refine ng_e ?_)
    | (with_reducible refine awp_regT (by kernel_rfl) ?_; intro K hK)
    | (with_reducible refine awp_regAM (id := 13) [(6, some 6)] mixed (by kernel_rfl) (by kernel_rfl) ?_; intro K hK)
    | (with_reducible refine a_cond (ht := ?_) (hf := ?_) <;> intro hb <;> (try simp at hb) <;> (try contradiction) <;> (try subst hb) <;> (try omega))
    | (with_reducible first | refine a_move (hr := ?_) | refine a_assign (hr := ?_) | refine a_load (hr := ?_) | refine a_fieldAddr (hr := ?_) | refine a_bin (hr := ?_) | refine a_lenS (hr := ?_) | refine a_lenR (hr := ?_) | refine a_store (hr := ?_) | refine a_alloc (hr := ?_) | refine a_eqB (hr := ?_) | refine a_neB (hr := ?_) | refine a_idxArr (hr := ?_) | refine a_sliceArr (hr := ?_) | refine a_eqS (hr := ?_) | refine a_neS (hr := ?_) | refine a_sliceS (hr := ?_) | refine a_sliceR (hr := ?_) | refine a_indexAddr (hr := ?_) | refine a_build (hr := ?_) | refine a_buildSlice (hr := ?_) | refine a_append (hr := ?_) | refine a_append0 (hr := ?_) | refine a_appendX (hr := ?_) | refine a_call0 (hcall := q1) (hr := ?_) | refine a_call0 (hcall := q2) (hr := ?_))
    | fail)
          all_goals ((refine hQ _ _ _ _ (by first | exact .inr rfl | exact .inl rfl) (by simp; exact .r) (by simp; exact .r) ?_))
          all_goals (exact Fin.drop (by simp; exact .r) (by simp))
        · have hne : st.map pcAV ≠ [] := by simpa using hst
          rw [orow_ne hne, ohp_ne hne]
          repeat' (first
    | (with_reducible refine run_n ?_; with_reducible first | refine hK _ _ (by simp) ?_ | refine hK _ _ ?_; clear hK K)
    | (with_reducible first | refine awp_seq ?_ | refine then_n ?_ | refine then_r ?_ | refine then_e ?_ | refine awp_skip ?_ | refine awp_label ?_ | refine awp_ret ?_ | refine awp_exit ?_ | refine awp_block ?_ | refine awp_scope ?_ | refine in_n ?_ | refine in_r ?_ | refine in_e ?_ | refine in_ne (by decide) ?_ | refine ng_n ?_ | refine ng_r ?_ | refine ng_e ?_)
    | (with_reducible refine awp_regT (by kernel_rfl) ?_; intro K hK)
    | (with_reducible refine awp_regAM (id := 13) [(6, some 6)] mixed (by kernel_rfl) (by kernel_rfl) ?_; intro K hK)
    | (with_reducible refine a_cond (ht := ?_) (hf := ?_) <;> intro hb <;> (try simp at hb) <;> (try contradiction) <;> (try subst hb) <;> (try omega))
    | (with_reducible first | refine a_move (hr := ?_) | refine a_assign (hr := ?_) | refine a_load (hr := ?_) | refine a_fieldAddr (hr := ?_) | refine a_bin (hr := ?_) | refine a_lenS (hr := ?_) | refine a_lenR (hr := ?_) | refine a_store (hr := ?_) | refine a_alloc (hr := ?_) | refine a_eqB (hr := ?_) | refine a_neB (hr := ?_) | refine a_idxArr (hr := ?_) | refine a_sliceArr (hr := ?_) | refine a_eqS (hr := ?_) | refine a_neS (hr := ?_) | refine a_sliceS (hr := ?_) | refine a_sliceR (hr := ?_) | refine a_indexAddr (hr := ?_) | refine a_build (hr := ?_) | refine a_buildSlice (hr := ?_) | refine a_append (hr := ?_) | refine a_append0 (hr := ?_) | refine a_appendX (hr := ?_) | refine a_call0 (hcall := q1) (hr := ?_) | refine a_call0 (hcall := q2) (hr := ?_))
    | fail)
          all_goals ((refine hQ _ _ _ _ (by first | exact .inr rfl | exact .inl rfl) (by simp; exact .r) (by simp; exact .r) ?_))
          all_goals (exact Fin.drop (by simp; exact .r) (by simp))
      · have gn := g.next hd ho hn
        have hj := c_join y (st.drop (st.length - takesE y.op)) ho (by rw [List.length_drop]; omega) hwt (fun p hp => ⟨by have := sumS_mem (List.mem_of_mem_drop hp); have := g.sz; have := hsd _ p hp; omega, by have := g.dp p (List.mem_of_mem_drop hp); have := g.iN; omega⟩)
        by_cases hst : st = []
        · subst hst
          have htk : takesE y.op = 0 := by simpa using hn
          rw [htk] at q2 hj gn
          simp only [List.length_nil, Nat.sub_zero, List.drop_nil, List.take_nil, List.nil_append, List.map_nil] at hj gn
          have hj2 := CallD.nil2b hj
          clear heq hd hj g htk
          generalize joinE y [] = z at hj2 gn
          obtain ⟨op, k, v, s, n⟩ := y
          repeat' (first
    | (with_reducible refine run_n ?_; with_reducible first | refine hK _ _ (by simp) ?_ | refine hK _ _ ?_; clear hK K)
    | (with_reducible first | refine awp_seq ?_ | refine then_n ?_ | refine then_r ?_ | refine then_e ?_ | refine awp_skip ?_ | refine awp_label ?_ | refine awp_ret ?_ | refine awp_exit ?_ | refine awp_block ?_ | refine awp_scope ?_ | refine in_n ?_ | refine in_r ?_ | refine in_e ?_ | refine in_ne (by decide) ?_ | refine ng_n ?_ | refine ng_r ?_ | refine ng_e ?_)
    | (with_reducible refine awp_regT (by kernel_rfl) ?_; intro K hK)
    | (with_reducible refine awp_regAM (id := 13) [(6, some 6)] mixed (by kernel_rfl) (by kernel_rfl) ?_; intro K hK)
    | (with_reducible refine a_cond (ht := ?_) (hf := ?_) <;> intro hb <;> (try simp at hb) <;> (try contradiction) <;> (try subst hb) <;> (try omega))
    | (with_reducible first | refine a_sliceN (hr := ?_) | refine a_move (hr := ?_) | refine a_assign (hr := ?_) | refine a_load (hr := ?_) | refine a_fieldAddr (hr := ?_) | refine a_bin (hr := ?_) | refine a_lenS (hr := ?_) | refine a_lenR (hr := ?_) | refine a_store (hr := ?_) | refine a_alloc (hr := ?_) | refine a_eqB (hr := ?_) | refine a_neB (hr := ?_) | refine a_idxArr (hr := ?_) | refine a_sliceArr (hr := ?_) | refine a_eqS (hr := ?_) | refine a_neS (hr := ?_) | refine a_sliceS (hr := ?_) | refine a_sliceR (hr := ?_) | refine a_indexAddr (hr := ?_) | refine a_build (hr := ?_) | refine a_buildSlice (hr := ?_) | refine a_append (hr := ?_) | refine a_append0 (hr := ?_) | refine a_appendX (hr := ?_) | refine a_call0 (hcall := q1) (hr := ?_) | refine a_call0 (hcall := q2) (hr := ?_) | refine a_callF (hcall := hj2) (hr := ?_))
    | fail)
          exact ⟨(i + 1, [z]), by simp only; omega, gn, weak_or 60 43 (by decide) (by decide) (by repeat' (first | refine sub_ohp (by first | (simp; done) | (intro hne; simp at hne; simp [hne])) (by simp) ?_ | exact sub_hpL (by simp))) (by simp) (by simp <;> omega)⟩
        · have hne : st.map pcAV ≠ [] := by simpa using hst
          rw [orow_ne hne, ohp_ne hne]
          obtain ⟨a, b, rfl, hb1, hb2, hb3⟩ : ∃ a b, st = a ++ b ∧ st.take (st.length - takesE y.op) = a ∧ st.drop (st.length - takesE y.op) = b ∧ b.length = takesE y.op := ⟨_, _, (List.take_append_drop (st.length - takesE y.op) st).symm, rfl, rfl, by rw [List.length_drop]; omega⟩
          rw [hb2] at hj gn
          rw [hb1] at gn
          generalize joinE y b = z at hj gn
          rw [← hb3] at q2 hn htk2
          clear heq hd g hb1 hb2 hb3 hne hst hsd
          rw [List.length_append] at hln
          obtain ⟨op, k, v, s, n⟩ := y
          simp only [List.map_append]
          repeat' (first
    | (with_reducible refine run_n ?_; with_reducible first | refine hK _ _ (by simp) ?_ | refine hK _ _ ?_; clear hK K)
    | (with_reducible first | refine awp_seq ?_ | refine then_n ?_ | refine then_r ?_ | refine then_e ?_ | refine awp_skip ?_ | refine awp_label ?_ | refine awp_ret ?_ | refine awp_exit ?_ | refine awp_block ?_ | refine awp_scope ?_ | refine in_n ?_ | refine in_r ?_ | refine in_e ?_ | refine in_ne (by decide) ?_ | refine ng_n ?_ | refine ng_r ?_ | refine ng_e ?_)
    | (with_reducible refine awp_regT (by kernel_rfl) ?_; intro K hK)
    | (with_reducible refine awp_regAM (id := 13) [(6, some 6)] mixed (by kernel_rfl) (by kernel_rfl) ?_; intro K hK)
    | (with_reducible refine a_cond (ht := ?_) (hf := ?_) <;> intro hb <;> (try simp at hb) <;> (try contradiction) <;> (try subst hb) <;> (try omega))
    | (with_reducible first | refine a_move (hr := ?_) | refine a_assign (hr := ?_) | refine a_load (hr := ?_) | refine a_fieldAddr (hr := ?_) | refine a_bin (hr := ?_) | refine a_lenS (hr := ?_) | refine a_lenR (hr := ?_) | refine a_store (hr := ?_) | refine a_alloc (hr := ?_) | refine a_eqB (hr := ?_) | refine a_neB (hr := ?_) | refine a_idxArr (hr := ?_) | refine a_sliceArr (hr := ?_) | refine a_eqS (hr := ?_) | refine a_neS (hr := ?_) | refine a_sliceS (hr := ?_) | refine a_sliceR (hr := ?_) | refine a_indexAddr (hr := ?_) | refine a_build (hr := ?_) | refine a_buildSlice (hr := ?_) | refine a_append (hr := ?_) | refine a_append0 (hr := ?_) | refine a_appendX (hr := ?_) | refine a_call0 (hcall := q1) (hr := ?_) | refine a_call0 (hcall := q2) (hr := ?_) | refine a_callL (hcall := hj) (hr := ?_))
    | fail)
          exact ⟨(i + 1, a ++ [z]), by simp only; omega, gn, weak_or 60 43 (by decide) (by decide) (by repeat' (first | refine sub_ohp (by first | (simp; done) | (intro hne; simp at hne; simp [hne])) (by simp) ?_ | exact sub_hpL (by simp))) (by simp) (by simp <;> omega)⟩
    · rw [if_pos ho] at heq
      have hF : outW R = (Pc.z, ownE y) := by rw [← heq]; unfold outW; rw [if_pos ho]
      rw [hF] at hQ
      generalize ownE y = ow at q1 ho hQ
      unfold Pc.z at hQ
      clear heq g hd hF
      obtain ⟨op, k, v, s, n⟩ := y
      repeat' (first
    | (with_reducible refine run_n ?_; with_reducible first | refine hK _ _ (by simp) ?_ | refine hK _ _ ?_; clear hK K)
    | (with_reducible first | refine awp_seq ?_ | refine then_n ?_ | refine then_r ?_ | refine then_e ?_ | refine awp_skip ?_ | refine awp_label ?_ | refine awp_ret ?_ | refine awp_exit ?_ | refine awp_block ?_ | refine awp_scope ?_ | refine in_n ?_ | refine in_r ?_ | refine in_e ?_ | refine in_ne (by decide) ?_ | refine ng_n ?_ | refine ng_r ?_ | refine ng_e ?_)
    | (with_reducible refine awp_regT (by kernel_rfl) ?_; intro K hK)
    | (with_reducible refine awp_regAM (id := 13) [(6, some 6)] mixed (by kernel_rfl) (by kernel_rfl) ?_; intro K hK)
    | (with_reducible refine a_cond (ht := ?_) (hf := ?_) <;> intro hb <;> (try simp at hb) <;> (try contradiction) <;> (try subst hb) <;> (try omega))
    | (with_reducible first | refine a_move (hr := ?_) | refine a_assign (hr := ?_) | refine a_load (hr := ?_) | refine a_fieldAddr (hr := ?_) | refine a_bin (hr := ?_) | refine a_lenS (hr := ?_) | refine a_lenR (hr := ?_) | refine a_store (hr := ?_) | refine a_alloc (hr := ?_) | refine a_eqB (hr := ?_) | refine a_neB (hr := ?_) | refine a_idxArr (hr := ?_) | refine a_sliceArr (hr := ?_) | refine a_eqS (hr := ?_) | refine a_neS (hr := ?_) | refine a_sliceS (hr := ?_) | refine a_sliceR (hr := ?_) | refine a_indexAddr (hr := ?_) | refine a_build (hr := ?_) | refine a_buildSlice (hr := ?_) | refine a_append (hr := ?_) | refine a_append0 (hr := ?_) | refine a_appendX (hr := ?_) | refine a_call0 (hcall := q1) (hr := ?_))
    | fail)
      all_goals ((refine hQ _ _ _ _ (by first | exact .inr rfl | exact .inl rfl) (by simp; exact .r) (by simp; exact .r) ?_))
      all_goals (exact Fin.drop (by simp; exact .r) (by simp))
  · obtain rfl : i = e.length := by have := g.iN; omega
    have heq := g.eq
    rw [List.drop_length, wholeL] at heq
    rw [← heq] at hQ
    clear heq hR start
    rcases st with _ | ⟨a, _ | ⟨b, l⟩⟩
    · simp only [outW, Pc.z] at hQ
      repeat' (first
    | (with_reducible refine run_n ?_; with_reducible first | refine hK _ _ (by simp) ?_ | refine hK _ _ ?_; clear hK K)
    | (with_reducible first | refine awp_seq ?_ | refine then_n ?_ | refine then_r ?_ | refine then_e ?_ | refine awp_skip ?_ | refine awp_label ?_ | refine awp_ret ?_ | refine awp_exit ?_ | refine awp_block ?_ | refine awp_scope ?_ | refine in_n ?_ | refine in_r ?_ | refine in_e ?_ | refine in_ne (by decide) ?_ | refine ng_n ?_ | refine ng_r ?_ | refine ng_e ?_)
    | (with_reducible refine awp_regT (by kernel_rfl) ?_; intro K hK)
    | (with_reducible refine awp_regAM (id := 13) [(6, some 6)] mixed (by kernel_rfl) (by kernel_rfl) ?_; intro K hK)
    | (with_reducible refine a_cond (ht := ?_) (hf := ?_) <;> intro hb <;> (try simp at hb) <;> (try contradiction) <;> (try subst hb) <;> (try omega))
    | (with_reducible first | refine a_move (hr := ?_) | refine a_assign (hr := ?_) | refine a_load (hr := ?_) | refine a_fieldAddr (hr := ?_) | refine a_bin (hr := ?_) | refine a_lenS (hr := ?_) | refine a_lenR (hr := ?_) | refine a_store (hr := ?_) | refine a_alloc (hr := ?_) | refine a_eqB (hr := ?_) | refine a_neB (hr := ?_) | refine a_idxArr (hr := ?_) | refine a_sliceArr (hr := ?_) | refine a_eqS (hr := ?_) | refine a_neS (hr := ?_) | refine a_sliceS (hr := ?_) | refine a_sliceR (hr := ?_) | refine a_indexAddr (hr := ?_) | refine a_build (hr := ?_) | refine a_buildSlice (hr := ?_) | refine a_append (hr := ?_) | refine a_append0 (hr := ?_) | refine a_appendX (hr := ?_))
    | fail)
      all_goals ((refine hQ _ _ _ _ (by first | exact .inr rfl | exact .inl rfl) (by simp; exact .r) (by simp; exact .r) ?_))
      all_goals (exact Fin.drop (by simp; exact .r) (by simp))
    · simp only [outW] at hQ
      obtain ⟨xa, xb, xc⟩ := a
      simp only at hQ
      by_cases hd : 12 < xc
      · rw [if_pos hd] at hQ
        unfold Pc.z at hQ
        repeat' (first
    | (with_reducible refine run_n ?_; with_reducible first | refine hK _ _ (by simp) ?_ | refine hK _ _ ?_; clear hK K)
    | (with_reducible first | refine awp_seq ?_ | refine then_n ?_ | refine then_r ?_ | refine then_e ?_ | refine awp_skip ?_ | refine awp_label ?_ | refine awp_ret ?_ | refine awp_exit ?_ | refine awp_block ?_ | refine awp_scope ?_ | refine in_n ?_ | refine in_r ?_ | refine in_e ?_ | refine in_ne (by decide) ?_ | refine ng_n ?_ | refine ng_r ?_ | refine ng_e ?_)
    | (with_reducible refine awp_regT (by kernel_rfl) ?_; intro K hK)
    | (with_reducible refine awp_regAM (id := 13) [(6, some 6)] mixed (by kernel_rfl) (by kernel_rfl) ?_; intro K hK)
    | (with_reducible refine a_cond (ht := ?_) (hf := ?_) <;> intro hb <;> (try simp at hb) <;> (try contradiction) <;> (try subst hb) <;> (try omega))
    | (with_reducible first | refine a_move (hr := ?_) | refine a_assign (hr := ?_) | refine a_load (hr := ?_) | refine a_fieldAddr (hr := ?_) | refine a_bin (hr := ?_) | refine a_lenS (hr := ?_) | refine a_lenR (hr := ?_) | refine a_store (hr := ?_) | refine a_alloc (hr := ?_) | refine a_eqB (hr := ?_) | refine a_neB (hr := ?_) | refine a_idxArr (hr := ?_) | refine a_sliceArr (hr := ?_) | refine a_eqS (hr := ?_) | refine a_neS (hr := ?_) | refine a_sliceS (hr := ?_) | refine a_sliceR (hr := ?_) | refine a_indexAddr (hr := ?_) | refine a_build (hr := ?_) | refine a_buildSlice (hr := ?_) | refine a_append (hr := ?_) | refine a_append0 (hr := ?_) | refine a_appendX (hr := ?_))
    | fail)
        all_goals ((refine hQ _ _ _ _ (by first | exact .inr rfl | exact .inl rfl) (by simp; exact .r) (by simp; exact .r) ?_))
        all_goals (exact Fin.drop (by simp; exact .r) (by simp))
      · rw [if_neg hd] at hQ
        repeat' (first
    | (with_reducible refine run_n ?_; with_reducible first | refine hK _ _ (by simp) ?_ | refine hK _ _ ?_; clear hK K)
    | (with_reducible first | refine awp_seq ?_ | refine then_n ?_ | refine then_r ?_ | refine then_e ?_ | refine awp_skip ?_ | refine awp_label ?_ | refine awp_ret ?_ | refine awp_exit ?_ | refine awp_block ?_ | refine awp_scope ?_ | refine in_n ?_ | refine in_r ?_ | refine in_e ?_ | refine in_ne (by decide) ?_ | refine ng_n ?_ | refine ng_r ?_ | refine ng_e ?_)
    | (with_reducible refine awp_regT (by kernel_rfl) ?_; intro K hK)
    | (with_reducible refine awp_regAM (id := 13) [(6, some 6)] mixed (by kernel_rfl) (by kernel_rfl) ?_; intro K hK)
    | (with_reducible refine a_cond (ht := ?_) (hf := ?_) <;> intro hb <;> (try simp at hb) <;> (try contradiction) <;> (try subst hb) <;> (try omega))
    | (with_reducible first | refine a_move (hr := ?_) | refine a_assign (hr := ?_) | refine a_load (hr := ?_) | refine a_fieldAddr (hr := ?_) | refine a_bin (hr := ?_) | refine a_lenS (hr := ?_) | refine a_lenR (hr := ?_) | refine a_store (hr := ?_) | refine a_alloc (hr := ?_) | refine a_eqB (hr := ?_) | refine a_neB (hr := ?_) | refine a_idxArr (hr := ?_) | refine a_sliceArr (hr := ?_) | refine a_eqS (hr := ?_) | refine a_neS (hr := ?_) | refine a_sliceS (hr := ?_) | refine a_sliceR (hr := ?_) | refine a_indexAddr (hr := ?_) | refine a_build (hr := ?_) | refine a_buildSlice (hr := ?_) | refine a_append (hr := ?_) | refine a_append0 (hr := ?_) | refine a_appendX (hr := ?_))
    | fail)
        all_goals ((refine hQ _ _ _ _ (by first | exact .inr rfl | exact .inl rfl) (by simp; exact .r) (by simp; exact .r) ?_))
        all_goals (exact Fin.drop (by simp; exact .r) (by simp))
    · simp only [outW, Pc.z] at hQ
      repeat' (first
    | (with_reducible refine run_n ?_; with_reducible first | refine hK _ _ (by simp) ?_ | refine hK _ _ ?_; clear hK K)
    | (with_reducible first | refine awp_seq ?_ | refine then_n ?_ | refine then_r ?_ | refine then_e ?_ | refine awp_skip ?_ | refine awp_label ?_ | refine awp_ret ?_ | refine awp_exit ?_ | refine awp_block ?_ | refine awp_scope ?_ | refine in_n ?_ | refine in_r ?_ | refine in_e ?_ | refine in_ne (by decide) ?_ | refine ng_n ?_ | refine ng_r ?_ | refine ng_e ?_)
    | (with_reducible refine awp_regT (by kernel_rfl) ?_; intro K hK)
    | (with_reducible refine awp_regAM (id := 13) [(6, some 6)] mixed (by kernel_rfl) (by kernel_rfl) ?_; intro K hK)
    | (with_reducible refine a_cond (ht := ?_) (hf := ?_) <;> intro hb <;> (try simp at hb) <;> (try contradiction) <;> (try subst hb) <;> (try omega))
    | (with_reducible first | refine a_move (hr := ?_) | refine a_assign (hr := ?_) | refine a_load (hr := ?_) | refine a_fieldAddr (hr := ?_) | refine a_bin (hr := ?_) | refine a_lenS (hr := ?_) | refine a_lenR (hr := ?_) | refine a_store (hr := ?_) | refine a_alloc (hr := ?_) | refine a_eqB (hr := ?_) | refine a_neB (hr := ?_) | refine a_idxArr (hr := ?_) | refine a_sliceArr (hr := ?_) | refine a_eqS (hr := ?_) | refine a_neS (hr := ?_) | refine a_sliceS (hr := ?_) | refine a_sliceR (hr := ?_) | refine a_indexAddr (hr := ?_) | refine a_build (hr := ?_) | refine a_buildSlice (hr := ?_) | refine a_append (hr := ?_) | refine a_append0 (hr := ?_) | refine a_appendX (hr := ?_))
    | fail)
      all_goals ((refine hQ _ _ _ _ (by first | exact .inr rfl | exact .inl rfl) (by simp; exact .r) (by simp; exact .r) ?_))
      all_goals (exact Fin.drop (by simp; exact .r) (by simp))
end Go.Proofs.YtjbbnollidcagaaDoor.Asl

namespace Go.Proofs.YtjbbnollidcagaaDoor.Asl
open Go Go.RowKit
set_option linter.unusedVariables false
set_option linter.unusedSimpArgs false
set_option maxRecDepth 100000
set_option maxHeartbeats 4000000
/-- Terms as a tree. -/
inductive Tr where
  | nul (t : TermV)
  | un (t : TermV) (a : Tr)
  | bi (t : TermV) (a b : Tr)
def Tr.flat : Tr → List TermV
  | .nul t => [t]
  | .un t a => a.flat ++ [t]
  | .bi t a b => a.flat ++ b.flat ++ [t]
def Tr.ok : Tr → Prop
  | .nul t => ownE t = 0 ∧ takesE t.op = 0
  | .un t a => (ownE t = 0 ∧ takesE t.op = 1) ∧ a.ok
  | .bi t a b => (ownE t = 0 ∧ takesE t.op = 2) ∧ a.ok ∧ b.ok
def flats (ts : List Tr) : List TermV := ts.flatMap Tr.flat
end Go.Proofs.YtjbbnollidcagaaDoor.Asl

namespace Go.Proofs.YtjbbnollidcagaaDoor.Asl
open Go Go.RowKit
set_option linter.unusedVariables false
set_option linter.unusedSimpArgs false
/-- The first part, and what stands behind it. -/
def fs : List Int → List Int → Option (List Int × List Int)
  | c :: d :: r, now => if c = 0 then (if d = 1 then some (now, r) else if d = 255 then fs r (now ++ [0]) else none) else fs (d :: r) (now ++ [c])
  | _, _ => none
termination_by l => l.length
/-- The least text above all that begin with one. -/
def after : List Int → List Int
  | [] => []
  | c :: r => if after r = [] then (if c < 255 then [c + 1] else []) else c :: after r
/-- A digit's byte. -/
def dg (x : Int) : Int := if x < 10 then 48 + x else 87 + x
/-- What a digit stands for; 16: it is none. -/
def hv (c : Int) : Int := if 48 ≤ c ∧ c ≤ 57 then c - 48 else if 97 ≤ c ∧ c ≤ 102 then c - 87 else 16
/-- What the inner loop finds, with m rounds left. -/
def fin (c : Int) : Nat → Int → Int
  | 0, x => x
  | m + 1, x => fin c m (if dg (16 - ((m : Int) + 1)) = c then 16 - ((m : Int) + 1) else x)
end Go.Proofs.YtjbbnollidcagaaDoor.Asl

namespace Go.Proofs.YtjbbnollidcagaaDoor.Asl
open Go Go.RowKit
set_option linter.unusedVariables false
set_option linter.unusedSimpArgs false
set_option maxRecDepth 100000
set_option maxHeartbeats 1000000
@[simp] theorem strs_eq_nil {l : List ByteArray} : strs l = [] ↔ l = [] := by simp [strs]
end Go.Proofs.YtjbbnollidcagaaDoor.Asl

namespace Go.Proofs.YtjbbnollidcagaaDoor.Asl
open Go Go.RowKit
set_option linter.unusedVariables false
set_option linter.unusedSimpArgs false
set_option maxRecDepth 100000
set_option maxHeartbeats 1000000
@[simp] theorem shl4_u64 (x : Int) : shlI .u64 x 4 = IntKind.wrap .u64 (x * 16) := rfl
end Go.Proofs.YtjbbnollidcagaaDoor.Asl

namespace Go.Proofs.YtjbbnollidcagaaDoor.Asl
open Go Go.RowKit
set_option linter.unusedVariables false
set_option linter.unusedSimpArgs false
set_option maxRecDepth 100000
set_option maxHeartbeats 4000000
structure VarV where
  n : ByteArray
  k : Int
  v : Int
  s : ByteArray
  deriving DecidableEq
@[simp] def varAV (x : VarV) : AV := .agg [.raw (.string x.n), valAV x.k x.v x.s]
instance : FlatF varAV := ⟨fun x => by simp⟩
def getV : List VarV → ByteArray → (Int × Int × ByteArray) × Bool
  | [], _ => ((0, 0, ⟨#[]⟩), false)
  | x :: l, m => if x.n = m then ((x.k, x.v, x.s), true) else getV l m
abbrev gtAV (t : (Int × Int × ByteArray) × Bool) : AV := .tup [valAV t.1.1 t.1.2.1 t.1.2.2, .raw (.bool t.2)]
theorem c_Get (l : List VarV) (m : ByteArray) (hl : l.length < 9223372036854775808) : CallD Tryd.prog 48 [.sl 4 (l.map varAV), .raw (.string m)] noHeap (gtAV (getV l m)) noHeap := by
  refine calls_go (nt := 22) (rs := [.cell 4 23, .tmp 5]) Tryd.func48 rfl rfl rfl (by simp) (by intro id h; simp at h <;> omega) ?_; intro Q hQ hW
  repeat' (first
    | (with_reducible refine run_n ?_; with_reducible first | refine hK _ _ (by simp) ?_ | refine hK _ _ ?_; clear hK K)
    | (with_reducible first | refine awp_seq ?_ | refine then_n ?_ | refine then_r ?_ | refine then_e ?_ | refine awp_skip ?_ | refine awp_label ?_ | refine awp_ret ?_ | refine awp_exit ?_ | refine awp_block ?_ | refine awp_scope ?_ | refine in_n ?_ | refine in_r ?_ | refine in_e ?_ | refine in_ne (by decide) ?_ | refine ng_n ?_ | refine ng_r ?_ | refine ng_e ?_)
    | (with_reducible refine awp_regT (by kernel_rfl) ?_; intro K hK)
    | (with_reducible refine a_cond (ht := ?_) (hf := ?_) <;> intro hb <;> (try simp at hb) <;> (try contradiction) <;> (try subst hb) <;> (try omega))
    | (with_reducible first | refine a_move (hr := ?_) | refine a_assign (hr := ?_) | refine a_load (hr := ?_) | refine a_fieldAddr (hr := ?_) | refine a_bin (hr := ?_) | refine a_lenS (hr := ?_) | refine a_lenR (hr := ?_) | refine a_store (hr := ?_) | refine a_alloc (hr := ?_) | refine a_eqB (hr := ?_) | refine a_idxArr (hr := ?_) | refine a_eqS (hr := ?_) | refine a_indexAddr (hr := ?_) | refine a_build (hr := ?_))
    | fail)
  refine awp_inv (α := Nat) (fun i => [(1, .raw (.string m)), (4, .ptr 4 0), (5, .raw (.bool false)), (8, .sl 4 (l.map varAV)), (9, .raw (.int .i64 l.length)), (10, .raw (.int .i64 i))]) (fun _ => hpL [(4, .box (valAV 0 0 ⟨#[]⟩))]) (fun i => i ≤ l.length ∧ getV (l.drop i) m = getV l m) (fun i => l.length - i) 0 ⟨by simp, by simp⟩ (weak_o (by repeat' (first | refine sub_ohp (by first | (simp; done) | (intro hne; simp at hne; simp [hne])) (by simp) ?_ | exact sub_hpL (by simp))) (by simp) (by simp <;> omega)) ?_
  rintro i ⟨g1, g2⟩
  rw [← g2] at hQ
  rcases Nat.lt_or_ge i l.length with hlt | hge
  · have hx := List.getElem?_eq_getElem hlt
    rw [List.drop_eq_getElem_cons hlt] at g2 hQ
    generalize l[i] = y at hx g2 hQ
    obtain ⟨yn, yk, yv, ys⟩ := y
    simp only [getV] at g2 hQ
    by_cases h1 : yn = m
    · rw [if_pos h1] at hQ
      subst h1
      repeat' (first
    | (with_reducible refine run_n ?_; with_reducible first | refine hK _ _ (by simp) ?_ | refine hK _ _ ?_; clear hK K)
    | (with_reducible first | refine awp_seq ?_ | refine then_n ?_ | refine then_r ?_ | refine then_e ?_ | refine awp_skip ?_ | refine awp_label ?_ | refine awp_ret ?_ | refine awp_exit ?_ | refine awp_block ?_ | refine awp_scope ?_ | refine in_n ?_ | refine in_r ?_ | refine in_e ?_ | refine in_ne (by decide) ?_ | refine ng_n ?_ | refine ng_r ?_ | refine ng_e ?_)
    | (with_reducible refine awp_regT (by kernel_rfl) ?_; intro K hK)
    | (with_reducible refine a_cond (ht := ?_) (hf := ?_) <;> intro hb <;> (try simp at hb) <;> (try contradiction) <;> (try subst hb) <;> (try omega))
    | (with_reducible first | refine a_move (hr := ?_) | refine a_assign (hr := ?_) | refine a_load (hr := ?_) | refine a_fieldAddr (hr := ?_) | refine a_bin (hr := ?_) | refine a_lenS (hr := ?_) | refine a_lenR (hr := ?_) | refine a_store (hr := ?_) | refine a_alloc (hr := ?_) | refine a_eqB (hr := ?_) | refine a_idxArr (hr := ?_) | refine a_eqS (hr := ?_) | refine a_indexAddr (hr := ?_) | refine a_build (hr := ?_))
    | fail)
      (refine hQ _ _ _ _ (by first | exact .inr rfl | exact .inl rfl) (by simp; exact .r) (by simp; exact .r) ?_)
      exact Fin.drop (by simp; exact .r) (by simp)
    · rw [if_neg h1] at g2 hQ
      repeat' (first
    | (with_reducible refine run_n ?_; with_reducible first | refine hK _ _ (by simp) ?_ | refine hK _ _ ?_; clear hK K)
    | (with_reducible first | refine awp_seq ?_ | refine then_n ?_ | refine then_r ?_ | refine then_e ?_ | refine awp_skip ?_ | refine awp_label ?_ | refine awp_ret ?_ | refine awp_exit ?_ | refine awp_block ?_ | refine awp_scope ?_ | refine in_n ?_ | refine in_r ?_ | refine in_e ?_ | refine in_ne (by decide) ?_ | refine ng_n ?_ | refine ng_r ?_ | refine ng_e ?_)
    | (with_reducible refine awp_regT (by kernel_rfl) ?_; intro K hK)
    | (with_reducible refine a_cond (ht := ?_) (hf := ?_) <;> intro hb <;> (try simp at hb) <;> (try contradiction) <;> (try subst hb) <;> (try omega))
    | (with_reducible first | refine a_move (hr := ?_) | refine a_assign (hr := ?_) | refine a_load (hr := ?_) | refine a_fieldAddr (hr := ?_) | refine a_bin (hr := ?_) | refine a_lenS (hr := ?_) | refine a_lenR (hr := ?_) | refine a_store (hr := ?_) | refine a_alloc (hr := ?_) | refine a_eqB (hr := ?_) | refine a_idxArr (hr := ?_) | refine a_eqS (hr := ?_) | refine a_indexAddr (hr := ?_) | refine a_build (hr := ?_))
    | fail)
      exact ⟨i + 1, by omega, ⟨by omega, g2⟩, weak_o (by repeat' (first | refine sub_ohp (by first | (simp; done) | (intro hne; simp at hne; simp [hne])) (by simp) ?_ | exact sub_hpL (by simp))) (by simp) (by simp <;> omega)⟩
  · obtain rfl : i = l.length := by omega
    rw [List.drop_length] at hQ
    simp only [getV] at hQ
    repeat' (first
    | (with_reducible refine run_n ?_; with_reducible first | refine hK _ _ (by simp) ?_ | refine hK _ _ ?_; clear hK K)
    | (with_reducible first | refine awp_seq ?_ | refine then_n ?_ | refine then_r ?_ | refine then_e ?_ | refine awp_skip ?_ | refine awp_label ?_ | refine awp_ret ?_ | refine awp_exit ?_ | refine awp_block ?_ | refine awp_scope ?_ | refine in_n ?_ | refine in_r ?_ | refine in_e ?_ | refine in_ne (by decide) ?_ | refine ng_n ?_ | refine ng_r ?_ | refine ng_e ?_)
    | (with_reducible refine awp_regT (by kernel_rfl) ?_; intro K hK)
    | (with_reducible refine a_cond (ht := ?_) (hf := ?_) <;> intro hb <;> (try simp at hb) <;> (try contradiction) <;> (try subst hb) <;> (try omega))
    | (with_reducible first | refine a_move (hr := ?_) | refine a_assign (hr := ?_) | refine a_load (hr := ?_) | refine a_fieldAddr (hr := ?_) | refine a_bin (hr := ?_) | refine a_lenS (hr := ?_) | refine a_lenR (hr := ?_) | refine a_store (hr := ?_) | refine a_alloc (hr := ?_) | refine a_eqB (hr := ?_) | refine a_idxArr (hr := ?_) | refine a_eqS (hr := ?_) | refine a_indexAddr (hr := ?_) | refine a_build (hr := ?_))
    | fail)
    (refine hQ _ _ _ _ (by first | exact .inr rfl | exact .inl rfl) (by simp; exact .r) (by simp; exact .r) ?_)
    exact Fin.drop (by simp; exact .r) (by simp)
end Go.Proofs.YtjbbnollidcagaaDoor.Asl

namespace Go.Proofs.YtjbbnollidcagaaDoor.Asl
open Go Go.RowKit
open Go.Proofs.YtjbbnollidcagaaDoor.Errs (EV)
set_option linter.unusedVariables false
set_option linter.unusedSimpArgs false
set_option maxRecDepth 100000
set_option maxHeartbeats 4000000
/-- Places, each with a colon behind. -/
def joinS : List ByteArray → ByteArray → ByteArray
  | [], s => s
  | p :: l, s => joinS l (s ++ (p ++ ⟨#[58, 32]⟩))
@[simp] theorem joinS_nil (s : ByteArray) : joinS [] s = s := rfl
instance : FlatF errO := ⟨fun x => by simp⟩
/-- The document's error: whether there is one, its places, its number, whether it asks, and for what. -/
structure RE where
  is : Bool
  ps : List ByteArray
  c : Int
  asks : Bool
  lo : ByteArray
  hi : ByteArray
def plAV (l : List ByteArray) : AV := if l = [] then .raw (.slice none 0 0) else .sl 1 (strs l)
@[simp] theorem plAV_nil : plAV [] = .raw (.slice none 0 0) := rfl
@[simp] theorem plAV_cons (p : ByteArray) (l : List ByteArray) : plAV (p :: l) = .sl 1 (strs (p :: l)) := rfl
abbrev RE.av (x : RE) : AV := .agg [.raw (.bool x.is), plAV x.ps, .raw (.int .i64 x.c), .raw (.bool x.asks), .agg [.raw (.string x.lo), .raw (.string x.hi)]]
end Go.Proofs.YtjbbnollidcagaaDoor.Asl

namespace Go.Proofs.YtjbbnollidcagaaDoor.Asl
open Go Go.RowKit
open Go.Proofs.YtjbbnollidcagaaDoor.Errs (EV)
set_option linter.unusedVariables false
set_option linter.unusedSimpArgs false
set_option maxRecDepth 100000
set_option maxHeartbeats 4000000
structure Mk where
  asks : Bool
  lo : ByteArray
  hi : ByteArray
  c : Int
  ps : List ByteArray
abbrev Mk.av (m : Mk) : AV := .agg [.raw (.bool m.asks), .raw (.string m.lo), .raw (.string m.hi), .raw (.int .i32 m.c), .sl 1 (strs m.ps)]
def wrapsE (b : Option EV) : List ByteArray → Option EV
  | [] => b
  | p :: l => (wrapsE b l).map (.wrap p)
def Mk.base (m : Mk) : Option EV := if m.asks then some (.need m.lo m.hi) else ofE m.c
def Mk.ev (m : Mk) : Option EV := wrapsE m.base m.ps
def Mk.ok (m : Mk) : Prop := -2147483648 ≤ m.c ∧ m.c ≤ 2147483647 ∧ m.ps.length ≤ 140737488351232
end Go.Proofs.YtjbbnollidcagaaDoor.Asl

