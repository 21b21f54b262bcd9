/- Part 35 of what the row leans on: abstract values and states, their rules, and the contracts of the functions. -/
import Derived.Test.YtjbbnollidcagaaDoorZga34
namespace Go.Proofs.YtjbbnollidcagaaDoor.Asl
open Go Go.RowKit
open Go.Proofs.YtjbbnollidcagaaDoor.Errs (EV)
set_option linter.unusedVariables false
set_option linter.unusedSimpArgs false
set_option maxRecDepth 100000
set_option maxHeartbeats 8000000
theorem two_num (op m n : Int) (h : 6 ≤ op ∧ op ≤ 10) : twoE op (1, m, ⟨#[]⟩) (1, n, ⟨#[]⟩) = numE op m n := by
  unfold twoE
  rw [if_neg (by omega), if_neg (by omega), if_neg (by omega), if_neg (by omega), if_neg (by simp), if_pos ⟨rfl, rfl⟩]
theorem c_N2 (op m n : Int) (h : 6 ≤ op ∧ op ≤ 10) (hm : inR m) (hn : inR n) : CallD Tryd.prog 14 [.raw (.int .i64 op), valAV 1 m ⟨#[]⟩, valAV 1 n ⟨#[]⟩] noHeap (.tup [Val.av (numE op m n).1, .raw (.int .i64 (numE op m n).2)]) noHeap := by
  have q := c_Two op (1, m, ⟨#[]⟩) (1, n, ⟨#[]⟩) hm hn (by simp) (by simp)
  rw [two_num op m n h] at q
  exact q
/-- What the remainder is. -/
theorem mod_is {m n : Int} (hm : inR m) (hn : inR n) (h0 : n ≠ 0) : (0 ≤ m → 0 ≤ m.tmod n ∧ m.tmod n ≤ m) ∧ (m < 0 → m.tmod n ≤ 0 ∧ m ≤ m.tmod n) ∧ (0 < n → -n < m.tmod n ∧ m.tmod n < n) ∧ (n < 0 → n < m.tmod n ∧ m.tmod n < -n) ∧ m.tdiv n * n = m - m.tmod n := by
  have e : m.tdiv n * n = m - m.tmod n := by
    have := Int.mul_tdiv_add_tmod m n
    rw [Int.mul_comm]; omega
  have h := tmod_sg m n
  have p1 : 0 ≤ absV m % absV n := Int.emod_nonneg _ (by unfold absV; split <;> omega)
  have p2 : absV m % absV n < absV n := Int.emod_lt_of_pos _ (by unfold absV; split <;> omega)
  have p3 : absV m % absV n ≤ absV m := by
    have h1 : 0 ≤ absV m := by unfold absV; split <;> omega
    have h2 : 0 < absV n := by unfold absV; split <;> omega
    rcases Int.lt_or_le (absV m) (absV n) with hh | hh
    · rw [Int.emod_eq_of_lt h1 hh]; omega
    · omega
  generalize absV m % absV n = z at h p1 p2 p3
  unfold absV at p2 p3
  unfold sgV at h
  by_cases hm0 : m < 0 <;> by_cases hn0 : n < 0 <;> simp only [hm0, hn0, if_true, if_false, decide_true, decide_false, Bool.false_eq_true] at h p2 p3 <;> (refine ⟨?_, ?_, ?_, ?_, e⟩ <;> omega)
theorem out_ok {r : Int} (h : inR r) : outI r = ((1, r, ⟨#[]⟩), 0) := if_pos h
theorem out_no {r : Int} (h : ¬ inR r) : outI r = (zV, 9) := if_neg h
theorem num6 (m n : Int) : numE 6 m n = outI (m * n) := rfl
theorem num9 (m n : Int) : numE 9 m n = outI (m + n) := rfl
theorem num10 (m n : Int) : numE 10 m n = outI (m - n) := rfl
theorem num8 {m n : Int} (h : n ≠ 0) : numE 8 m n = ((1, m.tmod n, ⟨#[]⟩), 0) := by unfold numE; simp [h]
theorem num7 {m n : Int} (h : n ≠ 0) : numE 7 m n = outI (m.tdiv n) := by unfold numE; simp [h]
theorem num0 {m : Int} : numE 8 m 0 = (zV, 62) ∧ numE 7 m 0 = (zV, 62) := by unfold numE; simp
theorem en_zero (m n : Int) (hm : inR m) (hn : inR n) (hz : n = 0) : CallD Tryd.prog 6 [.raw (.int .i64 m), .raw (.int .i64 n)] noHeap (.raw (.bool true)) noHeap := by
  have n1 := c_num6 m
  have n2 := c_num6 n
  have n0 := c_num6 0
  have a1 := c_N2 9 m n (by decide) hm hn
  have a2 := c_N2 9 n m (by decide) hn hm
  have b1 := c_N2 6 m n (by decide) hm hn
  have b2 := c_N2 6 n m (by decide) hn hm
  have d1 := c_N2 7 m n (by decide) hm hn
  have d2 := c_N2 8 m n (by decide) hm hn
  have s1 : inR (m + n) → CallD Tryd.prog 14 [.raw (.int .i64 10), valAV 1 (m + n) ⟨#[]⟩, valAV 1 n ⟨#[]⟩] noHeap (.tup [valAV 1 m ⟨#[]⟩, .raw (.int .i64 0)]) noHeap := fun h => by
    have q := c_N2 10 (m + n) n (by decide) h hn
    rw [num10, show m + n - n = m by omega, out_ok hm] at q
    exact q
  rw [num9] at a1 a2
  rw [num6] at b1 b2
  rw [Int.add_comm n m] at a2
  rw [Int.mul_comm n m] at b2
  generalize outI (m * n) = p at b1 b2
  obtain ⟨⟨pk, pn, ps⟩, pc⟩ := p
  simp only [Val.av] at b1 b2
  subst hz
  rw [num0.2] at d1
  rw [num0.1] at d2
  unfold zV at d1 d2
  have s1 := s1 (by simpa using hm)
  rw [out_ok (by simpa using hm)] at a1 a2
  simp only [Val.av] at a1 a2 d1 d2
  refine calls_go (nt := 209) (rs := [.tmp 4]) Tryd.func6 rfl rfl rfl (by simp) (by intro id h; simp at h <;> omega) ?_; intro Q hQ hW
  repeat' (first
    | (with_reducible refine run_n ?_; with_reducible first | refine hK _ _ (by simp) ?_ | refine hK _ _ ?_; clear hK K)
    | (refine zzc ?_)
    | (with_reducible refine awp_regT (by kernel_rfl) ?_; intro K hK)
    | (with_reducible refine awp_regCM (id := 19) [(19, some 19)] [(19, some 19)] mixed (by kernel_rfl) (by kernel_rfl) (by kernel_rfl) ?_; intro K hK)
    | (with_reducible refine a_cond (ht := ?_) (hf := ?_) <;> intro hb <;> (try simp at hb) <;> (try contradiction) <;> (try subst hb) <;> (try omega))
    | (with_reducible first | refine a_move (hr:=?_) | refine a_assign (hr:=?_) | refine a_load (hr:=?_) | refine a_fieldAddr (hr:=?_) | refine a_bin (hr:=?_) | refine a_extract (hr:=?_) | refine a_pick (hr:=?_) | refine a_un (hr:=?_) | refine a_store (hr:=?_) | refine a_alloc (hr:=?_) | refine a_eqB (hr:=?_) | refine a_neB (hr:=?_) | refine a_eqS (hr:=?_) | refine a_neS (hr:=?_) | refine a_call0 (hcall := c_live6) (hr:=?_) | refine a_call0 (hcall := n1) (hr:=?_) | refine a_call0 (hcall := n2) (hr:=?_) | refine a_call0 (hcall := a1) (hr:=?_) | refine a_call0 (hcall := a2) (hr:=?_) | refine a_call0 (hcall := b1) (hr:=?_) | refine a_call0 (hcall := b2) (hr:=?_) | refine a_call0 (hcall := s1) (hr:=?_) | refine a_call0 (hcall := d1) (hr:=?_) | refine a_call0 (hcall := d2) (hr:=?_) | refine a_gT (hr:=?_) | refine a_gF (hr:=?_) | refine a_gU (hr:=?_))
    | (with_reducible refine a_gB (hT := ?_) (hF := ?_) <;> intro hb <;> (try simp at hb) <;> (try contradiction) <;> (try subst hb) <;> (try omega))
    | fail)
  all_goals ((refine zzr hQ ?_))
  all_goals (exact Fin.drop (by simp; exact .r) (by simp))
theorem en_over (m n : Int) (hm : inR m) (hn : inR n) (hz : n ≠ 0) (hx : m = -9223372036854775808 ∧ n = -1) : CallD Tryd.prog 6 [.raw (.int .i64 m), .raw (.int .i64 n)] noHeap (.raw (.bool true)) noHeap := by
  have n1 := c_num6 m
  have n2 := c_num6 n
  have n0 := c_num6 0
  have a1 := c_N2 9 m n (by decide) hm hn
  have a2 := c_N2 9 n m (by decide) hn hm
  have b1 := c_N2 6 m n (by decide) hm hn
  have b2 := c_N2 6 n m (by decide) hn hm
  have d1 := c_N2 7 m n (by decide) hm hn
  have d2 := c_N2 8 m n (by decide) hm hn
  have s1 : inR (m + n) → CallD Tryd.prog 14 [.raw (.int .i64 10), valAV 1 (m + n) ⟨#[]⟩, valAV 1 n ⟨#[]⟩] noHeap (.tup [valAV 1 m ⟨#[]⟩, .raw (.int .i64 0)]) noHeap := fun h => by
    have q := c_N2 10 (m + n) n (by decide) h hn
    rw [num10, show m + n - n = m by omega, out_ok hm] at q
    exact q
  rw [num9] at a1 a2
  rw [num6] at b1 b2
  rw [Int.add_comm n m] at a2
  rw [Int.mul_comm n m] at b2
  generalize outI (m * n) = p at b1 b2
  obtain ⟨⟨pk, pn, ps⟩, pc⟩ := p
  simp only [Val.av] at b1 b2
  rw [num7 hz] at d1
  rw [num8 hz] at d2
  have hm' := hm
  have hn' := hn
  unfold inR at hm' hn'
  obtain ⟨rfl, rfl⟩ := hx
  rw [show outI ((-9223372036854775808 : Int).tdiv (-1)) = (zV, 9) by decide] at d1
  rw [show (-9223372036854775808 : Int).tmod (-1) = 0 by decide] at d2
  rw [show outI (-9223372036854775808 + -1) = (zV, 9) by decide] at a1 a2
  clear s1
  unfold zV at d1 a1 a2
  simp only [Val.av] at a1 a2 d1 d2
  refine calls_go (nt := 209) (rs := [.tmp 4]) Tryd.func6 rfl rfl rfl (by simp) (by intro id h; simp at h <;> omega) ?_; intro Q hQ hW
  repeat' (first
    | (with_reducible refine run_n ?_; with_reducible first | refine hK _ _ (by simp) ?_ | refine hK _ _ ?_; clear hK K)
    | (refine zzc ?_)
    | (with_reducible refine awp_regT (by kernel_rfl) ?_; intro K hK)
    | (with_reducible refine awp_regCM (id := 19) [(19, some 19)] [(19, some 19)] mixed (by kernel_rfl) (by kernel_rfl) (by kernel_rfl) ?_; intro K hK)
    | (with_reducible refine a_cond (ht := ?_) (hf := ?_) <;> intro hb <;> (try simp at hb) <;> (try contradiction) <;> (try subst hb) <;> (try omega))
    | (with_reducible first | refine a_move (hr:=?_) | refine a_assign (hr:=?_) | refine a_load (hr:=?_) | refine a_fieldAddr (hr:=?_) | refine a_bin (hr:=?_) | refine a_extract (hr:=?_) | refine a_pick (hr:=?_) | refine a_un (hr:=?_) | refine a_store (hr:=?_) | refine a_alloc (hr:=?_) | refine a_eqB (hr:=?_) | refine a_neB (hr:=?_) | refine a_eqS (hr:=?_) | refine a_neS (hr:=?_) | refine a_call0 (hcall := c_live6) (hr:=?_) | refine a_call0 (hcall := n1) (hr:=?_) | refine a_call0 (hcall := n2) (hr:=?_) | refine a_call0 (hcall := n0) (hr:=?_) | refine a_call0 (hcall := a1) (hr:=?_) | refine a_call0 (hcall := a2) (hr:=?_) | refine a_call0 (hcall := b1) (hr:=?_) | refine a_call0 (hcall := b2) (hr:=?_) | refine a_call0 (hcall := d1) (hr:=?_) | refine a_call0 (hcall := d2) (hr:=?_) | refine a_gT (hr:=?_) | refine a_gF (hr:=?_) | refine a_gU (hr:=?_))
    | (with_reducible refine a_gB (hT := ?_) (hF := ?_) <;> intro hb <;> (try simp at hb) <;> (try contradiction) <;> (try subst hb) <;> (try omega))
    | fail)
  all_goals ((refine zzr hQ ?_))
  all_goals (exact Fin.drop (by simp; exact .r) (by simp))
theorem en_ina (m n : Int) (hm : inR m) (hn : inR n) (hz : n ≠ 0) (hx : ¬ (m = -9223372036854775808 ∧ n = -1)) (hA : inR (m + n)) (hs : 0 < n) : CallD Tryd.prog 6 [.raw (.int .i64 m), .raw (.int .i64 n)] noHeap (.raw (.bool true)) noHeap := by
  have n1 := c_num6 m
  have n2 := c_num6 n
  have n0 := c_num6 0
  have a1 := c_N2 9 m n (by decide) hm hn
  have a2 := c_N2 9 n m (by decide) hn hm
  have b1 := c_N2 6 m n (by decide) hm hn
  have b2 := c_N2 6 n m (by decide) hn hm
  have d1 := c_N2 7 m n (by decide) hm hn
  have d2 := c_N2 8 m n (by decide) hm hn
  have s1 : inR (m + n) → CallD Tryd.prog 14 [.raw (.int .i64 10), valAV 1 (m + n) ⟨#[]⟩, valAV 1 n ⟨#[]⟩] noHeap (.tup [valAV 1 m ⟨#[]⟩, .raw (.int .i64 0)]) noHeap := fun h => by
    have q := c_N2 10 (m + n) n (by decide) h hn
    rw [num10, show m + n - n = m by omega, out_ok hm] at q
    exact q
  rw [num9] at a1 a2
  rw [num6] at b1 b2
  rw [Int.add_comm n m] at a2
  rw [Int.mul_comm n m] at b2
  generalize outI (m * n) = p at b1 b2
  obtain ⟨⟨pk, pn, ps⟩, pc⟩ := p
  simp only [Val.av] at b1 b2
  rw [num7 hz] at d1
  rw [num8 hz] at d2
  have hm' := hm
  have hn' := hn
  unfold inR at hm' hn'
  have hq := tdiv_in hm hz hx
  rw [out_ok hq] at d1
  obtain ⟨r1, r2, r3, r4, r5⟩ := mod_is hm hn hz
  have hz' : m.tmod n = 0 ∨ (m.tmod n < 0 ↔ m < 0) := by
    by_cases h : m < 0
    · have := r2 h; omega
    · have := r1 (by omega); omega
  have hr : inR (m.tmod n) := by unfold inR; omega
  have hqn : inR (m.tdiv n * n) := by
    rw [r5]; unfold inR
    by_cases h : m < 0
    · have := r2 h; omega
    · have := r1 (by omega); omega
  have e1 := c_N2 6 (m.tdiv n) n (by decide) hq hn
  rw [num6, out_ok hqn] at e1
  have e2 := c_N2 9 (m.tdiv n * n) (m.tmod n) (by decide) hqn hr
  rw [num9, show m.tdiv n * n + m.tmod n = m by omega, out_ok hm] at e2
  generalize m.tdiv n * n = P at e1 e2
  generalize m.tmod n = R at d2 e2 r1 r2 r3 r4 hz' hr
  generalize m.tdiv n = D at d1 e1
  simp only [Val.av] at d1 d2 e1 e2
  clear r5 hqn hq hr
  have hww : IntKind.wrap .i64 (-n) = -n ∨ n = -9223372036854775808 := by
    obtain ⟨w, hw⟩ : ∃ w, IntKind.wrap .i64 (-n) = w := ⟨_, rfl⟩
    rw [hw]
    rw [wrap_i64'] at hw
    split at hw <;> omega
  have s1 := s1 hA
  rw [out_ok hA] at a1 a2
  simp only [Val.av] at a1 a2
  refine calls_go (nt := 209) (rs := [.tmp 4]) Tryd.func6 rfl rfl rfl (by simp) (by intro id h; simp at h <;> omega) ?_; intro Q hQ hW
  repeat' (first
    | (with_reducible refine run_n ?_; with_reducible first | refine hK _ _ (by simp) ?_ | refine hK _ _ ?_; clear hK K)
    | (refine zzc ?_)
    | (with_reducible refine awp_regT (by kernel_rfl) ?_; intro K hK)
    | (with_reducible refine awp_regCM (id := 19) [(19, some 19)] [(19, some 19)] mixed (by kernel_rfl) (by kernel_rfl) (by kernel_rfl) ?_; intro K hK)
    | (with_reducible refine a_cond (ht := ?_) (hf := ?_) <;> intro hb <;> (try simp at hb) <;> (try contradiction) <;> (try subst hb) <;> (try omega))
    | (with_reducible first | refine a_move (hr:=?_) | refine a_assign (hr:=?_) | refine a_load (hr:=?_) | refine a_fieldAddr (hr:=?_) | refine a_bin (hr:=?_) | refine a_extract (hr:=?_) | refine a_pick (hr:=?_) | refine a_un (hr:=?_) | refine a_store (hr:=?_) | refine a_alloc (hr:=?_) | refine a_eqB (hr:=?_) | refine a_neB (hr:=?_) | refine a_eqS (hr:=?_) | refine a_neS (hr:=?_) | refine a_call0 (hcall := c_live6) (hr:=?_) | refine a_call0 (hcall := n1) (hr:=?_) | refine a_call0 (hcall := n2) (hr:=?_) | refine a_call0 (hcall := n0) (hr:=?_) | refine a_call0 (hcall := a1) (hr:=?_) | refine a_call0 (hcall := a2) (hr:=?_) | refine a_call0 (hcall := b1) (hr:=?_) | refine a_call0 (hcall := b2) (hr:=?_) | refine a_call0 (hcall := s1) (hr:=?_) | refine a_call0 (hcall := d1) (hr:=?_) | refine a_call0 (hcall := d2) (hr:=?_) | refine a_call0 (hcall := e1) (hr:=?_) | refine a_call0 (hcall := e2) (hr:=?_) | refine a_gT (hr:=?_) | refine a_gF (hr:=?_) | refine a_gU (hr:=?_))
    | (with_reducible refine a_gB (hT := ?_) (hF := ?_) <;> intro hb <;> (try simp at hb) <;> (try contradiction) <;> (try subst hb) <;> (try omega))
    | fail)
  simp only [List.append_eq, List.cons_append, List.nil_append]
  repeat' (first
    | (with_reducible refine run_n ?_; with_reducible first | refine hK _ _ (by simp) ?_ | refine hK _ _ ?_; clear hK K)
    | (refine zzc ?_)
    | (with_reducible refine awp_regT (by kernel_rfl) ?_; intro K hK)
    | (with_reducible refine awp_regCM (id := 19) [(19, some 19)] [(19, some 19)] mixed (by kernel_rfl) (by kernel_rfl) (by kernel_rfl) ?_; intro K hK)
    | (with_reducible refine a_cond (ht := ?_) (hf := ?_) <;> intro hb <;> (try simp at hb) <;> (try contradiction) <;> (try subst hb) <;> (try omega))
    | (with_reducible first | refine a_move (hr:=?_) | refine a_assign (hr:=?_) | refine a_load (hr:=?_) | refine a_fieldAddr (hr:=?_) | refine a_bin (hr:=?_) | refine a_extract (hr:=?_) | refine a_pick (hr:=?_) | refine a_un (hr:=?_) | refine a_store (hr:=?_) | refine a_alloc (hr:=?_) | refine a_eqB (hr:=?_) | refine a_neB (hr:=?_) | refine a_eqS (hr:=?_) | refine a_neS (hr:=?_) | refine a_call0 (hcall := c_live6) (hr:=?_) | refine a_gT (hr:=?_) | refine a_gF (hr:=?_) | refine a_gU (hr:=?_))
    | (with_reducible refine a_gB (hT := ?_) (hF := ?_) <;> intro hb <;> (try simp at hb) <;> (try contradiction) <;> (try subst hb) <;> (try omega))
    | fail)
  all_goals first
    | (exfalso; omega)
    | ((refine zzr hQ ?_); exact Fin.drop (by simp; exact .r) (by simp))
    | (have h9 : decide ((-9223372036854775808 : Int) < R) = true := decide_eq_true (by omega)
       simp only [h9]
       (refine zzr hQ ?_)
       exact Fin.drop (by simp; exact .r) (by simp))
theorem en_outa (m n : Int) (hm : inR m) (hn : inR n) (hz : n ≠ 0) (hx : ¬ (m = -9223372036854775808 ∧ n = -1)) (hA : ¬ inR (m + n)) (hs : 0 < n) : CallD Tryd.prog 6 [.raw (.int .i64 m), .raw (.int .i64 n)] noHeap (.raw (.bool true)) noHeap := by
  have n1 := c_num6 m
  have n2 := c_num6 n
  have n0 := c_num6 0
  have a1 := c_N2 9 m n (by decide) hm hn
  have a2 := c_N2 9 n m (by decide) hn hm
  have b1 := c_N2 6 m n (by decide) hm hn
  have b2 := c_N2 6 n m (by decide) hn hm
  have d1 := c_N2 7 m n (by decide) hm hn
  have d2 := c_N2 8 m n (by decide) hm hn
  have s1 : inR (m + n) → CallD Tryd.prog 14 [.raw (.int .i64 10), valAV 1 (m + n) ⟨#[]⟩, valAV 1 n ⟨#[]⟩] noHeap (.tup [valAV 1 m ⟨#[]⟩, .raw (.int .i64 0)]) noHeap := fun h => by
    have q := c_N2 10 (m + n) n (by decide) h hn
    rw [num10, show m + n - n = m by omega, out_ok hm] at q
    exact q
  rw [num9] at a1 a2
  rw [num6] at b1 b2
  rw [Int.add_comm n m] at a2
  rw [Int.mul_comm n m] at b2
  generalize outI (m * n) = p at b1 b2
  obtain ⟨⟨pk, pn, ps⟩, pc⟩ := p
  simp only [Val.av] at b1 b2
  rw [num7 hz] at d1
  rw [num8 hz] at d2
  have hm' := hm
  have hn' := hn
  unfold inR at hm' hn'
  have hq := tdiv_in hm hz hx
  rw [out_ok hq] at d1
  obtain ⟨r1, r2, r3, r4, r5⟩ := mod_is hm hn hz
  have hz' : m.tmod n = 0 ∨ (m.tmod n < 0 ↔ m < 0) := by
    by_cases h : m < 0
    · have := r2 h; omega
    · have := r1 (by omega); omega
  have hr : inR (m.tmod n) := by unfold inR; omega
  have hqn : inR (m.tdiv n * n) := by
    rw [r5]; unfold inR
    by_cases h : m < 0
    · have := r2 h; omega
    · have := r1 (by omega); omega
  have e1 := c_N2 6 (m.tdiv n) n (by decide) hq hn
  rw [num6, out_ok hqn] at e1
  have e2 := c_N2 9 (m.tdiv n * n) (m.tmod n) (by decide) hqn hr
  rw [num9, show m.tdiv n * n + m.tmod n = m by omega, out_ok hm] at e2
  generalize m.tdiv n * n = P at e1 e2
  generalize m.tmod n = R at d2 e2 r1 r2 r3 r4 hz' hr
  generalize m.tdiv n = D at d1 e1
  simp only [Val.av] at d1 d2 e1 e2
  clear r5 hqn hq hr
  have hww : IntKind.wrap .i64 (-n) = -n ∨ n = -9223372036854775808 := by
    obtain ⟨w, hw⟩ : ∃ w, IntKind.wrap .i64 (-n) = w := ⟨_, rfl⟩
    rw [hw]
    rw [wrap_i64'] at hw
    split at hw <;> omega
  clear s1
  rw [out_no hA] at a1 a2
  unfold zV at a1 a2
  simp only [Val.av] at a1 a2
  refine calls_go (nt := 209) (rs := [.tmp 4]) Tryd.func6 rfl rfl rfl (by simp) (by intro id h; simp at h <;> omega) ?_; intro Q hQ hW
  repeat' (first
    | (with_reducible refine run_n ?_; with_reducible first | refine hK _ _ (by simp) ?_ | refine hK _ _ ?_; clear hK K)
    | (refine zzc ?_)
    | (with_reducible refine awp_regT (by kernel_rfl) ?_; intro K hK)
    | (with_reducible refine awp_regCM (id := 19) [(19, some 19)] [(19, some 19)] mixed (by kernel_rfl) (by kernel_rfl) (by kernel_rfl) ?_; intro K hK)
    | (with_reducible refine a_cond (ht := ?_) (hf := ?_) <;> intro hb <;> (try simp at hb) <;> (try contradiction) <;> (try subst hb) <;> (try omega))
    | (with_reducible first | refine a_move (hr:=?_) | refine a_assign (hr:=?_) | refine a_load (hr:=?_) | refine a_fieldAddr (hr:=?_) | refine a_bin (hr:=?_) | refine a_extract (hr:=?_) | refine a_pick (hr:=?_) | refine a_un (hr:=?_) | refine a_store (hr:=?_) | refine a_alloc (hr:=?_) | refine a_eqB (hr:=?_) | refine a_neB (hr:=?_) | refine a_eqS (hr:=?_) | refine a_neS (hr:=?_) | refine a_call0 (hcall := c_live6) (hr:=?_) | refine a_call0 (hcall := n1) (hr:=?_) | refine a_call0 (hcall := n2) (hr:=?_) | refine a_call0 (hcall := n0) (hr:=?_) | refine a_call0 (hcall := a1) (hr:=?_) | refine a_call0 (hcall := a2) (hr:=?_) | refine a_call0 (hcall := b1) (hr:=?_) | refine a_call0 (hcall := b2) (hr:=?_) | refine a_call0 (hcall := d1) (hr:=?_) | refine a_call0 (hcall := d2) (hr:=?_) | refine a_call0 (hcall := e1) (hr:=?_) | refine a_call0 (hcall := e2) (hr:=?_) | refine a_gT (hr:=?_) | refine a_gF (hr:=?_) | refine a_gU (hr:=?_))
    | (with_reducible refine a_gB (hT := ?_) (hF := ?_) <;> intro hb <;> (try simp at hb) <;> (try contradiction) <;> (try subst hb) <;> (try omega))
    | fail)
  simp only [List.append_eq, List.cons_append, List.nil_append]
  repeat' (first
    | (with_reducible refine run_n ?_; with_reducible first | refine hK _ _ (by simp) ?_ | refine hK _ _ ?_; clear hK K)
    | (refine zzc ?_)
    | (with_reducible refine awp_regT (by kernel_rfl) ?_; intro K hK)
    | (with_reducible refine awp_regCM (id := 19) [(19, some 19)] [(19, some 19)] mixed (by kernel_rfl) (by kernel_rfl) (by kernel_rfl) ?_; intro K hK)
    | (with_reducible refine a_cond (ht := ?_) (hf := ?_) <;> intro hb <;> (try simp at hb) <;> (try contradiction) <;> (try subst hb) <;> (try omega))
    | (with_reducible first | refine a_move (hr:=?_) | refine a_assign (hr:=?_) | refine a_load (hr:=?_) | refine a_fieldAddr (hr:=?_) | refine a_bin (hr:=?_) | refine a_extract (hr:=?_) | refine a_pick (hr:=?_) | refine a_un (hr:=?_) | refine a_store (hr:=?_) | refine a_alloc (hr:=?_) | refine a_eqB (hr:=?_) | refine a_neB (hr:=?_) | refine a_eqS (hr:=?_) | refine a_neS (hr:=?_) | refine a_call0 (hcall := c_live6) (hr:=?_) | refine a_gT (hr:=?_) | refine a_gF (hr:=?_) | refine a_gU (hr:=?_))
    | (with_reducible refine a_gB (hT := ?_) (hF := ?_) <;> intro hb <;> (try simp at hb) <;> (try contradiction) <;> (try subst hb) <;> (try omega))
    | fail)
  all_goals first
    | (exfalso; omega)
    | ((refine zzr hQ ?_); exact Fin.drop (by simp; exact .r) (by simp))
    | (have h9 : decide ((-9223372036854775808 : Int) < R) = true := decide_eq_true (by omega)
       simp only [h9]
       (refine zzr hQ ?_)
       exact Fin.drop (by simp; exact .r) (by simp))
theorem en_inb (m n : Int) (hm : inR m) (hn : inR n) (hz : n ≠ 0) (hx : ¬ (m = -9223372036854775808 ∧ n = -1)) (hA : inR (m + n)) (hs : n = -9223372036854775808) : CallD Tryd.prog 6 [.raw (.int .i64 m), .raw (.int .i64 n)] noHeap (.raw (.bool true)) noHeap := by
  have n1 := c_num6 m
  have n2 := c_num6 n
  have n0 := c_num6 0
  have a1 := c_N2 9 m n (by decide) hm hn
  have a2 := c_N2 9 n m (by decide) hn hm
  have b1 := c_N2 6 m n (by decide) hm hn
  have b2 := c_N2 6 n m (by decide) hn hm
  have d1 := c_N2 7 m n (by decide) hm hn
  have d2 := c_N2 8 m n (by decide) hm hn
  have s1 : inR (m + n) → CallD Tryd.prog 14 [.raw (.int .i64 10), valAV 1 (m + n) ⟨#[]⟩, valAV 1 n ⟨#[]⟩] noHeap (.tup [valAV 1 m ⟨#[]⟩, .raw (.int .i64 0)]) noHeap := fun h => by
    have q := c_N2 10 (m + n) n (by decide) h hn
    rw [num10, show m + n - n = m by omega, out_ok hm] at q
    exact q
  rw [num9] at a1 a2
  rw [num6] at b1 b2
  rw [Int.add_comm n m] at a2
  rw [Int.mul_comm n m] at b2
  generalize outI (m * n) = p at b1 b2
  obtain ⟨⟨pk, pn, ps⟩, pc⟩ := p
  simp only [Val.av] at b1 b2
  rw [num7 hz] at d1
  rw [num8 hz] at d2
  have hm' := hm
  have hn' := hn
  unfold inR at hm' hn'
  have hq := tdiv_in hm hz hx
  rw [out_ok hq] at d1
  obtain ⟨r1, r2, r3, r4, r5⟩ := mod_is hm hn hz
  have hz' : m.tmod n = 0 ∨ (m.tmod n < 0 ↔ m < 0) := by
    by_cases h : m < 0
    · have := r2 h; omega
    · have := r1 (by omega); omega
  have hr : inR (m.tmod n) := by unfold inR; omega
  have hqn : inR (m.tdiv n * n) := by
    rw [r5]; unfold inR
    by_cases h : m < 0
    · have := r2 h; omega
    · have := r1 (by omega); omega
  have e1 := c_N2 6 (m.tdiv n) n (by decide) hq hn
  rw [num6, out_ok hqn] at e1
  have e2 := c_N2 9 (m.tdiv n * n) (m.tmod n) (by decide) hqn hr
  rw [num9, show m.tdiv n * n + m.tmod n = m by omega, out_ok hm] at e2
  generalize m.tdiv n * n = P at e1 e2
  generalize m.tmod n = R at d2 e2 r1 r2 r3 r4 hz' hr
  generalize m.tdiv n = D at d1 e1
  simp only [Val.av] at d1 d2 e1 e2
  clear r5 hqn hq hr
  have hww : IntKind.wrap .i64 (-n) = -n ∨ n = -9223372036854775808 := by
    obtain ⟨w, hw⟩ : ∃ w, IntKind.wrap .i64 (-n) = w := ⟨_, rfl⟩
    rw [hw]
    rw [wrap_i64'] at hw
    split at hw <;> omega
  have s1 := s1 hA
  rw [out_ok hA] at a1 a2
  simp only [Val.av] at a1 a2
  refine calls_go (nt := 209) (rs := [.tmp 4]) Tryd.func6 rfl rfl rfl (by simp) (by intro id h; simp at h <;> omega) ?_; intro Q hQ hW
  repeat' (first
    | (with_reducible refine run_n ?_; with_reducible first | refine hK _ _ (by simp) ?_ | refine hK _ _ ?_; clear hK K)
    | (refine zzc ?_)
    | (with_reducible refine awp_regT (by kernel_rfl) ?_; intro K hK)
    | (with_reducible refine awp_regCM (id := 19) [(19, some 19)] [(19, some 19)] mixed (by kernel_rfl) (by kernel_rfl) (by kernel_rfl) ?_; intro K hK)
    | (with_reducible refine a_cond (ht := ?_) (hf := ?_) <;> intro hb <;> (try simp at hb) <;> (try contradiction) <;> (try subst hb) <;> (try omega))
    | (with_reducible first | refine a_move (hr:=?_) | refine a_assign (hr:=?_) | refine a_load (hr:=?_) | refine a_fieldAddr (hr:=?_) | refine a_bin (hr:=?_) | refine a_extract (hr:=?_) | refine a_pick (hr:=?_) | refine a_un (hr:=?_) | refine a_store (hr:=?_) | refine a_alloc (hr:=?_) | refine a_eqB (hr:=?_) | refine a_neB (hr:=?_) | refine a_eqS (hr:=?_) | refine a_neS (hr:=?_) | refine a_call0 (hcall := c_live6) (hr:=?_) | refine a_call0 (hcall := n1) (hr:=?_) | refine a_call0 (hcall := n2) (hr:=?_) | refine a_call0 (hcall := n0) (hr:=?_) | refine a_call0 (hcall := a1) (hr:=?_) | refine a_call0 (hcall := a2) (hr:=?_) | refine a_call0 (hcall := b1) (hr:=?_) | refine a_call0 (hcall := b2) (hr:=?_) | refine a_call0 (hcall := s1) (hr:=?_) | refine a_call0 (hcall := d1) (hr:=?_) | refine a_call0 (hcall := d2) (hr:=?_) | refine a_call0 (hcall := e1) (hr:=?_) | refine a_call0 (hcall := e2) (hr:=?_) | refine a_gT (hr:=?_) | refine a_gF (hr:=?_) | refine a_gU (hr:=?_))
    | (with_reducible refine a_gB (hT := ?_) (hF := ?_) <;> intro hb <;> (try simp at hb) <;> (try contradiction) <;> (try subst hb) <;> (try omega))
    | fail)
  simp only [List.append_eq, List.cons_append, List.nil_append]
  repeat' (first
    | (with_reducible refine run_n ?_; with_reducible first | refine hK _ _ (by simp) ?_ | refine hK _ _ ?_; clear hK K)
    | (refine zzc ?_)
    | (with_reducible refine awp_regT (by kernel_rfl) ?_; intro K hK)
    | (with_reducible refine awp_regCM (id := 19) [(19, some 19)] [(19, some 19)] mixed (by kernel_rfl) (by kernel_rfl) (by kernel_rfl) ?_; intro K hK)
    | (with_reducible refine a_cond (ht := ?_) (hf := ?_) <;> intro hb <;> (try simp at hb) <;> (try contradiction) <;> (try subst hb) <;> (try omega))
    | (with_reducible first | refine a_move (hr:=?_) | refine a_assign (hr:=?_) | refine a_load (hr:=?_) | refine a_fieldAddr (hr:=?_) | refine a_bin (hr:=?_) | refine a_extract (hr:=?_) | refine a_pick (hr:=?_) | refine a_un (hr:=?_) | refine a_store (hr:=?_) | refine a_alloc (hr:=?_) | refine a_eqB (hr:=?_) | refine a_neB (hr:=?_) | refine a_eqS (hr:=?_) | refine a_neS (hr:=?_) | refine a_call0 (hcall := c_live6) (hr:=?_) | refine a_gT (hr:=?_) | refine a_gF (hr:=?_) | refine a_gU (hr:=?_))
    | (with_reducible refine a_gB (hT := ?_) (hF := ?_) <;> intro hb <;> (try simp at hb) <;> (try contradiction) <;> (try subst hb) <;> (try omega))
    | fail)
  all_goals first
    | (exfalso; omega)
    | ((refine zzr hQ ?_); exact Fin.drop (by simp; exact .r) (by simp))
    | (have h9 : decide ((-9223372036854775808 : Int) < R) = true := decide_eq_true (by omega)
       simp only [h9]
       (refine zzr hQ ?_)
       exact Fin.drop (by simp; exact .r) (by simp))
theorem en_outb (m n : Int) (hm : inR m) (hn : inR n) (hz : n ≠ 0) (hx : ¬ (m = -9223372036854775808 ∧ n = -1)) (hA : ¬ inR (m + n)) (hs : n = -9223372036854775808) : CallD Tryd.prog 6 [.raw (.int .i64 m), .raw (.int .i64 n)] noHeap (.raw (.bool true)) noHeap := by
  have n1 := c_num6 m
  have n2 := c_num6 n
  have n0 := c_num6 0
  have a1 := c_N2 9 m n (by decide) hm hn
  have a2 := c_N2 9 n m (by decide) hn hm
  have b1 := c_N2 6 m n (by decide) hm hn
  have b2 := c_N2 6 n m (by decide) hn hm
  have d1 := c_N2 7 m n (by decide) hm hn
  have d2 := c_N2 8 m n (by decide) hm hn
  have s1 : inR (m + n) → CallD Tryd.prog 14 [.raw (.int .i64 10), valAV 1 (m + n) ⟨#[]⟩, valAV 1 n ⟨#[]⟩] noHeap (.tup [valAV 1 m ⟨#[]⟩, .raw (.int .i64 0)]) noHeap := fun h => by
    have q := c_N2 10 (m + n) n (by decide) h hn
    rw [num10, show m + n - n = m by omega, out_ok hm] at q
    exact q
  rw [num9] at a1 a2
  rw [num6] at b1 b2
  rw [Int.add_comm n m] at a2
  rw [Int.mul_comm n m] at b2
  generalize outI (m * n) = p at b1 b2
  obtain ⟨⟨pk, pn, ps⟩, pc⟩ := p
  simp only [Val.av] at b1 b2
  rw [num7 hz] at d1
  rw [num8 hz] at d2
  have hm' := hm
  have hn' := hn
  unfold inR at hm' hn'
  have hq := tdiv_in hm hz hx
  rw [out_ok hq] at d1
  obtain ⟨r1, r2, r3, r4, r5⟩ := mod_is hm hn hz
  have hz' : m.tmod n = 0 ∨ (m.tmod n < 0 ↔ m < 0) := by
    by_cases h : m < 0
    · have := r2 h; omega
    · have := r1 (by omega); omega
  have hr : inR (m.tmod n) := by unfold inR; omega
  have hqn : inR (m.tdiv n * n) := by
    rw [r5]; unfold inR
    by_cases h : m < 0
    · have := r2 h; omega
    · have := r1 (by omega); omega
  have e1 := c_N2 6 (m.tdiv n) n (by decide) hq hn
  rw [num6, out_ok hqn] at e1
  have e2 := c_N2 9 (m.tdiv n * n) (m.tmod n) (by decide) hqn hr
  rw [num9, show m.tdiv n * n + m.tmod n = m by omega, out_ok hm] at e2
  generalize m.tdiv n * n = P at e1 e2
  generalize m.tmod n = R at d2 e2 r1 r2 r3 r4 hz' hr
  generalize m.tdiv n = D at d1 e1
  simp only [Val.av] at d1 d2 e1 e2
  clear r5 hqn hq hr
  have hww : IntKind.wrap .i64 (-n) = -n ∨ n = -9223372036854775808 := by
    obtain ⟨w, hw⟩ : ∃ w, IntKind.wrap .i64 (-n) = w := ⟨_, rfl⟩
    rw [hw]
    rw [wrap_i64'] at hw
    split at hw <;> omega
  clear s1
  rw [out_no hA] at a1 a2
  unfold zV at a1 a2
  simp only [Val.av] at a1 a2
  refine calls_go (nt := 209) (rs := [.tmp 4]) Tryd.func6 rfl rfl rfl (by simp) (by intro id h; simp at h <;> omega) ?_; intro Q hQ hW
  repeat' (first
    | (with_reducible refine run_n ?_; with_reducible first | refine hK _ _ (by simp) ?_ | refine hK _ _ ?_; clear hK K)
    | (refine zzc ?_)
    | (with_reducible refine awp_regT (by kernel_rfl) ?_; intro K hK)
    | (with_reducible refine awp_regCM (id := 19) [(19, some 19)] [(19, some 19)] mixed (by kernel_rfl) (by kernel_rfl) (by kernel_rfl) ?_; intro K hK)
    | (with_reducible refine a_cond (ht := ?_) (hf := ?_) <;> intro hb <;> (try simp at hb) <;> (try contradiction) <;> (try subst hb) <;> (try omega))
    | (with_reducible first | refine a_move (hr:=?_) | refine a_assign (hr:=?_) | refine a_load (hr:=?_) | refine a_fieldAddr (hr:=?_) | refine a_bin (hr:=?_) | refine a_extract (hr:=?_) | refine a_pick (hr:=?_) | refine a_un (hr:=?_) | refine a_store (hr:=?_) | refine a_alloc (hr:=?_) | refine a_eqB (hr:=?_) | refine a_neB (hr:=?_) | refine a_eqS (hr:=?_) | refine a_neS (hr:=?_) | refine a_call0 (hcall := c_live6) (hr:=?_) | refine a_call0 (hcall := n1) (hr:=?_) | refine a_call0 (hcall := n2) (hr:=?_) | refine a_call0 (hcall := n0) (hr:=?_) | refine a_call0 (hcall := a1) (hr:=?_) | refine a_call0 (hcall := a2) (hr:=?_) | refine a_call0 (hcall := b1) (hr:=?_) | refine a_call0 (hcall := b2) (hr:=?_) | refine a_call0 (hcall := d1) (hr:=?_) | refine a_call0 (hcall := d2) (hr:=?_) | refine a_call0 (hcall := e1) (hr:=?_) | refine a_call0 (hcall := e2) (hr:=?_) | refine a_gT (hr:=?_) | refine a_gF (hr:=?_) | refine a_gU (hr:=?_))
    | (with_reducible refine a_gB (hT := ?_) (hF := ?_) <;> intro hb <;> (try simp at hb) <;> (try contradiction) <;> (try subst hb) <;> (try omega))
    | fail)
  simp only [List.append_eq, List.cons_append, List.nil_append]
  repeat' (first
    | (with_reducible refine run_n ?_; with_reducible first | refine hK _ _ (by simp) ?_ | refine hK _ _ ?_; clear hK K)
    | (refine zzc ?_)
    | (with_reducible refine awp_regT (by kernel_rfl) ?_; intro K hK)
    | (with_reducible refine awp_regCM (id := 19) [(19, some 19)] [(19, some 19)] mixed (by kernel_rfl) (by kernel_rfl) (by kernel_rfl) ?_; intro K hK)
    | (with_reducible refine a_cond (ht := ?_) (hf := ?_) <;> intro hb <;> (try simp at hb) <;> (try contradiction) <;> (try subst hb) <;> (try omega))
    | (with_reducible first | refine a_move (hr:=?_) | refine a_assign (hr:=?_) | refine a_load (hr:=?_) | refine a_fieldAddr (hr:=?_) | refine a_bin (hr:=?_) | refine a_extract (hr:=?_) | refine a_pick (hr:=?_) | refine a_un (hr:=?_) | refine a_store (hr:=?_) | refine a_alloc (hr:=?_) | refine a_eqB (hr:=?_) | refine a_neB (hr:=?_) | refine a_eqS (hr:=?_) | refine a_neS (hr:=?_) | refine a_call0 (hcall := c_live6) (hr:=?_) | refine a_gT (hr:=?_) | refine a_gF (hr:=?_) | refine a_gU (hr:=?_))
    | (with_reducible refine a_gB (hT := ?_) (hF := ?_) <;> intro hb <;> (try simp at hb) <;> (try contradiction) <;> (try subst hb) <;> (try omega))
    | fail)
  all_goals first
    | (exfalso; omega)
    | ((refine zzr hQ ?_); exact Fin.drop (by simp; exact .r) (by simp))
    | (have h9 : decide ((-9223372036854775808 : Int) < R) = true := decide_eq_true (by omega)
       simp only [h9]
       (refine zzr hQ ?_)
       exact Fin.drop (by simp; exact .r) (by simp))
theorem en_inc (m n : Int) (hm : inR m) (hn : inR n) (hz : n ≠ 0) (hx : ¬ (m = -9223372036854775808 ∧ n = -1)) (hA : inR (m + n)) (hs : n < 0 ∧ n ≠ -9223372036854775808) : CallD Tryd.prog 6 [.raw (.int .i64 m), .raw (.int .i64 n)] noHeap (.raw (.bool true)) noHeap := by
  have n1 := c_num6 m
  have n2 := c_num6 n
  have n0 := c_num6 0
  have a1 := c_N2 9 m n (by decide) hm hn
  have a2 := c_N2 9 n m (by decide) hn hm
  have b1 := c_N2 6 m n (by decide) hm hn
  have b2 := c_N2 6 n m (by decide) hn hm
  have d1 := c_N2 7 m n (by decide) hm hn
  have d2 := c_N2 8 m n (by decide) hm hn
  have s1 : inR (m + n) → CallD Tryd.prog 14 [.raw (.int .i64 10), valAV 1 (m + n) ⟨#[]⟩, valAV 1 n ⟨#[]⟩] noHeap (.tup [valAV 1 m ⟨#[]⟩, .raw (.int .i64 0)]) noHeap := fun h => by
    have q := c_N2 10 (m + n) n (by decide) h hn
    rw [num10, show m + n - n = m by omega, out_ok hm] at q
    exact q
  rw [num9] at a1 a2
  rw [num6] at b1 b2
  rw [Int.add_comm n m] at a2
  rw [Int.mul_comm n m] at b2
  generalize outI (m * n) = p at b1 b2
  obtain ⟨⟨pk, pn, ps⟩, pc⟩ := p
  simp only [Val.av] at b1 b2
  rw [num7 hz] at d1
  rw [num8 hz] at d2
  have hm' := hm
  have hn' := hn
  unfold inR at hm' hn'
  have hq := tdiv_in hm hz hx
  rw [out_ok hq] at d1
  obtain ⟨r1, r2, r3, r4, r5⟩ := mod_is hm hn hz
  have hz' : m.tmod n = 0 ∨ (m.tmod n < 0 ↔ m < 0) := by
    by_cases h : m < 0
    · have := r2 h; omega
    · have := r1 (by omega); omega
  have hr : inR (m.tmod n) := by unfold inR; omega
  have hqn : inR (m.tdiv n * n) := by
    rw [r5]; unfold inR
    by_cases h : m < 0
    · have := r2 h; omega
    · have := r1 (by omega); omega
  have e1 := c_N2 6 (m.tdiv n) n (by decide) hq hn
  rw [num6, out_ok hqn] at e1
  have e2 := c_N2 9 (m.tdiv n * n) (m.tmod n) (by decide) hqn hr
  rw [num9, show m.tdiv n * n + m.tmod n = m by omega, out_ok hm] at e2
  generalize m.tdiv n * n = P at e1 e2
  generalize m.tmod n = R at d2 e2 r1 r2 r3 r4 hz' hr
  generalize m.tdiv n = D at d1 e1
  simp only [Val.av] at d1 d2 e1 e2
  clear r5 hqn hq hr
  have hww : IntKind.wrap .i64 (-n) = -n ∨ n = -9223372036854775808 := by
    obtain ⟨w, hw⟩ : ∃ w, IntKind.wrap .i64 (-n) = w := ⟨_, rfl⟩
    rw [hw]
    rw [wrap_i64'] at hw
    split at hw <;> omega
  have s1 := s1 hA
  rw [out_ok hA] at a1 a2
  simp only [Val.av] at a1 a2
  refine calls_go (nt := 209) (rs := [.tmp 4]) Tryd.func6 rfl rfl rfl (by simp) (by intro id h; simp at h <;> omega) ?_; intro Q hQ hW
  repeat' (first
    | (with_reducible refine run_n ?_; with_reducible first | refine hK _ _ (by simp) ?_ | refine hK _ _ ?_; clear hK K)
    | (refine zzc ?_)
    | (with_reducible refine awp_regT (by kernel_rfl) ?_; intro K hK)
    | (with_reducible refine awp_regCM (id := 19) [(19, some 19)] [(19, some 19)] mixed (by kernel_rfl) (by kernel_rfl) (by kernel_rfl) ?_; intro K hK)
    | (with_reducible refine a_cond (ht := ?_) (hf := ?_) <;> intro hb <;> (try simp at hb) <;> (try contradiction) <;> (try subst hb) <;> (try omega))
    | (with_reducible first | refine a_move (hr:=?_) | refine a_assign (hr:=?_) | refine a_load (hr:=?_) | refine a_fieldAddr (hr:=?_) | refine a_bin (hr:=?_) | refine a_extract (hr:=?_) | refine a_pick (hr:=?_) | refine a_un (hr:=?_) | refine a_store (hr:=?_) | refine a_alloc (hr:=?_) | refine a_eqB (hr:=?_) | refine a_neB (hr:=?_) | refine a_eqS (hr:=?_) | refine a_neS (hr:=?_) | refine a_call0 (hcall := c_live6) (hr:=?_) | refine a_call0 (hcall := n1) (hr:=?_) | refine a_call0 (hcall := n2) (hr:=?_) | refine a_call0 (hcall := n0) (hr:=?_) | refine a_call0 (hcall := a1) (hr:=?_) | refine a_call0 (hcall := a2) (hr:=?_) | refine a_call0 (hcall := b1) (hr:=?_) | refine a_call0 (hcall := b2) (hr:=?_) | refine a_call0 (hcall := s1) (hr:=?_) | refine a_call0 (hcall := d1) (hr:=?_) | refine a_call0 (hcall := d2) (hr:=?_) | refine a_call0 (hcall := e1) (hr:=?_) | refine a_call0 (hcall := e2) (hr:=?_) | refine a_gT (hr:=?_) | refine a_gF (hr:=?_) | refine a_gU (hr:=?_))
    | (with_reducible refine a_gB (hT := ?_) (hF := ?_) <;> intro hb <;> (try simp at hb) <;> (try contradiction) <;> (try subst hb) <;> (try omega))
    | fail)
  simp only [List.append_eq, List.cons_append, List.nil_append]
  repeat' (first
    | (with_reducible refine run_n ?_; with_reducible first | refine hK _ _ (by simp) ?_ | refine hK _ _ ?_; clear hK K)
    | (refine zzc ?_)
    | (with_reducible refine awp_regT (by kernel_rfl) ?_; intro K hK)
    | (with_reducible refine awp_regCM (id := 19) [(19, some 19)] [(19, some 19)] mixed (by kernel_rfl) (by kernel_rfl) (by kernel_rfl) ?_; intro K hK)
    | (with_reducible refine a_cond (ht := ?_) (hf := ?_) <;> intro hb <;> (try simp at hb) <;> (try contradiction) <;> (try subst hb) <;> (try omega))
    | (with_reducible first | refine a_move (hr:=?_) | refine a_assign (hr:=?_) | refine a_load (hr:=?_) | refine a_fieldAddr (hr:=?_) | refine a_bin (hr:=?_) | refine a_extract (hr:=?_) | refine a_pick (hr:=?_) | refine a_un (hr:=?_) | refine a_store (hr:=?_) | refine a_alloc (hr:=?_) | refine a_eqB (hr:=?_) | refine a_neB (hr:=?_) | refine a_eqS (hr:=?_) | refine a_neS (hr:=?_) | refine a_call0 (hcall := c_live6) (hr:=?_) | refine a_gT (hr:=?_) | refine a_gF (hr:=?_) | refine a_gU (hr:=?_))
    | (with_reducible refine a_gB (hT := ?_) (hF := ?_) <;> intro hb <;> (try simp at hb) <;> (try contradiction) <;> (try subst hb) <;> (try omega))
    | fail)
  all_goals first
    | (exfalso; omega)
    | ((refine zzr hQ ?_); exact Fin.drop (by simp; exact .r) (by simp))
    | (have h9 : decide ((-9223372036854775808 : Int) < R) = true := decide_eq_true (by omega)
       simp only [h9]
       (refine zzr hQ ?_)
       exact Fin.drop (by simp; exact .r) (by simp))
theorem en_outc (m n : Int) (hm : inR m) (hn : inR n) (hz : n ≠ 0) (hx : ¬ (m = -9223372036854775808 ∧ n = -1)) (hA : ¬ inR (m + n)) (hs : n < 0 ∧ n ≠ -9223372036854775808) : CallD Tryd.prog 6 [.raw (.int .i64 m), .raw (.int .i64 n)] noHeap (.raw (.bool true)) noHeap := by
  have n1 := c_num6 m
  have n2 := c_num6 n
  have n0 := c_num6 0
  have a1 := c_N2 9 m n (by decide) hm hn
  have a2 := c_N2 9 n m (by decide) hn hm
  have b1 := c_N2 6 m n (by decide) hm hn
  have b2 := c_N2 6 n m (by decide) hn hm
  have d1 := c_N2 7 m n (by decide) hm hn
  have d2 := c_N2 8 m n (by decide) hm hn
  have s1 : inR (m + n) → CallD Tryd.prog 14 [.raw (.int .i64 10), valAV 1 (m + n) ⟨#[]⟩, valAV 1 n ⟨#[]⟩] noHeap (.tup [valAV 1 m ⟨#[]⟩, .raw (.int .i64 0)]) noHeap := fun h => by
    have q := c_N2 10 (m + n) n (by decide) h hn
    rw [num10, show m + n - n = m by omega, out_ok hm] at q
    exact q
  rw [num9] at a1 a2
  rw [num6] at b1 b2
  rw [Int.add_comm n m] at a2
  rw [Int.mul_comm n m] at b2
  generalize outI (m * n) = p at b1 b2
  obtain ⟨⟨pk, pn, ps⟩, pc⟩ := p
  simp only [Val.av] at b1 b2
  rw [num7 hz] at d1
  rw [num8 hz] at d2
  have hm' := hm
  have hn' := hn
  unfold inR at hm' hn'
  have hq := tdiv_in hm hz hx
  rw [out_ok hq] at d1
  obtain ⟨r1, r2, r3, r4, r5⟩ := mod_is hm hn hz
  have hz' : m.tmod n = 0 ∨ (m.tmod n < 0 ↔ m < 0) := by
    by_cases h : m < 0
    · have := r2 h; omega
    · have := r1 (by omega); omega
  have hr : inR (m.tmod n) := by unfold inR; omega
  have hqn : inR (m.tdiv n * n) := by
    rw [r5]; unfold inR
    by_cases h : m < 0
    · have := r2 h; omega
    · have := r1 (by omega); omega
  have e1 := c_N2 6 (m.tdiv n) n (by decide) hq hn
  rw [num6, out_ok hqn] at e1
  have e2 := c_N2 9 (m.tdiv n * n) (m.tmod n) (by decide) hqn hr
  rw [num9, show m.tdiv n * n + m.tmod n = m by omega, out_ok hm] at e2
  generalize m.tdiv n * n = P at e1 e2
  generalize m.tmod n = R at d2 e2 r1 r2 r3 r4 hz' hr
  generalize m.tdiv n = D at d1 e1
  simp only [Val.av] at d1 d2 e1 e2
  clear r5 hqn hq hr
  have hww : IntKind.wrap .i64 (-n) = -n ∨ n = -9223372036854775808 := by
    obtain ⟨w, hw⟩ : ∃ w, IntKind.wrap .i64 (-n) = w := ⟨_, rfl⟩
    rw [hw]
    rw [wrap_i64'] at hw
    split at hw <;> omega
  clear s1
  rw [out_no hA] at a1 a2
  unfold zV at a1 a2
  simp only [Val.av] at a1 a2
  refine calls_go (nt := 209) (rs := [.tmp 4]) Tryd.func6 rfl rfl rfl (by simp) (by intro id h; simp at h <;> omega) ?_; intro Q hQ hW
  repeat' (first
    | (with_reducible refine run_n ?_; with_reducible first | refine hK _ _ (by simp) ?_ | refine hK _ _ ?_; clear hK K)
    | (refine zzc ?_)
    | (with_reducible refine awp_regT (by kernel_rfl) ?_; intro K hK)
    | (with_reducible refine awp_regCM (id := 19) [(19, some 19)] [(19, some 19)] mixed (by kernel_rfl) (by kernel_rfl) (by kernel_rfl) ?_; intro K hK)
    | (with_reducible refine a_cond (ht := ?_) (hf := ?_) <;> intro hb <;> (try simp at hb) <;> (try contradiction) <;> (try subst hb) <;> (try omega))
    | (with_reducible first | refine a_move (hr:=?_) | refine a_assign (hr:=?_) | refine a_load (hr:=?_) | refine a_fieldAddr (hr:=?_) | refine a_bin (hr:=?_) | refine a_extract (hr:=?_) | refine a_pick (hr:=?_) | refine a_un (hr:=?_) | refine a_store (hr:=?_) | refine a_alloc (hr:=?_) | refine a_eqB (hr:=?_) | refine a_neB (hr:=?_) | refine a_eqS (hr:=?_) | refine a_neS (hr:=?_) | refine a_call0 (hcall := c_live6) (hr:=?_) | refine a_call0 (hcall := n1) (hr:=?_) | refine a_call0 (hcall := n2) (hr:=?_) | refine a_call0 (hcall := n0) (hr:=?_) | refine a_call0 (hcall := a1) (hr:=?_) | refine a_call0 (hcall := a2) (hr:=?_) | refine a_call0 (hcall := b1) (hr:=?_) | refine a_call0 (hcall := b2) (hr:=?_) | refine a_call0 (hcall := d1) (hr:=?_) | refine a_call0 (hcall := d2) (hr:=?_) | refine a_call0 (hcall := e1) (hr:=?_) | refine a_call0 (hcall := e2) (hr:=?_) | refine a_gT (hr:=?_) | refine a_gF (hr:=?_) | refine a_gU (hr:=?_))
    | (with_reducible refine a_gB (hT := ?_) (hF := ?_) <;> intro hb <;> (try simp at hb) <;> (try contradiction) <;> (try subst hb) <;> (try omega))
    | fail)
  simp only [List.append_eq, List.cons_append, List.nil_append]
  repeat' (first
    | (with_reducible refine run_n ?_; with_reducible first | refine hK _ _ (by simp) ?_ | refine hK _ _ ?_; clear hK K)
    | (refine zzc ?_)
    | (with_reducible refine awp_regT (by kernel_rfl) ?_; intro K hK)
    | (with_reducible refine awp_regCM (id := 19) [(19, some 19)] [(19, some 19)] mixed (by kernel_rfl) (by kernel_rfl) (by kernel_rfl) ?_; intro K hK)
    | (with_reducible refine a_cond (ht := ?_) (hf := ?_) <;> intro hb <;> (try simp at hb) <;> (try contradiction) <;> (try subst hb) <;> (try omega))
    | (with_reducible first | refine a_move (hr:=?_) | refine a_assign (hr:=?_) | refine a_load (hr:=?_) | refine a_fieldAddr (hr:=?_) | refine a_bin (hr:=?_) | refine a_extract (hr:=?_) | refine a_pick (hr:=?_) | refine a_un (hr:=?_) | refine a_store (hr:=?_) | refine a_alloc (hr:=?_) | refine a_eqB (hr:=?_) | refine a_neB (hr:=?_) | refine a_eqS (hr:=?_) | refine a_neS (hr:=?_) | refine a_call0 (hcall := c_live6) (hr:=?_) | refine a_gT (hr:=?_) | refine a_gF (hr:=?_) | refine a_gU (hr:=?_))
    | (with_reducible refine a_gB (hT := ?_) (hF := ?_) <;> intro hb <;> (try simp at hb) <;> (try contradiction) <;> (try subst hb) <;> (try omega))
    | fail)
  all_goals first
    | (exfalso; omega)
    | ((refine zzr hQ ?_); exact Fin.drop (by simp; exact .r) (by simp))
    | (have h9 : decide ((-9223372036854775808 : Int) < R) = true := decide_eq_true (by omega)
       simp only [h9]
       (refine zzr hQ ?_)
       exact Fin.drop (by simp; exact .r) (by simp))
theorem law_EvalNumbers (m n : Int) (hm : inR m) (hn : inR n) : CallD Tryd.prog 6 [.raw (.int .i64 m), .raw (.int .i64 n)] noHeap (.raw (.bool true)) noHeap := by
  by_cases hz : n = 0
  · exact en_zero m n hm hn hz
  by_cases hx : m = -9223372036854775808 ∧ n = -1
  · exact en_over m n hm hn hz hx
  by_cases hA : inR (m + n)
  · rcases (show 0 < n ∨ n = -9223372036854775808 ∨ (n < 0 ∧ n ≠ -9223372036854775808) by omega) with h | h | h
    · exact en_ina m n hm hn hz hx hA h
    · exact en_inb m n hm hn hz hx hA h
    · exact en_inc m n hm hn hz hx hA h
  · rcases (show 0 < n ∨ n = -9223372036854775808 ∨ (n < 0 ∧ n ≠ -9223372036854775808) by omega) with h | h | h
    · exact en_outa m n hm hn hz hx hA h
    · exact en_outb m n hm hn hz hx hA h
    · exact en_outc m n hm hn hz hx hA h
end Go.Proofs.YtjbbnollidcagaaDoor.Asl

