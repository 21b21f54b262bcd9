/- Part 15 of what the row leans on: abstract values and states, their rules, and the contracts of the functions. -/
import Derived.Test.YtejeemhenoobjaaDoorZW1414
namespace Go.Proofs.YtejeemhenoobjaaDoor.Asl
open Go Go.RowKit
open Go.Proofs.YtejeemhenoobjaaDoor.Errs (EV)
set_option linter.unusedVariables false
set_option linter.unusedSimpArgs false
set_option maxRecDepth 100000
set_option maxHeartbeats 4000000
@[simp] theorem tyI_wr : tyI Tryd.prog 68 = some (2, true) := by kernel_rfl
@[simp] theorem isSl_wr : isSl Tryd.prog 68 = false := by kernel_rfl
@[simp] theorem isStr_wr : isStr Tryd.prog 68 = false := by kernel_rfl
@[simp] theorem isBool_wr : isBool Tryd.prog 68 = false := by kernel_rfl
@[simp] theorem isPtr_wr : isPtr Tryd.prog 68 = false := by kernel_rfl
@[simp] theorem isIf_wr : isIf Tryd.prog 68 = false := by kernel_rfl
@[simp] theorem isIface_wr : isIface Tryd.prog 68 = false := by kernel_rfl
@[simp] theorem isArr_wr : isArr Tryd.prog 68 = false := by kernel_rfl
@[simp] theorem plainT_wr : plainT Tryd.prog 68 = false := by kernel_rfl
@[simp] theorem fldI_wr0 : fldI Tryd.prog 68 0 = some (0, 1, false) := by kernel_rfl
@[simp] theorem fldI_wr1 : fldI Tryd.prog 68 1 = some (1, 1, false) := by kernel_rfl
@[simp] theorem zAV_wr : zAV Tryd.prog 9 68 = .agg [.raw (.pointer none), .raw .nilIface] := by kernel_rfl
@[simp] theorem zeroIs_wr : zeroIs Tryd.prog 68 (.agg [.raw (.pointer none), .raw .nilIface]) := ⟨.agg #[.pointer none, .nilIface], by kernel_rfl, .inr ⟨_, _, rfl, rfl, by kernel_rfl⟩⟩
@[simp] theorem layIs_wr : layIs Tryd.prog 68 [.raw (.pointer none), .raw .nilIface] := layIs_of (by kernel_rfl)
/-- The reader: the first error, and what it reads. -/
abbrev wr2H (x : Option EV) (bs : List Int) (a : Nat) (e : Int) : Hp := hpL [(100001, .box (.agg [.ptr 100000 0, errO x])), (100000, .box (rdAV bs a e))]
theorem hbig_hpL {m : List (Nat × Ob)} (h : ∀ y ∈ m, 100000 ≤ y.1) : ∀ id, (hpL m id).isSome = true → 100000 ≤ id := by
  intro id h1
  cases ho : hpL m id with
  | none => rw [ho] at h1; cases h1
  | some o => exact h _ (hpL_mem ho)
/-- The first error, after one at a place. -/
def atE (x : Option EV) (p : ByteArray) (c : Int) : Option EV := firstE [x, (ofE c).map (.wrap p)]
theorem atE_0 (x : Option EV) (p : ByteArray) : atE x p 0 = x := by cases x <;> rfl
abbrev wr2X (x : Option EV) (bs : List Int) (a : Nat) (e : Int) : Hp := hpL [(100000, .box (.agg [.ptr 100001 0, errO x])), (100001, .box (rdAV bs a e))]
theorem c_fails0 (x : Option EV) (p : ByteArray) (c : Int) (bs : List Int) (a : Nat) (e : Int) : CallD Tryd.prog 24 [.ptr 100000 0, .raw (.string p), .raw (.int .i64 c)] (wr2X x bs a e) (.tup []) (wr2X (atE x p c) bs a e) := by
  have q1 := c_FOf c
  have q2 := c_FWrap p (ofE c)
  have q3 := c_FFirst [x, (ofE c).map (.wrap p)] (by simp)
  unfold atE
  by_cases hc : c = 0
  · subst hc
    rw [show ofE 0 = none from rfl] at q1 q2 q3 ⊢
    cases x with
    | none =>
      simp only [errO_none, Option.map_none, List.map_cons, List.map_nil, firstE] at q1 q2 q3 ⊢
      refine calls_go (nt := 19) (rs := []) Tryd.func24 rfl rfl rfl (by simp) (hbig_hpL (by simp)) ?_; intro Q hQ hW
      unfold wr2X
      repeat' (first
 | (with_reducible refine run_n ?_; with_reducible first | refine hK _ _ (by simp) ?_ | refine hK _ _ ?_; clear hK K)
 | (refine zzc ?_)
 | (with_reducible refine awp_regT (by kernel_rfl) ?_; intro K hK)
 | (with_reducible refine awp_regCM (id := 0) [] [(9, some 100000), (11, none), (12, none), (13, none), (18, some 100000)] mixed (by kernel_rfl) (by kernel_rfl) (by kernel_rfl) ?_; intro K hK)
 | (with_reducible refine a_cond (ht := ?_) (hf := ?_) <;> intro hb <;> (try simp at hb) <;> (try contradiction) <;> (try subst hb) <;> (try omega))
 | (with_reducible first | refine a_move (hr:=?_) | refine a_load (hr:=?_) | refine a_fieldAddr (hr:=?_) | refine a_nilCheck (hr:=?_) | refine a_store (hr:=?_) | refine a_buildSlice (hr:=?_) | refine a_call0 (hcall := q1) (hr:=?_) | refine a_callF (hcall := q2) (hr:=?_) | refine a_callF (hcall := q3) (hr:=?_))
 | fail)
      all_goals ((refine zzr hQ ?_))
      all_goals (exact Fin.keepL)
    | some x =>
      simp only [errO_none, errO_some, Option.map_none, List.map_cons, List.map_nil, firstE] at q1 q2 q3 ⊢
      refine calls_go (nt := 19) (rs := []) Tryd.func24 rfl rfl rfl (by simp) (hbig_hpL (by simp)) ?_; intro Q hQ hW
      unfold wr2X
      repeat' (first
 | (with_reducible refine run_n ?_; with_reducible first | refine hK _ _ (by simp) ?_ | refine hK _ _ ?_; clear hK K)
 | (refine zzc ?_)
 | (with_reducible refine awp_regT (by kernel_rfl) ?_; intro K hK)
 | (with_reducible refine awp_regCM (id := 0) [] [(9, some 100000), (11, none), (12, none), (13, none), (18, some 100000)] mixed (by kernel_rfl) (by kernel_rfl) (by kernel_rfl) ?_; intro K hK)
 | (with_reducible refine a_cond (ht := ?_) (hf := ?_) <;> intro hb <;> (try simp at hb) <;> (try contradiction) <;> (try subst hb) <;> (try omega))
 | (with_reducible first | refine a_move (hr:=?_) | refine a_load (hr:=?_) | refine a_fieldAddr (hr:=?_) | refine a_nilCheck (hr:=?_) | refine a_store (hr:=?_) | refine a_buildSlice (hr:=?_) | refine a_call0 (hcall := q1) (hr:=?_) | refine a_callF (hcall := q2) (hr:=?_) | refine a_callF (hcall := q3) (hr:=?_))
 | fail)
      all_goals ((refine zzr hQ ?_))
      all_goals (exact Fin.keepL)
  · rw [show ofE c = some (.code c) from if_neg hc] at q1 q2 q3 ⊢
    cases x with
    | none =>
      simp only [errO_none, errO_some, Option.map_some, List.map_cons, List.map_nil, firstE] at q1 q2 q3 ⊢
      refine calls_go (nt := 19) (rs := []) Tryd.func24 rfl rfl rfl (by simp) (hbig_hpL (by simp)) ?_; intro Q hQ hW
      unfold wr2X
      repeat' (first
 | (with_reducible refine run_n ?_; with_reducible first | refine hK _ _ (by simp) ?_ | refine hK _ _ ?_; clear hK K)
 | (refine zzc ?_)
 | (with_reducible refine awp_regT (by kernel_rfl) ?_; intro K hK)
 | (with_reducible refine awp_regCM (id := 0) [] [(9, some 100000), (11, none), (12, none), (13, none), (18, some 100000)] mixed (by kernel_rfl) (by kernel_rfl) (by kernel_rfl) ?_; intro K hK)
 | (with_reducible refine a_cond (ht := ?_) (hf := ?_) <;> intro hb <;> (try simp at hb) <;> (try contradiction) <;> (try subst hb) <;> (try omega))
 | (with_reducible first | refine a_move (hr:=?_) | refine a_load (hr:=?_) | refine a_fieldAddr (hr:=?_) | refine a_nilCheck (hr:=?_) | refine a_store (hr:=?_) | refine a_buildSlice (hr:=?_) | refine a_call0 (hcall := q1) (hr:=?_) | refine a_callF (hcall := q2) (hr:=?_) | refine a_callF (hcall := q3) (hr:=?_))
 | fail)
      all_goals ((refine zzr hQ ?_))
      all_goals (exact Fin.keepL)
    | some x =>
      simp only [errO_none, errO_some, Option.map_some, List.map_cons, List.map_nil, firstE] at q1 q2 q3 ⊢
      refine calls_go (nt := 19) (rs := []) Tryd.func24 rfl rfl rfl (by simp) (hbig_hpL (by simp)) ?_; intro Q hQ hW
      unfold wr2X
      repeat' (first
 | (with_reducible refine run_n ?_; with_reducible first | refine hK _ _ (by simp) ?_ | refine hK _ _ ?_; clear hK K)
 | (refine zzc ?_)
 | (with_reducible refine awp_regT (by kernel_rfl) ?_; intro K hK)
 | (with_reducible refine awp_regCM (id := 0) [] [(9, some 100000), (11, none), (12, none), (13, none), (18, some 100000)] mixed (by kernel_rfl) (by kernel_rfl) (by kernel_rfl) ?_; intro K hK)
 | (with_reducible refine a_cond (ht := ?_) (hf := ?_) <;> intro hb <;> (try simp at hb) <;> (try contradiction) <;> (try subst hb) <;> (try omega))
 | (with_reducible first | refine a_move (hr:=?_) | refine a_load (hr:=?_) | refine a_fieldAddr (hr:=?_) | refine a_nilCheck (hr:=?_) | refine a_store (hr:=?_) | refine a_buildSlice (hr:=?_) | refine a_call0 (hcall := q1) (hr:=?_) | refine a_callF (hcall := q2) (hr:=?_) | refine a_callF (hcall := q3) (hr:=?_))
 | fail)
      all_goals ((refine zzr hQ ?_))
      all_goals (exact Fin.keepL)
theorem c_fails (x : Option EV) (p : ByteArray) (c : Int) (bs : List Int) (a : Nat) (e : Int) : CallD Tryd.prog 24 [.ptr 100001 0, .raw (.string p), .raw (.int .i64 c)] (wr2H x bs a e) (.tup []) (wr2H (atE x p c) bs a e) := by
  have q := (c_fails0 x p c bs a e).sw 100000 100001
  unfold wr2X at q
  rw [renH_hpL, renH_hpL] at q
  simp [renL, renP, Ob.ren] at q
  unfold wr2H
  exact q
theorem c_wrtext {bs : List Int} {a : Nat} {l : List Int} (h : At bs a l) (e : Int) (x : Option EV) : ∃ a', At bs a' (sT 128 (l, e)).2.1 ∧ CallD Tryd.prog 23 [.ptr 100001 0] (wr2H x bs a e) (.raw (.string (sT 128 (l, e)).1)) (wr2H x bs a' (sT 128 (l, e)).2.2) := by
  obtain ⟨a1, g1, k1⟩ := x_T h e 128 (by omega)
  refine ⟨a1, g1, ?_⟩
  generalize sT 128 (l, e) = r at g1 k1 ⊢
  obtain ⟨v1, l1, e1⟩ := r
  simp only at g1 k1 ⊢
  clear h g1
  refine calls_go (nt := 8) (rs := [.tmp 2]) Tryd.func23 rfl rfl rfl (by simp) (hbig_hpL (by simp)) ?_; intro Q hQ hW
  unfold wr2H
  repeat' (first
 | (with_reducible refine run_n ?_; with_reducible first | refine hK _ _ (by simp) ?_ | refine hK _ _ ?_; clear hK K)
 | (refine zzc ?_)
 | (with_reducible refine awp_regT (by kernel_rfl) ?_; intro K hK)
 | (with_reducible refine a_cond (ht := ?_) (hf := ?_) <;> intro hb <;> (try simp at hb) <;> (try contradiction) <;> (try subst hb) <;> (try omega))
 | (with_reducible first | refine a_move (hr:=?_) | refine a_assign (hr:=?_) | refine a_load (hr:=?_) | refine a_fieldAddr (hr:=?_) | refine a_nilCheck (hr:=?_) | refine a_callP (p := 100000) (hcall := k1) (hr:=?_))
 | fail)
  all_goals ((refine zzr hQ ?_))
  all_goals (exact Fin.keepL)
theorem c_wrnum {bs : List Int} {a : Nat} {l : List Int} (h : At bs a l) (e : Int) (x : Option EV) (most : Int) (hm : 0 ≤ most ∧ most ≤ 1000000) : ∃ a', At bs a' (sU most (l, e)).2.1 ∧ CallD Tryd.prog 47 [.ptr 100001 0, .raw (.int .i64 most)] (wr2H x bs a e) (.raw (.int .i64 (sU most (l, e)).1)) (wr2H x bs a' (sU most (l, e)).2.2) := by
  obtain ⟨a1, g1, k1⟩ := x_U h e most
  have w1 := r_U h.b e (most := most) (by omega)
  refine ⟨a1, g1, ?_⟩
  generalize sU most (l, e) = r at g1 k1 w1 ⊢
  obtain ⟨v1, l1, e1⟩ := r
  simp only at g1 k1 w1 ⊢
  clear h g1
  refine calls_go (nt := 13) (rs := [.tmp 4]) Tryd.func47 rfl rfl rfl (by simp) (hbig_hpL (by simp)) ?_; intro Q hQ hW
  unfold wr2H
  repeat' (first
 | (with_reducible refine run_n ?_; with_reducible first | refine hK _ _ (by simp) ?_ | refine hK _ _ ?_; clear hK K)
 | (refine zzc ?_)
 | (with_reducible refine awp_regT (by kernel_rfl) ?_; intro K hK)
 | (with_reducible refine a_cond (ht := ?_) (hf := ?_) <;> intro hb <;> (try simp at hb) <;> (try contradiction) <;> (try subst hb) <;> (try omega))
 | (with_reducible first | refine a_move (hr:=?_) | refine a_assign (hr:=?_) | refine a_load (hr:=?_) | refine a_fieldAddr (hr:=?_) | refine a_nilCheck (hr:=?_) | refine a_conv (hr:=?_) | refine a_bytesStr (hr:=?_) | refine a_strBytes (hr:=?_) | refine a_sameSl (hr:=?_) | refine a_callP (p := 100000) (hcall := k1) (hr:=?_))
 | fail)
  all_goals ((refine zzr hQ ?_))
  all_goals (exact Fin.keepL)
theorem c_wtruth {bs : List Int} {a : Nat} {l : List Int} (h : At bs a l) (e : Int) (x : Option EV) (p : ByteArray) : ∃ a', At bs a' (sB (l, e)).2.1 ∧ CallD Tryd.prog 51 [.ptr 100001 0, .raw (.string p)] (wr2H x bs a e) (.raw (.bool (decide ((sB (l, e)).1 = 1)))) (wr2H (atE x p (if (sB (l, e)).2.2 = 0 ∧ 1 < (sB (l, e)).1 then 1 else 0)) bs a' (sB (l, e)).2.2) := by
  obtain ⟨a1, g1, k1⟩ := x_B h e
  have w1 := r_B h.b e
  refine ⟨a1, g1, ?_⟩
  generalize sB (l, e) = r at g1 k1 w1 ⊢
  obtain ⟨v1, l1, e1⟩ := r
  simp only at g1 k1 w1 ⊢
  have k2 := c_Err bs a1 e1
  clear h g1
  by_cases h0 : e1 = 0
  · subst h0
    by_cases h1 : 1 < v1
    · rw [if_pos ⟨rfl, h1⟩]
      have k3 := c_fails x p 1 bs a1 0
      generalize atE x p 1 = y at k3 ⊢
      refine calls_go (nt := 26) (rs := [.tmp 4]) Tryd.func51 rfl rfl rfl (by simp) (hbig_hpL (by simp)) ?_; intro Q hQ hW
      unfold wr2H
      repeat' (first
 | (with_reducible refine run_n ?_; with_reducible first | refine hK _ _ (by simp) ?_ | refine hK _ _ ?_; clear hK K)
 | (refine zzc ?_)
 | (with_reducible refine awp_regT (by kernel_rfl) ?_; intro K hK)
 | (with_reducible refine a_cond (ht := ?_) (hf := ?_) <;> intro hb <;> (try simp at hb) <;> (try contradiction) <;> (try subst hb) <;> (try omega))
 | (with_reducible first | refine a_move (hr:=?_) | refine a_assign (hr:=?_) | refine a_load (hr:=?_) | refine a_fieldAddr (hr:=?_) | refine a_nilCheck (hr:=?_) | refine a_bin (hr:=?_) | refine a_pick (hr:=?_) | refine a_eqB (hr:=?_) | refine a_eqS (hr:=?_) | refine a_callP (p := 100000) (hcall := k1) (hr:=?_) | refine a_callP (p := 100000) (hcall := k2) (hr:=?_) | refine a_callM (p := 100001) (k := 100000) (q := 100000) (hcall := k3) (hr:=?_) | refine a_gT (hr:=?_) | refine a_gF (hr:=?_) | refine a_gU (hr:=?_))
 | (with_reducible refine a_gB (hT := ?_) (hF := ?_) <;> intro hb <;> (try simp at hb) <;> (try contradiction) <;> (try subst hb) <;> (try omega))
 | fail)
      all_goals ((refine zzr hQ ?_))
      all_goals (exact Fin.keepL)
    · rw [if_neg (fun h => h1 h.2), atE_0]
      refine calls_go (nt := 26) (rs := [.tmp 4]) Tryd.func51 rfl rfl rfl (by simp) (hbig_hpL (by simp)) ?_; intro Q hQ hW
      unfold wr2H
      repeat' (first
 | (with_reducible refine run_n ?_; with_reducible first | refine hK _ _ (by simp) ?_ | refine hK _ _ ?_; clear hK K)
 | (refine zzc ?_)
 | (with_reducible refine awp_regT (by kernel_rfl) ?_; intro K hK)
 | (with_reducible refine a_cond (ht := ?_) (hf := ?_) <;> intro hb <;> (try simp at hb) <;> (try contradiction) <;> (try subst hb) <;> (try omega))
 | (with_reducible first | refine a_move (hr:=?_) | refine a_assign (hr:=?_) | refine a_load (hr:=?_) | refine a_fieldAddr (hr:=?_) | refine a_nilCheck (hr:=?_) | refine a_bin (hr:=?_) | refine a_pick (hr:=?_) | refine a_eqB (hr:=?_) | refine a_eqS (hr:=?_) | refine a_callP (p := 100000) (hcall := k1) (hr:=?_) | refine a_callP (p := 100000) (hcall := k2) (hr:=?_) | refine a_gT (hr:=?_) | refine a_gF (hr:=?_) | refine a_gU (hr:=?_))
 | (with_reducible refine a_gB (hT := ?_) (hF := ?_) <;> intro hb <;> (try simp at hb) <;> (try contradiction) <;> (try subst hb) <;> (try omega))
 | fail)
      all_goals ((refine zzr hQ ?_))
      all_goals (exact Fin.keepL)
  · rw [if_neg (fun h => h0 h.1), atE_0]
    refine calls_go (nt := 26) (rs := [.tmp 4]) Tryd.func51 rfl rfl rfl (by simp) (hbig_hpL (by simp)) ?_; intro Q hQ hW
    unfold wr2H
    repeat' (first
 | (with_reducible refine run_n ?_; with_reducible first | refine hK _ _ (by simp) ?_ | refine hK _ _ ?_; clear hK K)
 | (refine zzc ?_)
 | (with_reducible refine awp_regT (by kernel_rfl) ?_; intro K hK)
 | (with_reducible refine a_cond (ht := ?_) (hf := ?_) <;> intro hb <;> (try simp at hb) <;> (try contradiction) <;> (try subst hb) <;> (try omega))
 | (with_reducible first | refine a_move (hr:=?_) | refine a_assign (hr:=?_) | refine a_load (hr:=?_) | refine a_fieldAddr (hr:=?_) | refine a_nilCheck (hr:=?_) | refine a_bin (hr:=?_) | refine a_pick (hr:=?_) | refine a_eqB (hr:=?_) | refine a_eqS (hr:=?_) | refine a_callP (p := 100000) (hcall := k1) (hr:=?_) | refine a_callP (p := 100000) (hcall := k2) (hr:=?_) | refine a_gT (hr:=?_) | refine a_gF (hr:=?_) | refine a_gU (hr:=?_))
 | (with_reducible refine a_gB (hT := ?_) (hF := ?_) <;> intro hb <;> (try simp at hb) <;> (try contradiction) <;> (try subst hb) <;> (try omega))
 | fail)
    all_goals ((refine zzr hQ ?_))
    all_goals (exact Fin.keepL)
theorem atE_two (x : Option EV) (p : ByteArray) (c e : Int) : atE (atE x p (if e = 0 ∧ 1 < c then 1 else 0)) p e = atE x p (wrE c e) := by
  unfold wrE
  by_cases he : e = 0
  · subst he
    rw [atE_0, if_neg (show ¬ ((0 : Int) ≠ 0) by decide)]
    by_cases hc : 1 < c
    · rw [if_pos ⟨rfl, hc⟩, if_pos hc]
    · rw [if_neg (fun h => hc h.2), if_neg hc]
  · rw [if_neg (fun h => he h.1), atE_0, if_pos he]
theorem c_wnode {bs : List Int} {a : Nat} {l : List Int} (h : At bs a l) (e : Int) (x : Option EV) (p : ByteArray) : ∃ a', At bs a' (nodeS (l, e)).2.2.1 ∧ CallD Tryd.prog 27 [.ptr 100001 0, .raw (.string p)] (wr2H x bs a e) (nodeAV (nodeS (l, e)).1) (wr2H (atE x p (wrE (nodeS (l, e)).2.1 (nodeS (l, e)).2.2.2)) bs a' (nodeS (l, e)).2.2.2) := by
  simp only [nodeS]
  obtain ⟨a1, g1, k1⟩ := x_B h e
  have w1 := r_B h.b e
  generalize sB (l, e) = r at g1 k1 w1 ⊢
  obtain ⟨v1, l1, e1⟩ := r
  simp only at g1 k1 w1 ⊢
  obtain ⟨a2, g2, k2⟩ := c_wrtext g1 e1 x
  generalize sT 128 (l1, e1) = r at g2 k2 ⊢
  obtain ⟨v2, l2, e2⟩ := r
  simp only at g2 k2 ⊢
  obtain ⟨a3, g3, k3⟩ := c_wrnum g2 e2 x 255 (by omega)
  have w3 := r_U g2.b e2 (most := 255) (by omega)
  generalize sU 255 (l2, e2) = r at g3 k3 w3 ⊢
  obtain ⟨v3, l3, e3⟩ := r
  simp only at g3 k3 w3 ⊢
  obtain ⟨a4, g4, k4⟩ := c_wrtext g3 e3 x
  generalize sT 128 (l3, e3) = r at g4 k4 ⊢
  obtain ⟨v4, l4, e4⟩ := r
  simp only at g4 k4 ⊢
  obtain ⟨a5, g5, k5⟩ := c_wrtext g4 e4 x
  generalize sT 128 (l4, e4) = r at g5 k5 ⊢
  obtain ⟨v5, l5, e5⟩ := r
  simp only at g5 k5 ⊢
  obtain ⟨a6, g6, k6⟩ := c_wrtext g5 e5 x
  generalize sT 128 (l5, e5) = r at g6 k6 ⊢
  obtain ⟨v6, l6, e6⟩ := r
  simp only at g6 k6 ⊢
  obtain ⟨a7, g7, k7⟩ := c_wrnum g6 e6 x 255 (by omega)
  have w7 := r_U g6.b e6 (most := 255) (by omega)
  generalize sU 255 (l6, e6) = r at g7 k7 w7 ⊢
  obtain ⟨v7, l7, e7⟩ := r
  simp only at g7 k7 w7 ⊢
  obtain ⟨a8, g8, k8⟩ := c_wtruth g7 e7 x p
  generalize sB (l7, e7) = r at g8 k8 ⊢
  obtain ⟨v8, l8, e8⟩ := r
  simp only at g8 k8 ⊢
  have k9 := c_Err bs a8 e8
  have k10 := c_fails (atE x p (if e8 = 0 ∧ 1 < v8 then 1 else 0)) p e8 bs a8 e8
  rw [atE_two] at k10
  generalize atE x p (if e8 = 0 ∧ 1 < v8 then 1 else 0) = y at k8 k10
  generalize atE x p (wrE v8 e8) = z at k10 ⊢
  refine ⟨a8, g8, ?_⟩
  clear h g1 g2 g3 g4 g5 g6 g7 g8
  refine calls_go (nt := 46) (rs := [.cell 4 52]) Tryd.func27 rfl rfl rfl (by simp) (hbig_hpL (by simp)) ?_; intro Q hQ hW
  unfold wr2H
  repeat' (first
 | (with_reducible refine run_n ?_; with_reducible first | refine hK _ _ (by simp) ?_ | refine hK _ _ ?_; clear hK K)
 | (refine zzc ?_)
 | (with_reducible refine awp_regT (by kernel_rfl) ?_; intro K hK)
 | (with_reducible refine a_cond (ht := ?_) (hf := ?_) <;> intro hb <;> (try simp at hb) <;> (try contradiction) <;> (try subst hb) <;> (try omega))
 | (with_reducible first | refine a_move (hr:=?_) | refine a_load (hr:=?_) | refine a_fieldAddr (hr:=?_) | refine a_nilCheck (hr:=?_) | refine a_bin (hr:=?_) | refine a_store (hr:=?_) | refine a_alloc (hr:=?_) | refine a_conv (hr:=?_) | refine a_bytesStr (hr:=?_) | refine a_strBytes (hr:=?_) | refine a_sameSl (hr:=?_) | refine a_callP (p := 100000) (hcall := k1) (hr:=?_) | refine a_callM (p := 100001) (k := 100000) (q := 100000) (hcall := k2) (hr:=?_) | refine a_callM (p := 100001) (k := 100000) (q := 100000) (hcall := k3) (hr:=?_) | refine a_callM (p := 100001) (k := 100000) (q := 100000) (hcall := k4) (hr:=?_) | refine a_callM (p := 100001) (k := 100000) (q := 100000) (hcall := k5) (hr:=?_) | refine a_callM (p := 100001) (k := 100000) (q := 100000) (hcall := k6) (hr:=?_) | refine a_callM (p := 100001) (k := 100000) (q := 100000) (hcall := k7) (hr:=?_) | refine a_callM (p := 100001) (k := 100000) (q := 100000) (hcall := k8) (hr:=?_) | refine a_callP (p := 100000) (hcall := k9) (hr:=?_) | refine a_callM (p := 100001) (k := 100000) (q := 100000) (hcall := k10) (hr:=?_))
 | fail)
  all_goals ((refine zzr hQ ?_))
  all_goals (exact Fin.keepL)
theorem c_wflow {bs : List Int} {a : Nat} {l : List Int} (h : At bs a l) (e : Int) (x : Option EV) (p : ByteArray) : ∃ a', At bs a' (flowS (l, e)).2.2.1 ∧ CallD Tryd.prog 29 [.ptr 100001 0, .raw (.string p)] (wr2H x bs a e) (flowAV (flowS (l, e)).1) (wr2H (atE x p (wrE (flowS (l, e)).2.1 (flowS (l, e)).2.2.2)) bs a' (flowS (l, e)).2.2.2) := by
  simp only [flowS]
  obtain ⟨a1, g1, k1⟩ := c_wrnum h e x 254 (by omega)
  have w1 := r_U h.b e (most := 254) (by omega)
  generalize sU 254 (l, e) = r at g1 k1 w1 ⊢
  obtain ⟨v1, l1, e1⟩ := r
  simp only at g1 k1 w1 ⊢
  obtain ⟨a2, g2, k2⟩ := c_wrnum g1 e1 x 254 (by omega)
  have w2 := r_U g1.b e1 (most := 254) (by omega)
  generalize sU 254 (l1, e1) = r at g2 k2 w2 ⊢
  obtain ⟨v2, l2, e2⟩ := r
  simp only at g2 k2 w2 ⊢
  obtain ⟨a3, g3, k3⟩ := c_wrtext g2 e2 x
  generalize sT 128 (l2, e2) = r at g3 k3 ⊢
  obtain ⟨v3, l3, e3⟩ := r
  simp only at g3 k3 ⊢
  obtain ⟨a8, g8, k8⟩ := c_wtruth g3 e3 x p
  generalize sB (l3, e3) = r at g8 k8 ⊢
  obtain ⟨v8, l8, e8⟩ := r
  simp only at g8 k8 ⊢
  have k9 := c_Err bs a8 e8
  have k10 := c_fails (atE x p (if e8 = 0 ∧ 1 < v8 then 1 else 0)) p e8 bs a8 e8
  rw [atE_two] at k10
  generalize atE x p (if e8 = 0 ∧ 1 < v8 then 1 else 0) = y at k8 k10
  generalize atE x p (wrE v8 e8) = z at k10 ⊢
  refine ⟨a8, g8, ?_⟩
  clear h g1 g2 g3 g8
  refine calls_go (nt := 28) (rs := [.cell 4 54]) Tryd.func29 rfl rfl rfl (by simp) (hbig_hpL (by simp)) ?_; intro Q hQ hW
  unfold wr2H
  repeat' (first
 | (with_reducible refine run_n ?_; with_reducible first | refine hK _ _ (by simp) ?_ | refine hK _ _ ?_; clear hK K)
 | (refine zzc ?_)
 | (with_reducible refine awp_regT (by kernel_rfl) ?_; intro K hK)
 | (with_reducible refine a_cond (ht := ?_) (hf := ?_) <;> intro hb <;> (try simp at hb) <;> (try contradiction) <;> (try subst hb) <;> (try omega))
 | (with_reducible first | refine a_move (hr:=?_) | refine a_load (hr:=?_) | refine a_fieldAddr (hr:=?_) | refine a_nilCheck (hr:=?_) | refine a_store (hr:=?_) | refine a_alloc (hr:=?_) | refine a_callM (p := 100001) (k := 100000) (q := 100000) (hcall := k1) (hr:=?_) | refine a_callM (p := 100001) (k := 100000) (q := 100000) (hcall := k2) (hr:=?_) | refine a_callM (p := 100001) (k := 100000) (q := 100000) (hcall := k3) (hr:=?_) | refine a_callM (p := 100001) (k := 100000) (q := 100000) (hcall := k8) (hr:=?_) | refine a_callP (p := 100000) (hcall := k9) (hr:=?_) | refine a_callM (p := 100001) (k := 100000) (q := 100000) (hcall := k10) (hr:=?_))
 | fail)
  all_goals ((refine zzr hQ ?_))
  all_goals (exact Fin.keepL)
end Go.Proofs.YtejeemhenoobjaaDoor.Asl

namespace Go.Proofs.YtejeemhenoobjaaDoor.Asl
open Go Go.RowKit
set_option linter.unusedVariables false
set_option linter.unusedSimpArgs false
set_option maxRecDepth 100000
set_option maxHeartbeats 4000000
theorem c_VNumber (n : Int) (h0 : -9223372036854775808 ≤ n) (h1 : n < 9223372036854775808) : CallD Tryd.prog 67 [.raw (.int .i64 n)] noHeap (.raw (.string (strOfNums (digs10 n)))) noHeap := by
  obtain ⟨N, hN⟩ : ∃ N : Int, N = if n < 0 then -n else n := ⟨_, rfl⟩
  have hN0 : 0 ≤ N ∧ N ≤ 9223372036854775808 := by split at hN <;> omega
  have hd : digs10 n = if n < 0 then 45 :: nat10 20 N else nat10 20 N := by
    unfold digs10
    split
    · rename_i h; rw [if_pos h] at hN; rw [hN]
    · rename_i h; rw [if_neg h] at hN; rw [hN]
  rw [hd]
  clear hd
  have hz : (u8s (fill [])) = [AV.raw (.int .u8 0), AV.raw (.int .u8 0), AV.raw (.int .u8 0), AV.raw (.int .u8 0), AV.raw (.int .u8 0), AV.raw (.int .u8 0), AV.raw (.int .u8 0), AV.raw (.int .u8 0), AV.raw (.int .u8 0), AV.raw (.int .u8 0), AV.raw (.int .u8 0), AV.raw (.int .u8 0), AV.raw (.int .u8 0), AV.raw (.int .u8 0), AV.raw (.int .u8 0), AV.raw (.int .u8 0), AV.raw (.int .u8 0), AV.raw (.int .u8 0), AV.raw (.int .u8 0), AV.raw (.int .u8 0)] := rfl
  by_cases hneg : n < 0
  · rw [if_pos hneg] at hN ⊢
    have hss : IntKind.wrap .u64 n = n + 18446744073709551616 := by rw [wrap_u64']; omega
    refine zzg (nt := 37) (rs := [.tmp 2]) Tryd.func67 ?_; intro Q hQ hW
    repeat' (first
 | (with_reducible refine run_n ?_; with_reducible first | refine hK _ _ (by simp) ?_ | refine hK _ _ ?_; clear hK K)
 | (refine zzc ?_)
 | (with_reducible refine awp_regT (by kernel_rfl) ?_; intro K hK)
 | (with_reducible refine a_cond (ht := ?_) (hf := ?_) <;> intro hb <;> (try simp at hb) <;> (try contradiction) <;> (try subst hb) <;> (try omega))
 | (with_reducible first | refine a_move (hr:=?_) | refine a_assign (hr:=?_) | refine a_remU (hr:=?_) | refine a_quoU (hr:=?_) | refine a_bin (hr:=?_) | refine a_pick (hr:=?_) | refine a_un (hr:=?_) | refine a_store (hr:=?_) | refine a_alloc (hr:=?_) | refine a_eqB (hr:=?_) | refine a_conv (hr:=?_) | refine a_bytesStr (hr:=?_) | refine a_strBytes (hr:=?_) | refine a_sameSl (hr:=?_) | refine a_idxArr (hr:=?_) | refine a_sliceArr (hr:=?_) | refine a_eqS (hr:=?_) | refine a_sliceS (hr:=?_) | refine a_sliceR (hr:=?_) | refine a_indexAddr (hr:=?_) | refine a_gT (hr:=?_) | refine a_gF (hr:=?_) | refine a_gU (hr:=?_))
 | (with_reducible refine a_gB (hT := ?_) (hF := ?_) <;> intro hb <;> (try simp at hb) <;> (try contradiction) <;> (try subst hb) <;> (try omega))
 | fail)
    clear hss
    have hss : IntKind.wrap .u64 (-(n + 18446744073709551616)) = N := by rw [wrap_u64']; omega
    repeat' (first
 | (with_reducible refine run_n ?_; with_reducible first | refine hK _ _ (by simp) ?_ | refine hK _ _ ?_; clear hK K)
 | (refine zzc ?_)
 | (with_reducible refine awp_regT (by kernel_rfl) ?_; intro K hK)
 | (with_reducible refine a_cond (ht := ?_) (hf := ?_) <;> intro hb <;> (try simp at hb) <;> (try contradiction) <;> (try subst hb) <;> (try omega))
 | (with_reducible first | refine a_move (hr:=?_) | refine a_assign (hr:=?_) | refine a_remU (hr:=?_) | refine a_quoU (hr:=?_) | refine a_bin (hr:=?_) | refine a_pick (hr:=?_) | refine a_un (hr:=?_) | refine a_store (hr:=?_) | refine a_alloc (hr:=?_) | refine a_eqB (hr:=?_) | refine a_conv (hr:=?_) | refine a_bytesStr (hr:=?_) | refine a_strBytes (hr:=?_) | refine a_sameSl (hr:=?_) | refine a_idxArr (hr:=?_) | refine a_sliceArr (hr:=?_) | refine a_eqS (hr:=?_) | refine a_sliceS (hr:=?_) | refine a_sliceR (hr:=?_) | refine a_indexAddr (hr:=?_) | refine a_gT (hr:=?_) | refine a_gF (hr:=?_) | refine a_gU (hr:=?_))
 | (with_reducible refine a_gB (hT := ?_) (hF := ?_) <;> intro hb <;> (try simp at hb) <;> (try contradiction) <;> (try subst hb) <;> (try omega))
 | fail)
    refine awp_inv (α := Int × List Int) (fun a => [(0, .raw (.int .i64 n)), (3, .ptr 3 0), (4, .raw (.int .i64 (20 - a.2.length))), (5, .raw (.int .u64 a.1))]) (fun a => hpL [(3, .box (.agg (u8s (fill a.2))))])
      (fun a => 0 ≤ a.1 ∧ a.1 * 10 ^ a.2.length ≤ N ∧ a.2.length ≤ 19 ∧ (if a.2 ≠ [] ∧ a.1 = 0 then a.2 else nat10 (20 - a.2.length) a.1 ++ a.2) = nat10 20 N) (fun a => 20 - a.2.length) (N, []) ⟨hN0.1, by simp, by simp, by simp⟩ (by
        rw [← hz]
        exact zzw) ?_
    rintro ⟨M, s⟩ ⟨g1, g2, g3, g4⟩
    simp only at g1 g2 g3 g4 ⊢
    clear hss
    have hM : M ≤ 9223372036854775808 := by
      have h1 : (1 : Int) ≤ 10 ^ s.length := by
        have := Int.pow_pos (n := 10) (m := s.length) (by decide)
        omega
      have : M * 1 ≤ M * 10 ^ s.length := Int.mul_le_mul_of_nonneg_left h1 g1
      omega
    have hla := fill_len (s := s) (by omega)
    by_cases hst : s ≠ [] ∧ M = 0
    · rw [if_pos hst] at g4
      obtain ⟨hs0, rfl⟩ := hst
      have hsl : s.length ≠ 0 := by simpa using hs0
      rw [← g4] at hQ
      have hdr := fill_drop (s := 45 :: s) (by simp; omega)
      have hset := fill_set (s := s) (by omega) 45
      rw [show 19 - s.length = 20 - s.length - 1 by omega] at hset
      have hla0 := fill_len (s := 45 :: s) (by simp; omega)
      have hla : ((fill s).set (20 - s.length - 1) 45).length = 20 := by rw [hset]; exact hla0
      have htn : (20 - (s.length : Int) - 1).toNat = 20 - s.length - 1 := by omega
      clear hN hz g2 hM g4
      repeat' (first
 | (with_reducible refine run_n ?_; with_reducible first | refine hK _ _ (by simp) ?_ | refine hK _ _ ?_; clear hK K)
 | (refine zzc ?_)
 | (with_reducible refine awp_regT (by kernel_rfl) ?_; intro K hK)
 | (with_reducible refine a_cond (ht := ?_) (hf := ?_) <;> intro hb <;> (try simp at hb) <;> (try contradiction) <;> (try subst hb) <;> (try omega))
 | (with_reducible first | refine a_move (hr:=?_) | refine a_assign (hr:=?_) | refine a_remU (hr:=?_) | refine a_quoU (hr:=?_) | refine a_bin (hr:=?_) | refine a_pick (hr:=?_) | refine a_un (hr:=?_) | refine a_store (hr:=?_) | refine a_alloc (hr:=?_) | refine a_eqB (hr:=?_) | refine a_conv (hr:=?_) | refine a_bytesStr (hr:=?_) | refine a_strBytes (hr:=?_) | refine a_sameSl (hr:=?_) | refine a_idxArr (hr:=?_) | refine a_sliceArr (hr:=?_) | refine a_eqS (hr:=?_) | refine a_sliceS (hr:=?_) | refine a_sliceR (hr:=?_) | refine a_indexAddr (hr:=?_) | refine a_gT (hr:=?_) | refine a_gF (hr:=?_) | refine a_gU (hr:=?_))
 | (with_reducible refine a_gB (hT := ?_) (hF := ?_) <;> intro hb <;> (try simp at hb) <;> (try contradiction) <;> (try subst hb) <;> (try omega))
 | fail)
      simp only [hset]
      rw [List.length_cons, show 20 - (s.length + 1) = 20 - s.length - 1 by omega] at hdr
      generalize fill (45 :: s) = F at hla0 hdr ⊢
      have htl : 20 - (20 - s.length - 1) = s.length + 1 := by omega
      have hml : 20 - s.length - 1 + (s.length + 1) ≤ 20 := by omega
      clear hset hla
      repeat' (first
 | (with_reducible refine run_n ?_; with_reducible first | refine hK _ _ (by simp) ?_ | refine hK _ _ ?_; clear hK K)
 | (refine zzc ?_)
 | (with_reducible refine awp_regT (by kernel_rfl) ?_; intro K hK)
 | (with_reducible refine a_cond (ht := ?_) (hf := ?_) <;> intro hb <;> (try simp at hb) <;> (try contradiction) <;> (try subst hb) <;> (try omega))
 | (with_reducible first | refine a_move (hr:=?_) | refine a_assign (hr:=?_) | refine a_remU (hr:=?_) | refine a_quoU (hr:=?_) | refine a_bin (hr:=?_) | refine a_pick (hr:=?_) | refine a_un (hr:=?_) | refine a_store (hr:=?_) | refine a_alloc (hr:=?_) | refine a_eqB (hr:=?_) | refine a_conv (hr:=?_) | refine a_bytesStr (hr:=?_) | refine a_strBytes (hr:=?_) | refine a_sameSl (hr:=?_) | refine a_idxArr (hr:=?_) | refine a_sliceArr (hr:=?_) | refine a_eqS (hr:=?_) | refine a_sliceS (hr:=?_) | refine a_sliceR (hr:=?_) | refine a_indexAddr (hr:=?_) | refine a_gT (hr:=?_) | refine a_gF (hr:=?_) | refine a_gU (hr:=?_))
 | (with_reducible refine a_gB (hT := ?_) (hF := ?_) <;> intro hb <;> (try simp at hb) <;> (try contradiction) <;> (try subst hb) <;> (try omega))
 | fail)
      (refine zzr hQ ?_)
      exact zzd
    · rw [if_neg hst] at g4
      obtain ⟨q, hq⟩ : ∃ q, M / 10 = q := ⟨_, rfl⟩
      obtain ⟨d, hd⟩ : ∃ d, M % 10 = d := ⟨_, rfl⟩
      have hM2 : M = 10 * q + d := by omega
      have hd2 : 0 ≤ d ∧ d < 10 := by omega
      have hq2 : 0 ≤ q := by omega
      have hset := fill_set (s := s) (by omega) (48 + d)
      rw [show 19 - s.length = 20 - s.length - 1 by omega] at hset
      have hlen : s.length ≤ 18 := by
        rcases Nat.lt_or_ge s.length 19 with h | h
        · omega
        · have h19 : s.length = 19 := by omega
          rw [h19, pow10] at g2
          exact absurd ⟨fun e => by simp [e] at h19, by omega⟩ hst
      have hnx : (if (48 + d) :: s ≠ [] ∧ q = 0 then (48 + d) :: s else nat10 (20 - ((48 + d) :: s).length) q ++ (48 + d) :: s) = nat10 20 N := by
        rw [← g4, show 20 - s.length = (19 - s.length) + 1 by omega, nat10]
        by_cases hq0 : q = 0
        · rw [if_pos ⟨by simp, hq0⟩, if_pos (by omega), show M = d by omega]; simp
        · rw [if_neg (fun h => hq0 h.2), if_neg (by omega), hq, hd, List.length_cons, show 20 - (s.length + 1) = 19 - s.length by omega]; simp
      have hpw : q * 10 ^ (s.length + 1) ≤ N := by
        rw [Int.pow_succ, Int.mul_comm (10 ^ s.length) 10, ← Int.mul_assoc]
        have h1 : (0 : Int) ≤ 10 ^ s.length := Int.le_of_lt (Int.pow_pos (by decide))
        have : q * 10 * 10 ^ s.length ≤ M * 10 ^ s.length := Int.mul_le_mul_of_nonneg_right (by omega) h1
        omega
      have hgo : (s.length : Int) = 0 ∨ ¬ M = 0 := by
        by_cases e : s = []
        · left; simp [e]
        · right; exact fun h => hst ⟨e, h⟩
      clear g4 hst g2
      repeat' (first
 | (with_reducible refine run_n ?_; with_reducible first | refine hK _ _ (by simp) ?_ | refine hK _ _ ?_; clear hK K)
 | (refine zzc ?_)
 | (with_reducible refine awp_regT (by kernel_rfl) ?_; intro K hK)
 | (with_reducible refine a_cond (ht := ?_) (hf := ?_) <;> intro hb <;> (try simp at hb) <;> (try contradiction) <;> (try subst hb) <;> (try omega))
 | (with_reducible first | refine a_move (hr:=?_) | refine a_assign (hr:=?_) | refine a_remU (hr:=?_) | refine a_quoU (hr:=?_) | refine a_bin (hr:=?_) | refine a_pick (hr:=?_) | refine a_un (hr:=?_) | refine a_store (hr:=?_) | refine a_alloc (hr:=?_) | refine a_eqB (hr:=?_) | refine a_conv (hr:=?_) | refine a_bytesStr (hr:=?_) | refine a_strBytes (hr:=?_) | refine a_sameSl (hr:=?_) | refine a_idxArr (hr:=?_) | refine a_sliceArr (hr:=?_) | refine a_eqS (hr:=?_) | refine a_sliceS (hr:=?_) | refine a_sliceR (hr:=?_) | refine a_indexAddr (hr:=?_) | refine a_gT (hr:=?_) | refine a_gF (hr:=?_) | refine a_gU (hr:=?_))
 | (with_reducible refine a_gB (hT := ?_) (hF := ?_) <;> intro hb <;> (try simp at hb) <;> (try contradiction) <;> (try subst hb) <;> (try omega))
 | fail)
      all_goals first
        | (exfalso; omega)
        | exact ⟨(q, (48 + d) :: s), by simp; omega, ⟨hq2, hpw, by simp; omega, hnx⟩, weak_o (by rw [hd, hset]; repeat' (first | refine sub_ohp (by first | (simp; done) | (intro hne; simp at hne; simp [hne])) (by simp) ?_ | exact sub_hpL (by simp))) (by simp) (by simp [hd, hq]; omega)⟩
  · rw [if_neg hneg] at hN ⊢
    refine zzg (nt := 37) (rs := [.tmp 2]) Tryd.func67 ?_; intro Q hQ hW
    repeat' (first
 | (with_reducible refine run_n ?_; with_reducible first | refine hK _ _ (by simp) ?_ | refine hK _ _ ?_; clear hK K)
 | (refine zzc ?_)
 | (with_reducible refine awp_regT (by kernel_rfl) ?_; intro K hK)
 | (with_reducible refine a_cond (ht := ?_) (hf := ?_) <;> intro hb <;> (try simp at hb) <;> (try contradiction) <;> (try subst hb) <;> (try omega))
 | (with_reducible first | refine a_move (hr:=?_) | refine a_assign (hr:=?_) | refine a_remU (hr:=?_) | refine a_quoU (hr:=?_) | refine a_bin (hr:=?_) | refine a_pick (hr:=?_) | refine a_un (hr:=?_) | refine a_store (hr:=?_) | refine a_alloc (hr:=?_) | refine a_eqB (hr:=?_) | refine a_conv (hr:=?_) | refine a_bytesStr (hr:=?_) | refine a_strBytes (hr:=?_) | refine a_sameSl (hr:=?_) | refine a_idxArr (hr:=?_) | refine a_sliceArr (hr:=?_) | refine a_eqS (hr:=?_) | refine a_sliceS (hr:=?_) | refine a_sliceR (hr:=?_) | refine a_indexAddr (hr:=?_) | refine a_gT (hr:=?_) | refine a_gF (hr:=?_) | refine a_gU (hr:=?_))
 | (with_reducible refine a_gB (hT := ?_) (hF := ?_) <;> intro hb <;> (try simp at hb) <;> (try contradiction) <;> (try subst hb) <;> (try omega))
 | fail)
    refine awp_inv (α := Int × List Int) (fun a => [(0, .raw (.int .i64 n)), (3, .ptr 3 0), (4, .raw (.int .i64 (20 - a.2.length))), (5, .raw (.int .u64 a.1))]) (fun a => hpL [(3, .box (.agg (u8s (fill a.2))))])
      (fun a => 0 ≤ a.1 ∧ a.1 * 10 ^ a.2.length ≤ N ∧ a.2.length ≤ 19 ∧ (if a.2 ≠ [] ∧ a.1 = 0 then a.2 else nat10 (20 - a.2.length) a.1 ++ a.2) = nat10 20 N) (fun a => 20 - a.2.length) (N, []) ⟨hN0.1, by simp, by simp, by simp⟩ (by
        rw [← hz]
        exact zzw) ?_
    rintro ⟨M, s⟩ ⟨g1, g2, g3, g4⟩
    simp only at g1 g2 g3 g4 ⊢
    have hM : M ≤ 9223372036854775808 := by
      have h1 : (1 : Int) ≤ 10 ^ s.length := by
        have := Int.pow_pos (n := 10) (m := s.length) (by decide)
        omega
      have : M * 1 ≤ M * 10 ^ s.length := Int.mul_le_mul_of_nonneg_left h1 g1
      omega
    have hla := fill_len (s := s) (by omega)
    by_cases hst : s ≠ [] ∧ M = 0
    · rw [if_pos hst] at g4
      obtain ⟨hs0, rfl⟩ := hst
      have hsl : s.length ≠ 0 := by simpa using hs0
      rw [← g4] at hQ
      have hdr := fill_drop (s := s) (by omega)
      have htn : (20 - (s.length : Int)).toNat = 20 - s.length := by omega
      have htl : 20 - (20 - s.length) = s.length := by omega
      generalize fill s = F at hla hdr ⊢
      have hdl : F.drop (20 - s.length) = s := hdr
      have hml : (20 - s.length) + s.length ≤ 20 := by omega
      clear hN hz g2 hM g4
      repeat' (first
 | (with_reducible refine run_n ?_; with_reducible first | refine hK _ _ (by simp) ?_ | refine hK _ _ ?_; clear hK K)
 | (refine zzc ?_)
 | (with_reducible refine awp_regT (by kernel_rfl) ?_; intro K hK)
 | (with_reducible refine a_cond (ht := ?_) (hf := ?_) <;> intro hb <;> (try simp at hb) <;> (try contradiction) <;> (try subst hb) <;> (try omega))
 | (with_reducible first | refine a_move (hr:=?_) | refine a_assign (hr:=?_) | refine a_remU (hr:=?_) | refine a_quoU (hr:=?_) | refine a_bin (hr:=?_) | refine a_pick (hr:=?_) | refine a_un (hr:=?_) | refine a_store (hr:=?_) | refine a_alloc (hr:=?_) | refine a_eqB (hr:=?_) | refine a_conv (hr:=?_) | refine a_bytesStr (hr:=?_) | refine a_strBytes (hr:=?_) | refine a_sameSl (hr:=?_) | refine a_idxArr (hr:=?_) | refine a_sliceArr (hr:=?_) | refine a_eqS (hr:=?_) | refine a_sliceS (hr:=?_) | refine a_sliceR (hr:=?_) | refine a_indexAddr (hr:=?_) | refine a_gT (hr:=?_) | refine a_gF (hr:=?_) | refine a_gU (hr:=?_))
 | (with_reducible refine a_gB (hT := ?_) (hF := ?_) <;> intro hb <;> (try simp at hb) <;> (try contradiction) <;> (try subst hb) <;> (try omega))
 | fail)
      (refine zzr hQ ?_)
      exact zzd
    · rw [if_neg hst] at g4
      obtain ⟨q, hq⟩ : ∃ q, M / 10 = q := ⟨_, rfl⟩
      obtain ⟨d, hd⟩ : ∃ d, M % 10 = d := ⟨_, rfl⟩
      have hM2 : M = 10 * q + d := by omega
      have hd2 : 0 ≤ d ∧ d < 10 := by omega
      have hq2 : 0 ≤ q := by omega
      have hset := fill_set (s := s) (by omega) (48 + d)
      rw [show 19 - s.length = 20 - s.length - 1 by omega] at hset
      have hlen : s.length ≤ 18 := by
        rcases Nat.lt_or_ge s.length 19 with h | h
        · omega
        · have h19 : s.length = 19 := by omega
          rw [h19, pow10] at g2
          exact absurd ⟨fun e => by simp [e] at h19, by omega⟩ hst
      have hnx : (if (48 + d) :: s ≠ [] ∧ q = 0 then (48 + d) :: s else nat10 (20 - ((48 + d) :: s).length) q ++ (48 + d) :: s) = nat10 20 N := by
        rw [← g4, show 20 - s.length = (19 - s.length) + 1 by omega, nat10]
        by_cases hq0 : q = 0
        · rw [if_pos ⟨by simp, hq0⟩, if_pos (by omega), show M = d by omega]; simp
        · rw [if_neg (fun h => hq0 h.2), if_neg (by omega), hq, hd, List.length_cons, show 20 - (s.length + 1) = 19 - s.length by omega]; simp
      have hpw : q * 10 ^ (s.length + 1) ≤ N := by
        rw [Int.pow_succ, Int.mul_comm (10 ^ s.length) 10, ← Int.mul_assoc]
        have h1 : (0 : Int) ≤ 10 ^ s.length := Int.le_of_lt (Int.pow_pos (by decide))
        have : q * 10 * 10 ^ s.length ≤ M * 10 ^ s.length := Int.mul_le_mul_of_nonneg_right (by omega) h1
        omega
      have hgo : (s.length : Int) = 0 ∨ ¬ M = 0 := by
        by_cases e : s = []
        · left; simp [e]
        · right; exact fun h => hst ⟨e, h⟩
      clear g4 hst g2
      repeat' (first
 | (with_reducible refine run_n ?_; with_reducible first | refine hK _ _ (by simp) ?_ | refine hK _ _ ?_; clear hK K)
 | (refine zzc ?_)
 | (with_reducible refine awp_regT (by kernel_rfl) ?_; intro K hK)
 | (with_reducible refine a_cond (ht := ?_) (hf := ?_) <;> intro hb <;> (try simp at hb) <;> (try contradiction) <;> (try subst hb) <;> (try omega))
 | (with_reducible first | refine a_move (hr:=?_) | refine a_assign (hr:=?_) | refine a_remU (hr:=?_) | refine a_quoU (hr:=?_) | refine a_bin (hr:=?_) | refine a_pick (hr:=?_) | refine a_un (hr:=?_) | refine a_store (hr:=?_) | refine a_alloc (hr:=?_) | refine a_eqB (hr:=?_) | refine a_conv (hr:=?_) | refine a_bytesStr (hr:=?_) | refine a_strBytes (hr:=?_) | refine a_sameSl (hr:=?_) | refine a_idxArr (hr:=?_) | refine a_sliceArr (hr:=?_) | refine a_eqS (hr:=?_) | refine a_sliceS (hr:=?_) | refine a_sliceR (hr:=?_) | refine a_indexAddr (hr:=?_) | refine a_gT (hr:=?_) | refine a_gF (hr:=?_) | refine a_gU (hr:=?_))
 | (with_reducible refine a_gB (hT := ?_) (hF := ?_) <;> intro hb <;> (try simp at hb) <;> (try contradiction) <;> (try subst hb) <;> (try omega))
 | fail)
      all_goals first
        | (exfalso; omega)
        | exact ⟨(q, (48 + d) :: s), by simp; omega, ⟨hq2, hpw, by simp; omega, hnx⟩, weak_o (by rw [hd, hset]; repeat' (first | refine sub_ohp (by first | (simp; done) | (intro hne; simp at hne; simp [hne])) (by simp) ?_ | exact sub_hpL (by simp))) (by simp) (by simp [hd, hq]; omega)⟩
/-- Texts between quotes. -/
abbrev hexQ : ByteArray := ⟨#[48, 49, 50, 51, 52, 53, 54, 55, 56, 57, 97, 98, 99, 100, 101, 102]⟩
def escQ (c : Int) : List Int := if c = 34 ∨ c = 92 then [92, c] else if c < 32 ∨ 126 < c then [92, byteAt hexQ (c / 16), byteAt hexQ (c % 16)] else [c]
def quoQ (l : List Int) : List Int := 34 :: (l.flatMap escQ ++ [34])
theorem escQ_len (c : Int) : (escQ c).length ≤ 3 := by
  unfold escQ
  split
  · simp
  · split <;> simp
theorem u8s_one (x : Int) : [AV.raw (.int .u8 x)] = u8s [x] := rfl
theorem u8s_app3 (l : List Int) (x y z : Int) : u8s l ++ [.raw (.int .u8 x), .raw (.int .u8 y), .raw (.int .u8 z)] = u8s (l ++ [x, y, z]) := by simp [u8s]
theorem flat_esc (l : List Int) : (l.flatMap escQ).length ≤ 3 * l.length := by
  induction l with
  | nil => simp
  | cons c l ih => have := escQ_len c; rw [List.flatMap_cons, List.length_append, List.length_cons]; omega
theorem u8_and15 {c : Int} (h0 : 0 ≤ c) (h1 : c ≤ 255) : andI .u8 c 15 = c % 16 := by
  have : ∀ n : _root_.Fin 256, andI .u8 (n.val : Int) 15 = (n.val : Int) % 16 := by decide +kernel
  obtain ⟨m, rfl⟩ := Int.eq_ofNat_of_zero_le h0
  exact this ⟨m, by omega⟩
theorem u8_shr4 {c : Int} (h0 : 0 ≤ c) (h1 : c ≤ 255) : shrI .u8 c 4 = c / 16 := by
  have : ∀ n : _root_.Fin 256, shrI .u8 (n.val : Int) 4 = (n.val : Int) / 16 := by decide +kernel
  obtain ⟨m, rfl⟩ := Int.eq_ofNat_of_zero_le h0
  exact this ⟨m, by omega⟩
attribute [local simp] u8s_app3
theorem c_quote (s : ByteArray) (hs : s.size ≤ 1000000) : CallD Tryd.prog 68 [.raw (.string s)] noHeap (.raw (.string (strOfNums (quoQ (bytesOf s))))) noHeap := by
  have hl := len_bytes s
  refine zzg (nt := 51) (rs := [.tmp 2]) Tryd.func68 ?_; intro Q hQ hW
  repeat' (first
 | (with_reducible refine run_n ?_; with_reducible first | refine hK _ _ (by simp) ?_ | refine hK _ _ ?_; clear hK K)
 | (refine zzc ?_)
 | (with_reducible refine awp_regT (by kernel_rfl) ?_; intro K hK)
 | (with_reducible refine awp_regAM (id := 10) [] mixed (by kernel_rfl) (by kernel_rfl) ?_; intro K hK)
 | (with_reducible refine a_cond (ht := ?_) (hf := ?_) <;> intro hb <;> (try simp at hb) <;> (try contradiction) <;> (try subst hb) <;> (try omega))
 | (with_reducible first | refine a_move (hr:=?_) | refine a_assign (hr:=?_) | refine a_and (hr:=?_) | refine a_shr (hr:=?_) | refine a_bin (hr:=?_) | refine a_lenS (hr:=?_) | refine a_lenR (hr:=?_) | refine a_pick (hr:=?_) | refine a_eqB (hr:=?_) | refine a_conv (hr:=?_) | refine a_bytesStr (hr:=?_) | refine a_strBytes (hr:=?_) | refine a_sameSl (hr:=?_) | refine a_eqS (hr:=?_) | refine a_index (hr:=?_) | refine a_buildSlice (hr:=?_) | refine a_append (hr:=?_) | refine a_append0 (hr:=?_) | refine a_appendX (hr:=?_) | refine a_gT (hr:=?_) | refine a_gF (hr:=?_) | refine a_gU (hr:=?_))
 | (with_reducible refine a_gB (hT := ?_) (hF := ?_) <;> intro hb <;> (try simp at hb) <;> (try contradiction) <;> (try subst hb) <;> (try omega))
 | fail)
  refine awp_inv (α := Nat) (fun i => [(0, .raw (.string s)), (3, .ow 60 1 0 (34 :: ((bytesOf s).take i).flatMap escQ).length), (8, .raw (.int .i64 s.size)), (9, .raw (.int .i64 i))]) (fun i => hpL [(60, .arr 1 (u8s (34 :: ((bytesOf s).take i).flatMap escQ)))]) (fun i => i ≤ s.size) (fun i => s.size - i) 0 (by simp) (by simp only [List.take_zero, List.flatMap_nil, ← u8s_one]; exact zzx 60 6) ?_
  intro i hi
  have hfl := flat_esc ((bytesOf s).take i)
  rw [List.length_take] at hfl
  rcases Nat.lt_or_ge i s.size with hlt | hge
  · have hb1 := drop_byte s i hlt
    have ht : (bytesOf s).take (i + 1) = (bytesOf s).take i ++ [byteAt s i] := by
      have e1 := List.take_add (l := bytesOf s) (i := i) (j := 1)
      rw [e1, hb1]; rfl
    have hr := byteAt_range s i
    generalize hby : byteAt s i = c at ht hr
    have ht2 : 34 :: ((bytesOf s).take (i + 1)).flatMap escQ = 34 :: (((bytesOf s).take i).flatMap escQ ++ escQ c) := by rw [ht, List.flatMap_append]; simp
    generalize ((bytesOf s).take i).flatMap escQ = acc at ht2 hfl ⊢
    have hE : escQ c = if c = 34 ∨ c = 92 then [92, c] else if c < 32 ∨ 126 < c then [92, byteAt hexQ (c / 16), byteAt hexQ (c % 16)] else [c] := rfl
    clear hb1 ht
    have q1 : shrI .u8 c 4 = c / 16 := u8_shr4 hr.1 hr.2
    have q2 : andI .u8 c 15 = c % 16 := u8_and15 hr.1 hr.2
    by_cases h1 : c = 34 ∨ c = 92
    · rw [if_pos h1] at hE
      rw [hE] at ht2
      repeat' (first
 | (with_reducible refine run_n ?_; with_reducible first | refine hK _ _ (by simp) ?_ | refine hK _ _ ?_; clear hK K)
 | (refine zzc ?_)
 | (with_reducible refine awp_regT (by kernel_rfl) ?_; intro K hK)
 | (with_reducible refine awp_regAM (id := 10) [] mixed (by kernel_rfl) (by kernel_rfl) ?_; intro K hK)
 | (with_reducible refine a_cond (ht := ?_) (hf := ?_) <;> intro hb <;> (try simp at hb) <;> (try contradiction) <;> (try subst hb) <;> (try omega))
 | (with_reducible first | refine a_move (hr:=?_) | refine a_assign (hr:=?_) | refine a_and (hr:=?_) | refine a_shr (hr:=?_) | refine a_bin (hr:=?_) | refine a_lenS (hr:=?_) | refine a_lenR (hr:=?_) | refine a_pick (hr:=?_) | refine a_eqB (hr:=?_) | refine a_conv (hr:=?_) | refine a_bytesStr (hr:=?_) | refine a_strBytes (hr:=?_) | refine a_sameSl (hr:=?_) | refine a_eqS (hr:=?_) | refine a_index (hr:=?_) | refine a_buildSlice (hr:=?_) | refine a_append (hr:=?_) | refine a_append0 (hr:=?_) | refine a_appendX (hr:=?_) | refine a_gT (hr:=?_) | refine a_gF (hr:=?_) | refine a_gU (hr:=?_))
 | (with_reducible refine a_gB (hT := ?_) (hF := ?_) <;> intro hb <;> (try simp at hb) <;> (try contradiction) <;> (try subst hb) <;> (try omega))
 | fail)
      all_goals first
        | (exfalso; omega)
        | exact ⟨i + 1, by omega, by omega, by rw [ht2, ← List.cons_append]; exact zzx 60 29⟩
    · rw [if_neg h1] at hE
      by_cases h2 : c < 32 ∨ 126 < c
      · rw [if_pos h2] at hE
        rw [hE] at ht2
        repeat' (first
 | (with_reducible refine run_n ?_; with_reducible first | refine hK _ _ (by simp) ?_ | refine hK _ _ ?_; clear hK K)
 | (refine zzc ?_)
 | (with_reducible refine awp_regT (by kernel_rfl) ?_; intro K hK)
 | (with_reducible refine awp_regAM (id := 10) [] mixed (by kernel_rfl) (by kernel_rfl) ?_; intro K hK)
 | (with_reducible refine a_cond (ht := ?_) (hf := ?_) <;> intro hb <;> (try simp at hb) <;> (try contradiction) <;> (try subst hb) <;> (try omega))
 | (with_reducible first | refine a_move (hr:=?_) | refine a_assign (hr:=?_) | refine a_and (hr:=?_) | refine a_shr (hr:=?_) | refine a_bin (hr:=?_) | refine a_lenS (hr:=?_) | refine a_lenR (hr:=?_) | refine a_pick (hr:=?_) | refine a_eqB (hr:=?_) | refine a_conv (hr:=?_) | refine a_bytesStr (hr:=?_) | refine a_strBytes (hr:=?_) | refine a_sameSl (hr:=?_) | refine a_eqS (hr:=?_) | refine a_index (hr:=?_) | refine a_buildSlice (hr:=?_) | refine a_append (hr:=?_) | refine a_append0 (hr:=?_) | refine a_appendX (hr:=?_) | refine a_gT (hr:=?_) | refine a_gF (hr:=?_) | refine a_gU (hr:=?_))
 | (with_reducible refine a_gB (hT := ?_) (hF := ?_) <;> intro hb <;> (try simp at hb) <;> (try contradiction) <;> (try subst hb) <;> (try omega))
 | fail)
        all_goals first
          | (exfalso; omega)
          | exact ⟨i + 1, by omega, by omega, by rw [ht2, ← List.cons_append, ← q1, ← q2]; exact zzx 60 45⟩
      · rw [if_neg h2] at hE
        rw [hE] at ht2
        repeat' (first
 | (with_reducible refine run_n ?_; with_reducible first | refine hK _ _ (by simp) ?_ | refine hK _ _ ?_; clear hK K)
 | (refine zzc ?_)
 | (with_reducible refine awp_regT (by kernel_rfl) ?_; intro K hK)
 | (with_reducible refine awp_regAM (id := 10) [] mixed (by kernel_rfl) (by kernel_rfl) ?_; intro K hK)
 | (with_reducible refine a_cond (ht := ?_) (hf := ?_) <;> intro hb <;> (try simp at hb) <;> (try contradiction) <;> (try subst hb) <;> (try omega))
 | (with_reducible first | refine a_move (hr:=?_) | refine a_assign (hr:=?_) | refine a_and (hr:=?_) | refine a_shr (hr:=?_) | refine a_bin (hr:=?_) | refine a_lenS (hr:=?_) | refine a_lenR (hr:=?_) | refine a_pick (hr:=?_) | refine a_eqB (hr:=?_) | refine a_conv (hr:=?_) | refine a_bytesStr (hr:=?_) | refine a_strBytes (hr:=?_) | refine a_sameSl (hr:=?_) | refine a_eqS (hr:=?_) | refine a_index (hr:=?_) | refine a_buildSlice (hr:=?_) | refine a_append (hr:=?_) | refine a_append0 (hr:=?_) | refine a_appendX (hr:=?_) | refine a_gT (hr:=?_) | refine a_gF (hr:=?_) | refine a_gU (hr:=?_))
 | (with_reducible refine a_gB (hT := ?_) (hF := ?_) <;> intro hb <;> (try simp at hb) <;> (try contradiction) <;> (try subst hb) <;> (try omega))
 | fail)
        all_goals first
          | (exfalso; omega)
          | exact ⟨i + 1, by omega, by omega, by rw [ht2, ← List.cons_append]; exact zzx 60 18⟩
  · obtain rfl : i = s.size := by omega
    rw [List.take_of_length_le (by omega)] at hfl ⊢
    unfold quoQ at hQ
    generalize (bytesOf s).flatMap escQ = acc at hQ hfl ⊢
    have e1 : strOfNums (34 :: (acc ++ [34])) = ⟨(34 :: (List.map (fun n : Int => UInt8.ofNat n.toNat) acc ++ [34])).toArray⟩ := by simp [strOfNums]
    rw [e1] at hQ
    repeat' (first
 | (with_reducible refine run_n ?_; with_reducible first | refine hK _ _ (by simp) ?_ | refine hK _ _ ?_; clear hK K)
 | (refine zzc ?_)
 | (with_reducible refine awp_regT (by kernel_rfl) ?_; intro K hK)
 | (with_reducible refine awp_regAM (id := 10) [] mixed (by kernel_rfl) (by kernel_rfl) ?_; intro K hK)
 | (with_reducible refine a_cond (ht := ?_) (hf := ?_) <;> intro hb <;> (try simp at hb) <;> (try contradiction) <;> (try subst hb) <;> (try omega))
 | (with_reducible first | refine a_move (hr:=?_) | refine a_assign (hr:=?_) | refine a_and (hr:=?_) | refine a_shr (hr:=?_) | refine a_bin (hr:=?_) | refine a_lenS (hr:=?_) | refine a_lenR (hr:=?_) | refine a_pick (hr:=?_) | refine a_eqB (hr:=?_) | refine a_conv (hr:=?_) | refine a_bytesStr (hr:=?_) | refine a_strBytes (hr:=?_) | refine a_sameSl (hr:=?_) | refine a_eqS (hr:=?_) | refine a_index (hr:=?_) | refine a_buildSlice (hr:=?_) | refine a_append (hr:=?_) | refine a_append0 (hr:=?_) | refine a_appendX (hr:=?_) | refine a_gT (hr:=?_) | refine a_gF (hr:=?_) | refine a_gU (hr:=?_))
 | (with_reducible refine a_gB (hT := ?_) (hF := ?_) <;> intro hb <;> (try simp at hb) <;> (try contradiction) <;> (try subst hb) <;> (try omega))
 | fail)
    all_goals ((refine zzr hQ ?_))
    all_goals (exact zzd)
/-- A value as a text. -/
def prtL (k n : Int) (s : ByteArray) : List Int := if k = 1 then digs10 n else if k = 2 then (if n = 0 then [102, 97, 108, 115, 101] else [116, 114, 117, 101]) else if k = 3 then quoQ (bytesOf s) else [110, 111, 110, 101]
def prtS (k n : Int) (s : ByteArray) : ByteArray := strOfNums (prtL k n s)
theorem c_Print (k n : Int) (s : ByteArray) (hn : -9223372036854775808 ≤ n ∧ n < 9223372036854775808) (hs : s.size ≤ 1000000) : CallD Tryd.prog 48 [valAV k n s] noHeap (.raw (.string (prtS k n s))) noHeap := by
  have h1 := c_VNumber n hn.1 hn.2
  have h2 := c_quote s hs
  unfold prtS prtL
  by_cases k1 : k = 1
  · subst k1
    rw [if_pos rfl]
    refine zzg (nt := 20) (rs := [.tmp 2]) Tryd.func48 ?_; intro Q hQ hW
    repeat' (first
 | (with_reducible refine run_n ?_; with_reducible first | refine hK _ _ (by simp) ?_ | refine hK _ _ ?_; clear hK K)
 | (refine zzc ?_)
 | (with_reducible refine awp_regT (by kernel_rfl) ?_; intro K hK)
 | (with_reducible refine a_cond (ht := ?_) (hf := ?_) <;> intro hb <;> (try simp at hb) <;> (try contradiction) <;> (try subst hb) <;> (try omega))
 | (with_reducible first | refine a_assign (hr:=?_) | refine a_load (hr:=?_) | refine a_fieldAddr (hr:=?_) | refine a_bin (hr:=?_) | refine a_box (hr:=?_) | refine a_eqB (hr:=?_) | refine a_neB (hr:=?_) | refine a_eqS (hr:=?_) | refine a_neS (hr:=?_) | refine a_call0 (hcall := h1) (hr:=?_) | refine a_call0 (hcall := h2) (hr:=?_))
 | fail)
    all_goals ((refine zzr hQ ?_))
    all_goals (exact zzd)
  rw [if_neg k1]
  by_cases k2 : k = 2
  · subst k2
    rw [if_pos rfl]
    have e1 : strOfNums [102, 97, 108, 115, 101] = ⟨#[102, 97, 108, 115, 101]⟩ := rfl
    have e2 : strOfNums [116, 114, 117, 101] = ⟨#[116, 114, 117, 101]⟩ := rfl
    by_cases n0 : n = 0
    · subst n0
      rw [if_pos rfl, e1]
      refine zzg (nt := 20) (rs := [.tmp 2]) Tryd.func48 ?_; intro Q hQ hW
      repeat' (first
 | (with_reducible refine run_n ?_; with_reducible first | refine hK _ _ (by simp) ?_ | refine hK _ _ ?_; clear hK K)
 | (refine zzc ?_)
 | (with_reducible refine awp_regT (by kernel_rfl) ?_; intro K hK)
 | (with_reducible refine a_cond (ht := ?_) (hf := ?_) <;> intro hb <;> (try simp at hb) <;> (try contradiction) <;> (try subst hb) <;> (try omega))
 | (with_reducible first | refine a_assign (hr:=?_) | refine a_load (hr:=?_) | refine a_fieldAddr (hr:=?_) | refine a_bin (hr:=?_) | refine a_box (hr:=?_) | refine a_eqB (hr:=?_) | refine a_neB (hr:=?_) | refine a_eqS (hr:=?_) | refine a_neS (hr:=?_) | refine a_call0 (hcall := h1) (hr:=?_) | refine a_call0 (hcall := h2) (hr:=?_))
 | fail)
      all_goals ((refine zzr hQ ?_))
      all_goals (exact zzd)
    · rw [if_neg n0, e2]
      refine zzg (nt := 20) (rs := [.tmp 2]) Tryd.func48 ?_; intro Q hQ hW
      repeat' (first
 | (with_reducible refine run_n ?_; with_reducible first | refine hK _ _ (by simp) ?_ | refine hK _ _ ?_; clear hK K)
 | (refine zzc ?_)
 | (with_reducible refine awp_regT (by kernel_rfl) ?_; intro K hK)
 | (with_reducible refine a_cond (ht := ?_) (hf := ?_) <;> intro hb <;> (try simp at hb) <;> (try contradiction) <;> (try subst hb) <;> (try omega))
 | (with_reducible first | refine a_assign (hr:=?_) | refine a_load (hr:=?_) | refine a_fieldAddr (hr:=?_) | refine a_bin (hr:=?_) | refine a_box (hr:=?_) | refine a_eqB (hr:=?_) | refine a_neB (hr:=?_) | refine a_eqS (hr:=?_) | refine a_neS (hr:=?_) | refine a_call0 (hcall := h1) (hr:=?_) | refine a_call0 (hcall := h2) (hr:=?_))
 | fail)
      all_goals ((refine zzr hQ ?_))
      all_goals (exact zzd)
  rw [if_neg k2]
  by_cases k3 : k = 3
  · subst k3
    rw [if_pos rfl]
    refine zzg (nt := 20) (rs := [.tmp 2]) Tryd.func48 ?_; intro Q hQ hW
    repeat' (first
 | (with_reducible refine run_n ?_; with_reducible first | refine hK _ _ (by simp) ?_ | refine hK _ _ ?_; clear hK K)
 | (refine zzc ?_)
 | (with_reducible refine awp_regT (by kernel_rfl) ?_; intro K hK)
 | (with_reducible refine a_cond (ht := ?_) (hf := ?_) <;> intro hb <;> (try simp at hb) <;> (try contradiction) <;> (try subst hb) <;> (try omega))
 | (with_reducible first | refine a_assign (hr:=?_) | refine a_load (hr:=?_) | refine a_fieldAddr (hr:=?_) | refine a_bin (hr:=?_) | refine a_box (hr:=?_) | refine a_eqB (hr:=?_) | refine a_neB (hr:=?_) | refine a_eqS (hr:=?_) | refine a_neS (hr:=?_) | refine a_call0 (hcall := h1) (hr:=?_) | refine a_call0 (hcall := h2) (hr:=?_))
 | fail)
    all_goals ((refine zzr hQ ?_))
    all_goals (exact zzd)
  rw [if_neg k3, show strOfNums [110, 111, 110, 101] = ⟨#[110, 111, 110, 101]⟩ from rfl]
  refine zzg (nt := 20) (rs := [.tmp 2]) Tryd.func48 ?_; intro Q hQ hW
  repeat' (first
 | (with_reducible refine run_n ?_; with_reducible first | refine hK _ _ (by simp) ?_ | refine hK _ _ ?_; clear hK K)
 | (refine zzc ?_)
 | (with_reducible refine awp_regT (by kernel_rfl) ?_; intro K hK)
 | (with_reducible refine a_cond (ht := ?_) (hf := ?_) <;> intro hb <;> (try simp at hb) <;> (try contradiction) <;> (try subst hb) <;> (try omega))
 | (with_reducible first | refine a_assign (hr:=?_) | refine a_load (hr:=?_) | refine a_fieldAddr (hr:=?_) | refine a_bin (hr:=?_) | refine a_box (hr:=?_) | refine a_eqB (hr:=?_) | refine a_neB (hr:=?_) | refine a_eqS (hr:=?_) | refine a_neS (hr:=?_) | refine a_call0 (hcall := h1) (hr:=?_) | refine a_call0 (hcall := h2) (hr:=?_))
 | fail)
  all_goals ((refine zzr hQ ?_))
  all_goals (exact zzd)
end Go.Proofs.YtejeemhenoobjaaDoor.Asl

namespace Go.Proofs.YtejeemhenoobjaaDoor.Asl
open Go Go.RowKit
open Go.Proofs.YtejeemhenoobjaaDoor.Errs (EV)
set_option linter.unusedVariables false
set_option linter.unusedSimpArgs false
set_option maxRecDepth 100000
set_option maxHeartbeats 8000000
theorem Fin.frzK {h g : Hp} {r r' : AV} (hg : Is (frzA h (AV.rowsOf r)) g) (hr : Is (r.deep g) r') : Fin h r (deepH g) r' := by
  have := Weak.frz (e := E1 r) (h := h) [r]
  rw [show AV.rowsOfs [r] = AV.rowsOf r by simp [AV.rowsOfs], hg] at this
  have e : (fun t => (E1 r t).deep g) = E1 r' := by
    funext t
    unfold E1
    split
    · exact hr
    · rfl
  rw [e] at this
  exact this
theorem Fin.nilS {h : Hp} {sz : Nat} : Fin h (.raw (.slice none 0 0)) h (.sl sz []) := Fin.imp fun C v hv => by rw [RV.raw_eq hv]; exact .sl0
theorem bigIn_deep {g m : Hp} (h : BigIn g m) : BigIn (deepH g) m := fun id hid h0 => by simp only [deepH, h id hid h0]; rfl
theorem fin_rowL {α : Type} {f : α → AV} [FlatF f] {sz : Nat} {out : List α} {x : Option EV} {bs : List Int} {a : Nat} {e : Int} : Fin (ohp 60 sz (out.map f) (hpL [(100001, .box (.agg [.ptr 100000 0, errO x])), (100000, .box (rdAV bs a e))])) (orow 60 sz (out.map f)) (wr2H x bs a e) (.sl sz (out.map f)) := by
  unfold wr2H
  by_cases h : out = []
  · subst h
    rw [List.map_nil, ohp_nil (by simp), orow_nil]
    exact Fin.nilS
  · have hm : out.map f ≠ [] := by simpa using h
    rw [ohp_ne hm, orow_ne hm]
    refine (Fin.frzK (r' := .sl sz (out.map f)) (by (simp; exact .r)) (by (simp [List.take_of_length_le]; exact .r))).trans ?_
    exact Fin.keepL (hm := by simp [deepH, Ob.deep]) (hb := bigIn_deep (by simp))
/-- The place of one of a list. -/
def placeT (w : ByteArray) (i : Nat) : ByteArray := w ++ ⟨#[32]⟩ ++ prtS 1 i ⟨#[]⟩
theorem atE_none (p : ByteArray) (c : Int) : atE none p c = if c = 0 then none else some (.wrap p (.code c)) := by
  unfold atE ofE
  split <;> rfl
def listN (w : ByteArray) (most : Int) (s : RSt) (x : Option EV) : List NodeV × RSt × Option EV :=
  if atE x (w ++ ⟨#[115]⟩) (sU most s).2.2 = none then ((nodesS (sU most s).1.toNat 0 (sU most s).2 []).1, (nodesS (sU most s).1.toNat 0 (sU most s).2 []).2.2, (nodesS (sU most s).1.toNat 0 (sU most s).2 []).2.1.map fun p => .wrap (placeT w p.1) (.code p.2)) else ([], (sU most s).2, atE x (w ++ ⟨#[115]⟩) (sU most s).2.2)
structure ListIN (bs : List Int) (w : ByteArray) (k : Nat) (s1 : RSt) (x1 : Option EV) (i a : Nat) (s : RSt) (out : List NodeV) (x : Option EV) : Prop where
  le : i ≤ k
  at_ : At bs a s.1
  go : x = none → x1 = none ∧ nodesS (k - i) i s out = nodesS k 0 s1 []
  stop : ∀ y, x = some y → (x1 = none ∧ ∃ j c, nodesS k 0 s1 [] = (out, some (j, c), s) ∧ y = .wrap (placeT w j) (.code c)) ∨ (x1 = some y ∧ i = 0 ∧ out = [] ∧ s = s1)
  len : out.length = i
theorem ListIN.next {bs : List Int} {w : ByteArray} {k : Nat} {s1 : RSt} {x1 : Option EV} {i a : Nat} {s : RSt} {out : List NodeV} (g : ListIN bs w k s1 x1 i a s out none) (hlt : i < k) {a' : Nat} (ha : At bs a' (nodeS s).2.2.1) : ListIN bs w k s1 x1 (i + 1) a' (nodeS s).2.2 (out ++ [(nodeS s).1]) (atE none (placeT w i) (wrE (nodeS s).2.1 (nodeS s).2.2.2)) := by
  have hg := g.go rfl
  have hs := hg.2
  rw [show k - i = (k - (i + 1)) + 1 by omega, nodesS] at hs
  refine ⟨hlt, ha, ?_, ?_, by simp [g.len]⟩
  · intro hx
    rw [atE_none] at hx
    refine ⟨hg.1, ?_⟩
    by_cases hc : wrE (nodeS s).2.1 (nodeS s).2.2.2 = 0
    · rw [if_neg (by simpa using hc)] at hs; exact hs
    · rw [if_neg hc] at hx; cases hx
  · intro y hy
    rw [atE_none] at hy
    refine Or.inl ⟨hg.1, ?_⟩
    by_cases hc : wrE (nodeS s).2.1 (nodeS s).2.2.2 = 0
    · rw [if_pos hc] at hy; cases hy
    · rw [if_neg hc] at hy
      rw [if_pos hc] at hs
      exact ⟨_, _, hs.symm, by cases hy; rfl⟩
theorem ListIN.last {bs : List Int} {w : ByteArray} {most : Int} {s0 : RSt} {x0 : Option EV} {i a : Nat} {s : RSt} {out : List NodeV} {x : Option EV} (g : ListIN bs w (sU most s0).1.toNat (sU most s0).2 (atE x0 (w ++ ⟨#[115]⟩) (sU most s0).2.2) i a s out x) (h : x = none → (sU most s0).1.toNat ≤ i) : listN w most s0 x0 = (out, s, x) := by
  unfold listN
  cases x with
  | none =>
    have hg := g.go rfl
    rw [show (sU most s0).1.toNat - i = 0 by have := h rfl; omega, nodesS] at hg
    rw [if_pos hg.1, ← hg.2]; rfl
  | some y =>
    rcases g.stop y rfl with ⟨h1, j, c, h2, h3⟩ | ⟨h1, h2, h3, h4⟩
    · rw [if_pos h1, h2, h3]; rfl
    · rw [if_neg (by rw [h1]; simp), h1, h3, h4]
theorem At.pos {bs : List Int} {a : Nat} {l : List Int} (h : At bs a l) : a = bs.length - l.length := by
  have := h.le
  rw [← h.eq, List.length_drop]; omega
theorem nodes_at {bs : List Int} : ∀ (k i : Nat) (s : RSt) (out : List NodeV) (a : Nat), At bs a s.1 → ∃ a', At bs a' (nodesS k i s out).2.2.1
  | 0, _, s, _, a, h => ⟨a, h⟩
  | k + 1, i, s, out, a, h => by
    obtain ⟨a1, h1, _⟩ := c_wnode h s.2 none ⟨#[]⟩
    rw [nodesS]
    split
    · exact ⟨a1, h1⟩
    · exact nodes_at k (i + 1) _ _ a1 h1
theorem listN_at {bs : List Int} {a : Nat} {l : List Int} (h : At bs a l) (e : Int) (x : Option EV) (w : ByteArray) (most : Int) (hm : 0 ≤ most ∧ most ≤ 1000000) : ∃ a', At bs a' (listN w most (l, e) x).2.1.1 := by
  obtain ⟨a1, g1, _⟩ := c_wrnum h e x most hm
  unfold listN
  split
  · exact nodes_at _ _ _ _ a1 g1
  · exact ⟨a1, g1⟩
theorem c_wlistN {bs : List Int} {a : Nat} {l : List Int} (h : At bs a l) (e : Int) (x : Option EV) (w : ByteArray) (hw : w.size ≤ 1000) (most : Int) (hm : 0 ≤ most ∧ most ≤ 1000000) : ∃ a', At bs a' (listN w most (l, e) x).2.1.1 ∧ CallD Tryd.prog 26 [.ptr 100001 0, .raw (.string w), .raw (.int .i64 most), .fn (.func (27)) [.ptr 100001 0] []] (wr2H x bs a e) (.sl 8 ((listN w most (l, e) x).1.map nodeAV)) (wr2H (listN w most (l, e) x).2.2 bs a' (listN w most (l, e) x).2.1.2) := by
  obtain ⟨aR, hat⟩ := listN_at h e x w most hm
  refine ⟨aR, hat, ?_⟩
  have hpos := hat.pos
  clear hat
  obtain ⟨a1, g1, k1⟩ := c_wrnum h e x most hm
  have w1 := r_U h.b e (most := most) (by omega)
  have k2 := c_Err bs a1 (sU most (l, e)).2.2
  have k3 := c_fails x (w ++ ⟨#[115]⟩) (sU most (l, e)).2.2 bs a1 (sU most (l, e)).2.2
  have hlast : ∀ i a' s out x', ListIN bs w (sU most (l, e)).1.toNat (sU most (l, e)).2 (atE x (w ++ ⟨#[115]⟩) (sU most (l, e)).2.2) i a' s out x' → (x' = none → (sU most (l, e)).1.toNat ≤ i) → listN w most (l, e) x = (out, s, x') := fun i a' s out x' g h => ListIN.last g h
  generalize listN w most (l, e) x = res at hlast hpos ⊢
  have start : ListIN bs w (sU most (l, e)).1.toNat (sU most (l, e)).2 (atE x (w ++ ⟨#[115]⟩) (sU most (l, e)).2.2) 0 a1 (sU most (l, e)).2 [] (atE x (w ++ ⟨#[115]⟩) (sU most (l, e)).2.2) := by
    refine ⟨Nat.zero_le _, g1, fun h => ⟨h, by rw [Nat.sub_zero]⟩, fun y h => Or.inr ⟨h, rfl, rfl, rfl⟩, rfl⟩
  generalize atE x (w ++ ⟨#[115]⟩) (sU most (l, e)).2.2 = x1 at hlast start k3
  generalize sU most (l, e) = s0 at hlast start k1 k2 k3 w1
  obtain ⟨n, l1, e1⟩ := s0
  simp only at hlast start k1 k2 k3 w1
  obtain ⟨k, rfl⟩ : ∃ k : Nat, n = k := ⟨n.toNat, by omega⟩
  simp only [Int.toNat_natCast] at hlast start
  have hkm : k ≤ 1000000 := by omega
  clear g1 h
  refine calls_go (nt := 48) (rs := [.tmp 8]) Tryd.func26 rfl rfl rfl (by simp) (hbig_hpL (by simp)) ?_; intro Q hQ hW
  unfold wr2H
  repeat' (first
 | (with_reducible refine run_n ?_; with_reducible first | refine hK _ _ (by simp) ?_ | refine hK _ _ ?_; clear hK K)
 | (refine zzc ?_)
 | (with_reducible refine awp_regT (by kernel_rfl) ?_; intro K hK)
 | (with_reducible refine a_cond (ht := ?_) (hf := ?_) <;> intro hb <;> (try simp at hb) <;> (try contradiction) <;> (try subst hb) <;> (try omega))
 | (with_reducible first | refine a_move (hr:=?_) | refine a_assign (hr:=?_) | refine a_load (hr:=?_) | refine a_fieldAddr (hr:=?_) | refine a_nilCheck (hr:=?_) | refine a_bin (hr:=?_) | refine a_pick (hr:=?_) | refine a_eqI (hr:=?_) | refine a_neI (hr:=?_) | refine a_eqB (hr:=?_) | refine a_eqS (hr:=?_) | refine a_buildSlice (hr:=?_) | refine a_append (hr:=?_) | refine a_append0 (hr:=?_) | refine a_appendX (hr:=?_) | refine a_callM (p := 100001) (k := 100000) (q := 100000) (hcall := k1) (hr:=?_) | refine a_callP (p := 100000) (hcall := k2) (hr:=?_) | refine a_callM (p := 100001) (k := 100000) (q := 100000) (hcall := k3) (hr:=?_) | refine a_gT (hr:=?_) | refine a_gF (hr:=?_) | refine a_gU (hr:=?_))
 | (with_reducible refine a_gB (hT := ?_) (hF := ?_) <;> intro hb <;> (try simp at hb) <;> (try contradiction) <;> (try subst hb) <;> (try omega))
 | fail)
  refine awp_inv (α := Nat × Nat × RSt × List NodeV × Option EV) (fun s => [(0, .ptr 100001 0), (1, .raw (.string w)), (3, .fn (.func (27)) [.ptr 100001 0] []), (9, .raw (.int .i64 k)), (10, orow 60 8 (s.2.2.2.1.map nodeAV)), (11, .raw (.int .i64 s.1))]) (fun s => ohp 60 8 (s.2.2.2.1.map nodeAV) (hpL [(100001, .box (.agg [.ptr 100000 0, errO s.2.2.2.2])), (100000, .box (rdAV bs s.2.1 s.2.2.1.2))])) (fun s => ListIN bs w k (l1, e1) x1 s.1 s.2.1 s.2.2.1 s.2.2.2.1 s.2.2.2.2) (fun s => k - s.1) (0, a1, (l1, e1), [], x1) start (zzw) ?_
  clear start k1 k2 k3
  rintro ⟨i, a2, ⟨l2, e2⟩, out, y⟩ g
  simp only at g ⊢
  have gl := g.len
  have gle := g.le
  have fin : (y = none → k ≤ i) → res = (out, (l2, e2), y) ∧ aR = a2 := fun hy => by
    have h1 := hlast i a2 (l2, e2) out y g hy
    refine ⟨h1, ?_⟩
    rw [h1] at hpos
    rw [hpos, g.at_.pos]
  cases y with
  | none =>
    rcases Nat.lt_or_ge i k with hlt | hge
    · obtain ⟨a3, h3, c3⟩ := c_wnode g.at_ e2 none (placeT w i)
      have gn := g.next hlt h3
      have v1 := c_VInt i
      have v2 := c_Print 1 i ⟨#[]⟩ (by omega) (by decide)
      have hps : (prtS 1 i ⟨#[]⟩).size ≤ 1000 := by
        have := digs10_size i
        show (strOfNums (prtL 1 i ⟨#[]⟩)).size ≤ 1000
        rw [show prtL 1 i ⟨#[]⟩ = digs10 i from if_pos rfl]
        omega
      unfold placeT at gn c3
      generalize prtS 1 i ⟨#[]⟩ = pp at *
      generalize atE none (w ++ ⟨#[32]⟩ ++ pp) (wrE (nodeS (l2, e2)).2.1 (nodeS (l2, e2)).2.2.2) = y2 at gn c3
      generalize nodeS (l2, e2) = r at gn h3 c3
      obtain ⟨v, cc, l3, e3⟩ := r
      simp only at gn h3 c3
      clear fin hlast g hpos
      repeat' (first
 | (with_reducible refine run_n ?_; with_reducible first | refine hK _ _ (by simp) ?_ | refine hK _ _ ?_; clear hK K)
 | (refine zzc ?_)
 | (with_reducible refine awp_regT (by kernel_rfl) ?_; intro K hK)
 | (with_reducible refine a_cond (ht := ?_) (hf := ?_) <;> intro hb <;> (try simp at hb) <;> (try contradiction) <;> (try subst hb) <;> (try omega))
 | (with_reducible first | refine a_move (hr:=?_) | refine a_assign (hr:=?_) | refine a_load (hr:=?_) | refine a_fieldAddr (hr:=?_) | refine a_nilCheck (hr:=?_) | refine a_bin (hr:=?_) | refine a_pick (hr:=?_) | refine a_eqI (hr:=?_) | refine a_neI (hr:=?_) | refine a_eqB (hr:=?_) | refine a_eqS (hr:=?_) | refine a_buildSlice (hr:=?_) | refine a_append (hr:=?_) | refine a_append0 (hr:=?_) | refine a_appendX (hr:=?_) | refine a_call0 (hcall := v1) (hr:=?_) | refine a_call0 (hcall := v2) (hr:=?_) | refine a_callM (p := 100001) (k := 100000) (q := 100000) (hcall := c3) (hr:=?_) | refine a_gT (hr:=?_) | refine a_gF (hr:=?_) | refine a_gU (hr:=?_))
 | (with_reducible refine a_gB (hT := ?_) (hF := ?_) <;> intro hb <;> (try simp at hb) <;> (try contradiction) <;> (try subst hb) <;> (try omega))
 | fail)
      exact ⟨(i + 1, a3, (l3, e3), out ++ [v], y2), by simp only; omega, gn, by rw [List.map_append]; exact zzx 60 46⟩
    · obtain ⟨hr, ha⟩ := fin fun _ => hge
      subst hr ha
      clear fin hlast hpos g
      repeat' (first
 | (with_reducible refine run_n ?_; with_reducible first | refine hK _ _ (by simp) ?_ | refine hK _ _ ?_; clear hK K)
 | (refine zzc ?_)
 | (with_reducible refine awp_regT (by kernel_rfl) ?_; intro K hK)
 | (with_reducible refine a_cond (ht := ?_) (hf := ?_) <;> intro hb <;> (try simp at hb) <;> (try contradiction) <;> (try subst hb) <;> (try omega))
 | (with_reducible first | refine a_move (hr:=?_) | refine a_assign (hr:=?_) | refine a_load (hr:=?_) | refine a_fieldAddr (hr:=?_) | refine a_nilCheck (hr:=?_) | refine a_bin (hr:=?_) | refine a_pick (hr:=?_) | refine a_eqI (hr:=?_) | refine a_neI (hr:=?_) | refine a_eqB (hr:=?_) | refine a_eqS (hr:=?_) | refine a_buildSlice (hr:=?_) | refine a_append (hr:=?_) | refine a_append0 (hr:=?_) | refine a_appendX (hr:=?_) | refine a_gT (hr:=?_) | refine a_gF (hr:=?_) | refine a_gU (hr:=?_))
 | (with_reducible refine a_gB (hT := ?_) (hF := ?_) <;> intro hb <;> (try simp at hb) <;> (try contradiction) <;> (try subst hb) <;> (try omega))
 | fail)
      all_goals ((refine zzr hQ ?_))
      all_goals (exact fin_rowL)
  | some y =>
    obtain ⟨hr, ha⟩ := fin fun h => by cases h
    subst hr ha
    clear fin hlast hpos g
    repeat' (first
 | (with_reducible refine run_n ?_; with_reducible first | refine hK _ _ (by simp) ?_ | refine hK _ _ ?_; clear hK K)
 | (refine zzc ?_)
 | (with_reducible refine awp_regT (by kernel_rfl) ?_; intro K hK)
 | (with_reducible refine a_cond (ht := ?_) (hf := ?_) <;> intro hb <;> (try simp at hb) <;> (try contradiction) <;> (try subst hb) <;> (try omega))
 | (with_reducible first | refine a_move (hr:=?_) | refine a_assign (hr:=?_) | refine a_load (hr:=?_) | refine a_fieldAddr (hr:=?_) | refine a_nilCheck (hr:=?_) | refine a_bin (hr:=?_) | refine a_pick (hr:=?_) | refine a_eqI (hr:=?_) | refine a_neI (hr:=?_) | refine a_eqB (hr:=?_) | refine a_eqS (hr:=?_) | refine a_buildSlice (hr:=?_) | refine a_append (hr:=?_) | refine a_append0 (hr:=?_) | refine a_appendX (hr:=?_) | refine a_gT (hr:=?_) | refine a_gF (hr:=?_) | refine a_gU (hr:=?_))
 | (with_reducible refine a_gB (hT := ?_) (hF := ?_) <;> intro hb <;> (try simp at hb) <;> (try contradiction) <;> (try subst hb) <;> (try omega))
 | fail)
    all_goals ((refine zzr hQ ?_))
    all_goals (exact fin_rowL)
end Go.Proofs.YtejeemhenoobjaaDoor.Asl

namespace Go.Proofs.YtejeemhenoobjaaDoor.Asl
open Go Go.RowKit
open Go.Proofs.YtejeemhenoobjaaDoor.Errs (EV)
set_option linter.unusedVariables false
set_option linter.unusedSimpArgs false
set_option maxRecDepth 100000
set_option maxHeartbeats 8000000
def listF (w : ByteArray) (most : Int) (s : RSt) (x : Option EV) : List FlowV × RSt × Option EV :=
  if atE x (w ++ ⟨#[115]⟩) (sU most s).2.2 = none then ((flowsS (sU most s).1.toNat 0 (sU most s).2 []).1, (flowsS (sU most s).1.toNat 0 (sU most s).2 []).2.2, (flowsS (sU most s).1.toNat 0 (sU most s).2 []).2.1.map fun p => .wrap (placeT w p.1) (.code p.2)) else ([], (sU most s).2, atE x (w ++ ⟨#[115]⟩) (sU most s).2.2)
structure ListIF (bs : List Int) (w : ByteArray) (k : Nat) (s1 : RSt) (x1 : Option EV) (i a : Nat) (s : RSt) (out : List FlowV) (x : Option EV) : Prop where
  le : i ≤ k
  at_ : At bs a s.1
  go : x = none → x1 = none ∧ flowsS (k - i) i s out = flowsS k 0 s1 []
  stop : ∀ y, x = some y → (x1 = none ∧ ∃ j c, flowsS k 0 s1 [] = (out, some (j, c), s) ∧ y = .wrap (placeT w j) (.code c)) ∨ (x1 = some y ∧ i = 0 ∧ out = [] ∧ s = s1)
  len : out.length = i
theorem ListIF.next {bs : List Int} {w : ByteArray} {k : Nat} {s1 : RSt} {x1 : Option EV} {i a : Nat} {s : RSt} {out : List FlowV} (g : ListIF bs w k s1 x1 i a s out none) (hlt : i < k) {a' : Nat} (ha : At bs a' (flowS s).2.2.1) : ListIF bs w k s1 x1 (i + 1) a' (flowS s).2.2 (out ++ [(flowS s).1]) (atE none (placeT w i) (wrE (flowS s).2.1 (flowS s).2.2.2)) := by
  have hg := g.go rfl
  have hs := hg.2
  rw [show k - i = (k - (i + 1)) + 1 by omega, flowsS] at hs
  refine ⟨hlt, ha, ?_, ?_, by simp [g.len]⟩
  · intro hx
    rw [atE_none] at hx
    refine ⟨hg.1, ?_⟩
    by_cases hc : wrE (flowS s).2.1 (flowS s).2.2.2 = 0
    · rw [if_neg (by simpa using hc)] at hs; exact hs
    · rw [if_neg hc] at hx; cases hx
  · intro y hy
    rw [atE_none] at hy
    refine Or.inl ⟨hg.1, ?_⟩
    by_cases hc : wrE (flowS s).2.1 (flowS s).2.2.2 = 0
    · rw [if_pos hc] at hy; cases hy
    · rw [if_neg hc] at hy
      rw [if_pos hc] at hs
      exact ⟨_, _, hs.symm, by cases hy; rfl⟩
theorem ListIF.last {bs : List Int} {w : ByteArray} {most : Int} {s0 : RSt} {x0 : Option EV} {i a : Nat} {s : RSt} {out : List FlowV} {x : Option EV} (g : ListIF bs w (sU most s0).1.toNat (sU most s0).2 (atE x0 (w ++ ⟨#[115]⟩) (sU most s0).2.2) i a s out x) (h : x = none → (sU most s0).1.toNat ≤ i) : listF w most s0 x0 = (out, s, x) := by
  unfold listF
  cases x with
  | none =>
    have hg := g.go rfl
    rw [show (sU most s0).1.toNat - i = 0 by have := h rfl; omega, flowsS] at hg
    rw [if_pos hg.1, ← hg.2]; rfl
  | some y =>
    rcases g.stop y rfl with ⟨h1, j, c, h2, h3⟩ | ⟨h1, h2, h3, h4⟩
    · rw [if_pos h1, h2, h3]; rfl
    · rw [if_neg (by rw [h1]; simp), h1, h3, h4]
theorem flows_at {bs : List Int} : ∀ (k i : Nat) (s : RSt) (out : List FlowV) (a : Nat), At bs a s.1 → ∃ a', At bs a' (flowsS k i s out).2.2.1
  | 0, _, s, _, a, h => ⟨a, h⟩
  | k + 1, i, s, out, a, h => by
    obtain ⟨a1, h1, _⟩ := c_wflow h s.2 none ⟨#[]⟩
    rw [flowsS]
    split
    · exact ⟨a1, h1⟩
    · exact flows_at k (i + 1) _ _ a1 h1
theorem listF_at {bs : List Int} {a : Nat} {l : List Int} (h : At bs a l) (e : Int) (x : Option EV) (w : ByteArray) (most : Int) (hm : 0 ≤ most ∧ most ≤ 1000000) : ∃ a', At bs a' (listF w most (l, e) x).2.1.1 := by
  obtain ⟨a1, g1, _⟩ := c_wrnum h e x most hm
  unfold listF
  split
  · exact flows_at _ _ _ _ a1 g1
  · exact ⟨a1, g1⟩
theorem c_wlistF {bs : List Int} {a : Nat} {l : List Int} (h : At bs a l) (e : Int) (x : Option EV) (w : ByteArray) (hw : w.size ≤ 1000) (most : Int) (hm : 0 ≤ most ∧ most ≤ 1000000) : ∃ a', At bs a' (listF w most (l, e) x).2.1.1 ∧ CallD Tryd.prog 28 [.ptr 100001 0, .raw (.string w), .raw (.int .i64 most), .fn (.func (29)) [.ptr 100001 0] []] (wr2H x bs a e) (.sl 4 ((listF w most (l, e) x).1.map flowAV)) (wr2H (listF w most (l, e) x).2.2 bs a' (listF w most (l, e) x).2.1.2) := by
  obtain ⟨aR, hat⟩ := listF_at h e x w most hm
  refine ⟨aR, hat, ?_⟩
  have hpos := hat.pos
  clear hat
  obtain ⟨a1, g1, k1⟩ := c_wrnum h e x most hm
  have w1 := r_U h.b e (most := most) (by omega)
  have k2 := c_Err bs a1 (sU most (l, e)).2.2
  have k3 := c_fails x (w ++ ⟨#[115]⟩) (sU most (l, e)).2.2 bs a1 (sU most (l, e)).2.2
  have hlast : ∀ i a' s out x', ListIF bs w (sU most (l, e)).1.toNat (sU most (l, e)).2 (atE x (w ++ ⟨#[115]⟩) (sU most (l, e)).2.2) i a' s out x' → (x' = none → (sU most (l, e)).1.toNat ≤ i) → listF w most (l, e) x = (out, s, x') := fun i a' s out x' g h => ListIF.last g h
  generalize listF w most (l, e) x = res at hlast hpos ⊢
  have start : ListIF bs w (sU most (l, e)).1.toNat (sU most (l, e)).2 (atE x (w ++ ⟨#[115]⟩) (sU most (l, e)).2.2) 0 a1 (sU most (l, e)).2 [] (atE x (w ++ ⟨#[115]⟩) (sU most (l, e)).2.2) := by
    refine ⟨Nat.zero_le _, g1, fun h => ⟨h, by rw [Nat.sub_zero]⟩, fun y h => Or.inr ⟨h, rfl, rfl, rfl⟩, rfl⟩
  generalize atE x (w ++ ⟨#[115]⟩) (sU most (l, e)).2.2 = x1 at hlast start k3
  generalize sU most (l, e) = s0 at hlast start k1 k2 k3 w1
  obtain ⟨n, l1, e1⟩ := s0
  simp only at hlast start k1 k2 k3 w1
  obtain ⟨k, rfl⟩ : ∃ k : Nat, n = k := ⟨n.toNat, by omega⟩
  simp only [Int.toNat_natCast] at hlast start
  have hkm : k ≤ 1000000 := by omega
  clear g1 h
  refine calls_go (nt := 48) (rs := [.tmp 8]) Tryd.func28 rfl rfl rfl (by simp) (hbig_hpL (by simp)) ?_; intro Q hQ hW
  unfold wr2H
  repeat' (first
 | (with_reducible refine run_n ?_; with_reducible first | refine hK _ _ (by simp) ?_ | refine hK _ _ ?_; clear hK K)
 | (refine zzc ?_)
 | (with_reducible refine awp_regT (by kernel_rfl) ?_; intro K hK)
 | (with_reducible refine a_cond (ht := ?_) (hf := ?_) <;> intro hb <;> (try simp at hb) <;> (try contradiction) <;> (try subst hb) <;> (try omega))
 | (with_reducible first | refine a_move (hr:=?_) | refine a_assign (hr:=?_) | refine a_load (hr:=?_) | refine a_fieldAddr (hr:=?_) | refine a_nilCheck (hr:=?_) | refine a_bin (hr:=?_) | refine a_pick (hr:=?_) | refine a_eqI (hr:=?_) | refine a_neI (hr:=?_) | refine a_eqB (hr:=?_) | refine a_eqS (hr:=?_) | refine a_buildSlice (hr:=?_) | refine a_append (hr:=?_) | refine a_append0 (hr:=?_) | refine a_appendX (hr:=?_) | refine a_callM (p := 100001) (k := 100000) (q := 100000) (hcall := k1) (hr:=?_) | refine a_callP (p := 100000) (hcall := k2) (hr:=?_) | refine a_callM (p := 100001) (k := 100000) (q := 100000) (hcall := k3) (hr:=?_) | refine a_gT (hr:=?_) | refine a_gF (hr:=?_) | refine a_gU (hr:=?_))
 | (with_reducible refine a_gB (hT := ?_) (hF := ?_) <;> intro hb <;> (try simp at hb) <;> (try contradiction) <;> (try subst hb) <;> (try omega))
 | fail)
  refine awp_inv (α := Nat × Nat × RSt × List FlowV × Option EV) (fun s => [(0, .ptr 100001 0), (1, .raw (.string w)), (3, .fn (.func (29)) [.ptr 100001 0] []), (9, .raw (.int .i64 k)), (10, orow 60 4 (s.2.2.2.1.map flowAV)), (11, .raw (.int .i64 s.1))]) (fun s => ohp 60 4 (s.2.2.2.1.map flowAV) (hpL [(100001, .box (.agg [.ptr 100000 0, errO s.2.2.2.2])), (100000, .box (rdAV bs s.2.1 s.2.2.1.2))])) (fun s => ListIF bs w k (l1, e1) x1 s.1 s.2.1 s.2.2.1 s.2.2.2.1 s.2.2.2.2) (fun s => k - s.1) (0, a1, (l1, e1), [], x1) start (zzw) ?_
  clear start k1 k2 k3
  rintro ⟨i, a2, ⟨l2, e2⟩, out, y⟩ g
  simp only at g ⊢
  have gl := g.len
  have gle := g.le
  have fin : (y = none → k ≤ i) → res = (out, (l2, e2), y) ∧ aR = a2 := fun hy => by
    have h1 := hlast i a2 (l2, e2) out y g hy
    refine ⟨h1, ?_⟩
    rw [h1] at hpos
    rw [hpos, g.at_.pos]
  cases y with
  | none =>
    rcases Nat.lt_or_ge i k with hlt | hge
    · obtain ⟨a3, h3, c3⟩ := c_wflow g.at_ e2 none (placeT w i)
      have gn := g.next hlt h3
      have v1 := c_VInt i
      have v2 := c_Print 1 i ⟨#[]⟩ (by omega) (by decide)
      have hps : (prtS 1 i ⟨#[]⟩).size ≤ 1000 := by
        have := digs10_size i
        show (strOfNums (prtL 1 i ⟨#[]⟩)).size ≤ 1000
        rw [show prtL 1 i ⟨#[]⟩ = digs10 i from if_pos rfl]
        omega
      unfold placeT at gn c3
      generalize prtS 1 i ⟨#[]⟩ = pp at *
      generalize atE none (w ++ ⟨#[32]⟩ ++ pp) (wrE (flowS (l2, e2)).2.1 (flowS (l2, e2)).2.2.2) = y2 at gn c3
      generalize flowS (l2, e2) = r at gn h3 c3
      obtain ⟨v, cc, l3, e3⟩ := r
      simp only at gn h3 c3
      clear fin hlast g hpos
      repeat' (first
 | (with_reducible refine run_n ?_; with_reducible first | refine hK _ _ (by simp) ?_ | refine hK _ _ ?_; clear hK K)
 | (refine zzc ?_)
 | (with_reducible refine awp_regT (by kernel_rfl) ?_; intro K hK)
 | (with_reducible refine a_cond (ht := ?_) (hf := ?_) <;> intro hb <;> (try simp at hb) <;> (try contradiction) <;> (try subst hb) <;> (try omega))
 | (with_reducible first | refine a_move (hr:=?_) | refine a_assign (hr:=?_) | refine a_load (hr:=?_) | refine a_fieldAddr (hr:=?_) | refine a_nilCheck (hr:=?_) | refine a_bin (hr:=?_) | refine a_pick (hr:=?_) | refine a_eqI (hr:=?_) | refine a_neI (hr:=?_) | refine a_eqB (hr:=?_) | refine a_eqS (hr:=?_) | refine a_buildSlice (hr:=?_) | refine a_append (hr:=?_) | refine a_append0 (hr:=?_) | refine a_appendX (hr:=?_) | refine a_call0 (hcall := v1) (hr:=?_) | refine a_call0 (hcall := v2) (hr:=?_) | refine a_callM (p := 100001) (k := 100000) (q := 100000) (hcall := c3) (hr:=?_) | refine a_gT (hr:=?_) | refine a_gF (hr:=?_) | refine a_gU (hr:=?_))
 | (with_reducible refine a_gB (hT := ?_) (hF := ?_) <;> intro hb <;> (try simp at hb) <;> (try contradiction) <;> (try subst hb) <;> (try omega))
 | fail)
      exact ⟨(i + 1, a3, (l3, e3), out ++ [v], y2), by simp only; omega, gn, by rw [List.map_append]; exact zzx 60 46⟩
    · obtain ⟨hr, ha⟩ := fin fun _ => hge
      subst hr ha
      clear fin hlast hpos g
      repeat' (first
 | (with_reducible refine run_n ?_; with_reducible first | refine hK _ _ (by simp) ?_ | refine hK _ _ ?_; clear hK K)
 | (refine zzc ?_)
 | (with_reducible refine awp_regT (by kernel_rfl) ?_; intro K hK)
 | (with_reducible refine a_cond (ht := ?_) (hf := ?_) <;> intro hb <;> (try simp at hb) <;> (try contradiction) <;> (try subst hb) <;> (try omega))
 | (with_reducible first | refine a_move (hr:=?_) | refine a_assign (hr:=?_) | refine a_load (hr:=?_) | refine a_fieldAddr (hr:=?_) | refine a_nilCheck (hr:=?_) | refine a_bin (hr:=?_) | refine a_pick (hr:=?_) | refine a_eqI (hr:=?_) | refine a_neI (hr:=?_) | refine a_eqB (hr:=?_) | refine a_eqS (hr:=?_) | refine a_buildSlice (hr:=?_) | refine a_append (hr:=?_) | refine a_append0 (hr:=?_) | refine a_appendX (hr:=?_) | refine a_gT (hr:=?_) | refine a_gF (hr:=?_) | refine a_gU (hr:=?_))
 | (with_reducible refine a_gB (hT := ?_) (hF := ?_) <;> intro hb <;> (try simp at hb) <;> (try contradiction) <;> (try subst hb) <;> (try omega))
 | fail)
      all_goals ((refine zzr hQ ?_))
      all_goals (exact fin_rowL)
  | some y =>
    obtain ⟨hr, ha⟩ := fin fun h => by cases h
    subst hr ha
    clear fin hlast hpos g
    repeat' (first
 | (with_reducible refine run_n ?_; with_reducible first | refine hK _ _ (by simp) ?_ | refine hK _ _ ?_; clear hK K)
 | (refine zzc ?_)
 | (with_reducible refine awp_regT (by kernel_rfl) ?_; intro K hK)
 | (with_reducible refine a_cond (ht := ?_) (hf := ?_) <;> intro hb <;> (try simp at hb) <;> (try contradiction) <;> (try subst hb) <;> (try omega))
 | (with_reducible first | refine a_move (hr:=?_) | refine a_assign (hr:=?_) | refine a_load (hr:=?_) | refine a_fieldAddr (hr:=?_) | refine a_nilCheck (hr:=?_) | refine a_bin (hr:=?_) | refine a_pick (hr:=?_) | refine a_eqI (hr:=?_) | refine a_neI (hr:=?_) | refine a_eqB (hr:=?_) | refine a_eqS (hr:=?_) | refine a_buildSlice (hr:=?_) | refine a_append (hr:=?_) | refine a_append0 (hr:=?_) | refine a_appendX (hr:=?_) | refine a_gT (hr:=?_) | refine a_gF (hr:=?_) | refine a_gU (hr:=?_))
 | (with_reducible refine a_gB (hT := ?_) (hF := ?_) <;> intro hb <;> (try simp at hb) <;> (try contradiction) <;> (try subst hb) <;> (try omega))
 | fail)
    all_goals ((refine zzr hQ ?_))
    all_goals (exact fin_rowL)
end Go.Proofs.YtejeemhenoobjaaDoor.Asl

namespace Go.Proofs.YtejeemhenoobjaaDoor.Asl
open Go Go.RowKit
open Go.Proofs.YtejeemhenoobjaaDoor.Errs (EV)
set_option linter.unusedVariables false
set_option linter.unusedSimpArgs false
set_option maxRecDepth 100000
set_option maxHeartbeats 4000000
@[simp] theorem min_3 (n : Nat) : min ((n : Int) + 1 + 1 + 1) 3 = 3 := by omega
theorem hd_ne {l m : List Int} (hB : IsB l) (hm : IsB m) (h : l ≠ m) {s : ByteArray} (hs : strOfNums m = s) : ¬ strOfNums l = s := fun e => h (strOf_inj hB hm (e.trans hs.symm))
theorem c_head (l : List Int) (hB : IsB l) (hl : l.length ≤ 4611686018427387903) : CallD Tryd.prog 19 [.sl 1 (u8s l)] noHeap (.raw (.int .i64 (headE l))) noHeap := by
  rcases l with _ | ⟨a, _ | ⟨b, _ | ⟨c, r⟩⟩⟩
  · refine zzg (nt := 18) (rs := [.tmp 2]) Tryd.func19 ?_; intro Q hQ hW
    repeat' (first
 | (with_reducible refine run_n ?_; with_reducible first | refine hK _ _ (by simp) ?_ | refine hK _ _ ?_; clear hK K)
 | (refine zzc ?_)
 | (with_reducible refine awp_regT (by kernel_rfl) ?_; intro K hK)
 | (with_reducible refine awp_regAM (id := 2) [] mixed (by kernel_rfl) (by kernel_rfl) ?_; intro K hK)
 | (with_reducible refine a_cond (ht := ?_) (hf := ?_) <;> intro hb <;> (try simp at hb) <;> (try contradiction) <;> (try subst hb) <;> (try omega))
 | (with_reducible first | refine a_move (hr:=?_) | refine a_assign (hr:=?_) | refine a_bin (hr:=?_) | refine a_lenS (hr:=?_) | refine a_lenR (hr:=?_) | refine a_neB (hr:=?_) | refine a_conv (hr:=?_) | refine a_bytesStr (hr:=?_) | refine a_strBytes (hr:=?_) | refine a_sameSl (hr:=?_) | refine a_sliceArr (hr:=?_) | refine a_neS (hr:=?_) | refine a_sliceS (hr:=?_) | refine a_sliceR (hr:=?_) | refine a_minC (hr:=?_))
 | fail)
    all_goals ((refine zzr hQ ?_))
    all_goals (exact zzd)
  · by_cases h : a = 98
    · obtain rfl := h
      rw [show headE ([98]) = 6 from rfl]
      clear hB
      refine zzg (nt := 18) (rs := [.tmp 2]) Tryd.func19 ?_; intro Q hQ hW
      repeat' (first
 | (with_reducible refine run_n ?_; with_reducible first | refine hK _ _ (by simp) ?_ | refine hK _ _ ?_; clear hK K)
 | (refine zzc ?_)
 | (with_reducible refine awp_regT (by kernel_rfl) ?_; intro K hK)
 | (with_reducible refine awp_regAM (id := 2) [] mixed (by kernel_rfl) (by kernel_rfl) ?_; intro K hK)
 | (with_reducible refine a_cond (ht := ?_) (hf := ?_) <;> intro hb <;> (try simp at hb) <;> (try contradiction) <;> (try subst hb) <;> (try omega))
 | (with_reducible first | refine a_move (hr:=?_) | refine a_assign (hr:=?_) | refine a_bin (hr:=?_) | refine a_lenS (hr:=?_) | refine a_lenR (hr:=?_) | refine a_neB (hr:=?_) | refine a_conv (hr:=?_) | refine a_bytesStr (hr:=?_) | refine a_strBytes (hr:=?_) | refine a_sameSl (hr:=?_) | refine a_sliceArr (hr:=?_) | refine a_neS (hr:=?_) | refine a_sliceS (hr:=?_) | refine a_sliceR (hr:=?_) | refine a_minC (hr:=?_))
 | fail)
      all_goals ((refine zzr hQ ?_))
      all_goals (exact zzd)
    · have hne : ¬ (⟨#[UInt8.ofNat a.toNat]⟩ : ByteArray) = (⟨#[98, 112, 49]⟩ : ByteArray).extract 0 1 := hd_ne (l := [a]) (m := [98]) (hB) (by intro x hx; simp at hx; omega) (by simpa using h) rfl
      rw [show headE ([a]) = 8 from if_neg h]
      clear hB
      refine zzg (nt := 18) (rs := [.tmp 2]) Tryd.func19 ?_; intro Q hQ hW
      repeat' (first
 | (with_reducible refine run_n ?_; with_reducible first | refine hK _ _ (by simp) ?_ | refine hK _ _ ?_; clear hK K)
 | (refine zzc ?_)
 | (with_reducible refine awp_regT (by kernel_rfl) ?_; intro K hK)
 | (with_reducible refine awp_regAM (id := 2) [] mixed (by kernel_rfl) (by kernel_rfl) ?_; intro K hK)
 | (with_reducible refine a_cond (ht := ?_) (hf := ?_) <;> intro hb <;> (try simp at hb) <;> (try contradiction) <;> (try subst hb) <;> (try omega))
 | (with_reducible first | refine a_move (hr:=?_) | refine a_assign (hr:=?_) | refine a_bin (hr:=?_) | refine a_lenS (hr:=?_) | refine a_lenR (hr:=?_) | refine a_neB (hr:=?_) | refine a_conv (hr:=?_) | refine a_bytesStr (hr:=?_) | refine a_strBytes (hr:=?_) | refine a_sameSl (hr:=?_) | refine a_sliceArr (hr:=?_) | refine a_neS (hr:=?_) | refine a_sliceS (hr:=?_) | refine a_sliceR (hr:=?_) | refine a_minC (hr:=?_))
 | fail)
      all_goals first
        | exact absurd (by assumption) hne
        | (((refine zzr hQ ?_)); exact zzd)
  · by_cases h : a = 98 ∧ b = 112
    · obtain ⟨rfl, rfl⟩ := h
      rw [show headE ([98, 112]) = 6 from rfl]
      clear hB
      refine zzg (nt := 18) (rs := [.tmp 2]) Tryd.func19 ?_; intro Q hQ hW
      repeat' (first
 | (with_reducible refine run_n ?_; with_reducible first | refine hK _ _ (by simp) ?_ | refine hK _ _ ?_; clear hK K)
 | (refine zzc ?_)
 | (with_reducible refine awp_regT (by kernel_rfl) ?_; intro K hK)
 | (with_reducible refine awp_regAM (id := 2) [] mixed (by kernel_rfl) (by kernel_rfl) ?_; intro K hK)
 | (with_reducible refine a_cond (ht := ?_) (hf := ?_) <;> intro hb <;> (try simp at hb) <;> (try contradiction) <;> (try subst hb) <;> (try omega))
 | (with_reducible first | refine a_move (hr:=?_) | refine a_assign (hr:=?_) | refine a_bin (hr:=?_) | refine a_lenS (hr:=?_) | refine a_lenR (hr:=?_) | refine a_neB (hr:=?_) | refine a_conv (hr:=?_) | refine a_bytesStr (hr:=?_) | refine a_strBytes (hr:=?_) | refine a_sameSl (hr:=?_) | refine a_sliceArr (hr:=?_) | refine a_neS (hr:=?_) | refine a_sliceS (hr:=?_) | refine a_sliceR (hr:=?_) | refine a_minC (hr:=?_))
 | fail)
      all_goals ((refine zzr hQ ?_))
      all_goals (exact zzd)
    · have hne : ¬ (⟨#[UInt8.ofNat a.toNat, UInt8.ofNat b.toNat]⟩ : ByteArray) = (⟨#[98, 112, 49]⟩ : ByteArray).extract 0 2 := hd_ne (l := [a, b]) (m := [98, 112]) (hB) (by intro x hx; simp at hx; omega) (by simpa using h) rfl
      rw [show headE ([a, b]) = 8 from if_neg h]
      clear hB
      refine zzg (nt := 18) (rs := [.tmp 2]) Tryd.func19 ?_; intro Q hQ hW
      repeat' (first
 | (with_reducible refine run_n ?_; with_reducible first | refine hK _ _ (by simp) ?_ | refine hK _ _ ?_; clear hK K)
 | (refine zzc ?_)
 | (with_reducible refine awp_regT (by kernel_rfl) ?_; intro K hK)
 | (with_reducible refine awp_regAM (id := 2) [] mixed (by kernel_rfl) (by kernel_rfl) ?_; intro K hK)
 | (with_reducible refine a_cond (ht := ?_) (hf := ?_) <;> intro hb <;> (try simp at hb) <;> (try contradiction) <;> (try subst hb) <;> (try omega))
 | (with_reducible first | refine a_move (hr:=?_) | refine a_assign (hr:=?_) | refine a_bin (hr:=?_) | refine a_lenS (hr:=?_) | refine a_lenR (hr:=?_) | refine a_neB (hr:=?_) | refine a_conv (hr:=?_) | refine a_bytesStr (hr:=?_) | refine a_strBytes (hr:=?_) | refine a_sameSl (hr:=?_) | refine a_sliceArr (hr:=?_) | refine a_neS (hr:=?_) | refine a_sliceS (hr:=?_) | refine a_sliceR (hr:=?_) | refine a_minC (hr:=?_))
 | fail)
      all_goals first
        | exact absurd (by assumption) hne
        | (((refine zzr hQ ?_)); exact zzd)
  · by_cases h : a = 98 ∧ b = 112 ∧ c = 49
    · obtain ⟨rfl, rfl, rfl⟩ := h
      rw [show headE (98 :: 112 :: 49 :: r) = 0 from rfl]
      clear hB
      refine zzg (nt := 18) (rs := [.tmp 2]) Tryd.func19 ?_; intro Q hQ hW
      repeat' (first
 | (with_reducible refine run_n ?_; with_reducible first | refine hK _ _ (by simp) ?_ | refine hK _ _ ?_; clear hK K)
 | (refine zzc ?_)
 | (with_reducible refine awp_regT (by kernel_rfl) ?_; intro K hK)
 | (with_reducible refine awp_regAM (id := 2) [] mixed (by kernel_rfl) (by kernel_rfl) ?_; intro K hK)
 | (with_reducible refine a_cond (ht := ?_) (hf := ?_) <;> intro hb <;> (try simp at hb) <;> (try contradiction) <;> (try subst hb) <;> (try omega))
 | (with_reducible first | refine a_move (hr:=?_) | refine a_assign (hr:=?_) | refine a_bin (hr:=?_) | refine a_lenS (hr:=?_) | refine a_lenR (hr:=?_) | refine a_neB (hr:=?_) | refine a_conv (hr:=?_) | refine a_bytesStr (hr:=?_) | refine a_strBytes (hr:=?_) | refine a_sameSl (hr:=?_) | refine a_sliceArr (hr:=?_) | refine a_neS (hr:=?_) | refine a_sliceS (hr:=?_) | refine a_sliceR (hr:=?_) | refine a_minC (hr:=?_))
 | fail)
      all_goals ((refine zzr hQ ?_))
      all_goals (exact zzd)
    · have hne : ¬ (⟨#[UInt8.ofNat a.toNat, UInt8.ofNat b.toNat, UInt8.ofNat c.toNat]⟩ : ByteArray) = (⟨#[98, 112, 49]⟩ : ByteArray).extract 0 3 := hd_ne (l := [a, b, c]) (m := [98, 112, 49]) (fun x hx => hB x (by simp at hx ⊢; omega)) (by intro x hx; simp at hx; omega) (by simpa using h) rfl
      rw [show headE (a :: b :: c :: r) = 8 from if_neg h]
      clear hB
      refine zzg (nt := 18) (rs := [.tmp 2]) Tryd.func19 ?_; intro Q hQ hW
      repeat' (first
 | (with_reducible refine run_n ?_; with_reducible first | refine hK _ _ (by simp) ?_ | refine hK _ _ ?_; clear hK K)
 | (refine zzc ?_)
 | (with_reducible refine awp_regT (by kernel_rfl) ?_; intro K hK)
 | (with_reducible refine awp_regAM (id := 2) [] mixed (by kernel_rfl) (by kernel_rfl) ?_; intro K hK)
 | (with_reducible refine a_cond (ht := ?_) (hf := ?_) <;> intro hb <;> (try simp at hb) <;> (try contradiction) <;> (try subst hb) <;> (try omega))
 | (with_reducible first | refine a_move (hr:=?_) | refine a_assign (hr:=?_) | refine a_bin (hr:=?_) | refine a_lenS (hr:=?_) | refine a_lenR (hr:=?_) | refine a_neB (hr:=?_) | refine a_conv (hr:=?_) | refine a_bytesStr (hr:=?_) | refine a_strBytes (hr:=?_) | refine a_sameSl (hr:=?_) | refine a_sliceArr (hr:=?_) | refine a_neS (hr:=?_) | refine a_sliceS (hr:=?_) | refine a_sliceR (hr:=?_) | refine a_minC (hr:=?_))
 | fail)
      all_goals first
        | exact absurd (by assumption) hne
        | (((refine zzr hQ ?_)); exact zzd)
end Go.Proofs.YtejeemhenoobjaaDoor.Asl

