/- Part 38 of what the row leans on: abstract values and states, their rules, and the contracts of the functions. -/
import Derived.Test.YtjbbnollidcagaaGreatDoorZgz37
namespace Go.Proofs.YtjbbnollidcagaaGreatDoor.Errs
open Go Go.RowKit Go.Extern.Stop Go.Stop Go.Extern
set_option linter.unusedVariables false
set_option linter.unusedSimpArgs false
set_option maxRecDepth 1000000 in
set_option maxHeartbeats 8000000 in
theorem Is_nil {W : World} (c : Int) : Calls Tryz.prog 16 #[.nilIface, .iface 38 (.int .i64 c)] W fun ev w' => ev = .returned (.bool false) ∧ w' = W := by
  have h : ∀ (d : Nat) (w : World), (Op.equalIn (d + 2) 27 .nilIface (.iface 38 (.int .i64 c))).run Tryz.prog w = .ok false w := fun d w => by
    simp [Op.equalIn, run_underlying Tryz.underlying27]
  have hq : ∀ w : World, (binOp .eql 27 .nilIface (.iface 38 (.int .i64 c))).run Tryz.prog w = .ok (.bool false) w := fun w => by
    simp only [binOp]
    simp [Op.equal, Op.maxDepth, h 9998]
  go_enter Tryz.func16, Tryz.ntmps16
  go_wp2
  go_ret
  exact ⟨rfl, rfl⟩
end Go.Proofs.YtjbbnollidcagaaGreatDoor.Errs
namespace Go.Proofs.YtjbbnollidcagaaGreatDoor.Asl
open Go Go.RowKit
open Go.Proofs.YtjbbnollidcagaaGreatDoor.Errs (EV)
set_option linter.unusedVariables false
set_option linter.unusedSimpArgs false
set_option maxRecDepth 100000
set_option maxHeartbeats 8000000
theorem c_IsNil (c : Int) : CallD Tryz.prog 16 [.raw .nilIface, .ifc 38 (.raw (.int .i64 c))] noHeap (.raw (.bool false)) noHeap := by
  intro C vs hC hvs
  cases hvs with
  | cons h1 h2 =>
    cases h2 with
    | cons h2 h3 =>
      cases h3
      cases h2 with
      | ifc h2 =>
        rw [RV.raw_eq h1, RV.raw_eq h2]
        refine Calls.mono (Errs.Is_nil c) ?_
        rintro ev W' ⟨rfl, rfl⟩
        exact ⟨_, C, rfl, rfl, .refl C, hC, .raw _, fun _ _ h => h⟩
/-- What Test is wrong with. -/
def tstE (v : Val) (x : E6) : E6 := if x.ev = none ∧ v.1 ≠ 2 then .code 40 else x
theorem rest_code (e : List TermV) (vars : List VarV) (f : Int) (hf : 0 ≤ f) : codeE (ofE6 e vars f).2.2.ev = 60 → (ofE6 e vars f).2.1 = 0 := by
  have own60 : ∀ t, ownE t ≠ 60 := by
    intro t
    have hr : rightE t.k t.v t.s ≠ 60 := by
      unfold rightE
      repeat' split
      all_goals simp
    unfold ownE
    repeat' split
    all_goals first
      | exact hr
      | simp
  have wl60 : ∀ (l : List TermV) (ps : List Pc), (wholeL l ps).1 ≠ 60 := by
    intro l
    induction l with
    | nil => intro ps; simp [wholeL]
    | cons t l ih =>
      intro ps
      rw [wholeL]
      split
      · exact own60 t
      · split
        · simp
        · exact ih _
  have w60 : (wholeE e).2 ≠ 60 := by
    unfold wholeE
    split
    · simp
    · have := wl60 e []
      unfold outW
      split
      · exact this
      · split
        · simp
        · split <;> simp
        · simp
  have ev60 : ∀ (l : List TermV) (f : Int) (st : List Val), codeE (evR vars l f st).2.2.ev = 60 → (evR vars l f st).2.1 = 0 := by
    intro l
    induction l with
    | nil => intro f st h; exact absurd h (by show (0 : Int) ≠ 60; decide)
    | cons t l ih =>
      intro f st
      rw [evR]
      split
      · intro _; rfl
      · split
        · intro h; exact absurd h (step_ne60 vars t st)
        · exact ih _ _
  intro h
  unfold ofE6 at h ⊢
  split at h
  · rw [codeE_code] at h; exact absurd h w60
  · rename_i h0
    rw [if_neg h0]
    rw [evL_R] at h ⊢
    exact ev60 _ _ _ h
theorem c_Test (e : List TermV) (l : List VarV) (fuel : Int) (hw : ∀ t ∈ e, wfT t ∧ okV (valT t)) (hl : e.length ≤ 140737488351232) (hv : ∀ x ∈ l, okV (x.k, x.v, x.s)) (hvl : l.length < 9223372036854775808) (hfu : inR fuel) : CallD Tryz.prog 6 [.sl 5 (e.map termAV), gT e l, .raw (.int .i64 fuel)] gHT (.tup [.raw (.bool ((tstE (ofE6 e l fuel).1 (ofE6 e l fuel).2.2).ev.isNone && !decide ((ofE6 e l fuel).1.2.1 = 0))), .raw (.int .i64 (ofE6 e l fuel).2.1), errO (tstE (ofE6 e l fuel).1 (ofE6 e l fuel).2.2).ev]) gHT := by
  have q := c_EvalT e l fuel hw hl hv hvl hfu
  have hr60 : codeE (ofE6 e l fuel).2.2.ev = 60 → (ofE6 e l fuel).2.1 = 0 := by
    by_cases h : 0 ≤ fuel
    · exact rest_code e l fuel h
    · have e1 : ofE6 e l fuel = ofE6 e l 0 := by unfold ofE6; rw [show max fuel 0 = 0 by omega, show max (0 : Int) 0 = 0 by decide]
      rw [e1]; exact rest_code e l 0 (Int.le_refl _)
  generalize ofE6 e l fuel = r at q hr60 ⊢
  obtain ⟨⟨k, n, s⟩, f, x⟩ := r
  simp only at q hr60 ⊢
  unfold tstE
  simp only
  have i0 := c_IsNil 60
  have q40 := c_FOf 40
  rw [show ofE 40 = some (.code 40) from rfl] at q40
  simp only [errO_some] at q40
  have i40 : CallD Tryz.prog 16 [errAV (.code 40), .ifc 38 (.raw (.int .i64 60))] noHeap (.raw (.bool false)) noHeap := c_IsCode (.code 40) 60
  cases hx : x.ev with
  | none =>
    rw [hx] at q hr60
    simp only [errO_none] at q
    clear hr60
    by_cases hk : k = 2
    · subst hk
      rw [if_neg (fun h => h.2 rfl), hx]
      simp only [errO_none, Option.isNone_none, Bool.true_and]
      refine zzg (nt := 40) (rs := [.tmp 6, .tmp 7, .tmp 8]) Tryz.func6 ?_; intro Q hQ hW
      repeat' (first
 | (with_reducible refine run_n ?_; with_reducible first | refine hK _ _ (by simp) ?_ | refine hK _ _ ?_; clear hK K)
 | (refine zzc ?_)
 | (with_reducible refine awp_regT (by kernel_rfl) ?_; intro K hK)
 | (with_reducible refine a_cond (ht := ?_) (hf := ?_) <;> intro hb <;> (try simp at hb) <;> (try contradiction) <;> (try subst hb) <;> (try omega))
 | (with_reducible first | refine a_move (hr:=?_) | refine a_assign (hr:=?_) | refine a_load (hr:=?_) | refine a_fieldAddr (hr:=?_) | refine a_bin (hr:=?_) | refine a_extract (hr:=?_) | refine a_pick (hr:=?_) | refine a_store (hr:=?_) | refine a_alloc (hr:=?_) | refine a_makeIf (hr:=?_) | refine a_eqI (hr:=?_) | refine a_neI (hr:=?_) | refine a_eqB (hr:=?_) | refine a_neB (hr:=?_) | refine a_eqS (hr:=?_) | refine a_neS (hr:=?_) | refine a_callP (p := 100000) (hcall := q) (hr:=?_) | refine a_call0 (hcall := q40) (hr:=?_) | refine a_callF (hcall := i0) (hr:=?_) | refine a_callF (hcall := i40) (hr:=?_) | refine a_gT (hr:=?_) | refine a_gF (hr:=?_) | refine a_gU (hr:=?_))
 | (with_reducible refine a_gB (hT := ?_) (hF := ?_) <;> intro hb <;> (try simp at hb) <;> (try contradiction) <;> (try subst hb) <;> (try omega))
 | fail)
      all_goals ((refine zzr hQ ?_))
      all_goals (exact Fin.keep (by simp; exact .r) (by simp; exact .r) (by simp; exact .r) (by simp))
    · rw [if_pos ⟨rfl, hk⟩]
      rw [show (E6.code 40).ev = some (.code 40) from rfl]
      simp only [errO_some, Option.isNone_some, Bool.false_and]
      refine zzg (nt := 40) (rs := [.tmp 6, .tmp 7, .tmp 8]) Tryz.func6 ?_; intro Q hQ hW
      repeat' (first
 | (with_reducible refine run_n ?_; with_reducible first | refine hK _ _ (by simp) ?_ | refine hK _ _ ?_; clear hK K)
 | (refine zzc ?_)
 | (with_reducible refine awp_regT (by kernel_rfl) ?_; intro K hK)
 | (with_reducible refine a_cond (ht := ?_) (hf := ?_) <;> intro hb <;> (try simp at hb) <;> (try contradiction) <;> (try subst hb) <;> (try omega))
 | (with_reducible first | refine a_move (hr:=?_) | refine a_assign (hr:=?_) | refine a_load (hr:=?_) | refine a_fieldAddr (hr:=?_) | refine a_bin (hr:=?_) | refine a_extract (hr:=?_) | refine a_pick (hr:=?_) | refine a_store (hr:=?_) | refine a_alloc (hr:=?_) | refine a_makeIf (hr:=?_) | refine a_eqI (hr:=?_) | refine a_neI (hr:=?_) | refine a_eqB (hr:=?_) | refine a_neB (hr:=?_) | refine a_eqS (hr:=?_) | refine a_neS (hr:=?_) | refine a_callP (p := 100000) (hcall := q) (hr:=?_) | refine a_call0 (hcall := q40) (hr:=?_) | refine a_callF (hcall := i0) (hr:=?_) | refine a_callF (hcall := i40) (hr:=?_) | refine a_gT (hr:=?_) | refine a_gF (hr:=?_) | refine a_gU (hr:=?_))
 | (with_reducible refine a_gB (hT := ?_) (hF := ?_) <;> intro hb <;> (try simp at hb) <;> (try contradiction) <;> (try subst hb) <;> (try omega))
 | fail)
      all_goals ((refine zzr hQ ?_))
      all_goals (exact Fin.keep (by simp; exact .r) (by simp; exact .r) (by simp; exact .r) (by simp))
  | some y =>
    rw [hx] at q hr60
    rw [if_neg (fun h => by cases h.1), hx]
    have ic := c_IsCode y 60
    simp only [errO_some, Option.isNone_some, Bool.false_and] at q ⊢
    by_cases h60 : y.num = some 60
    · have hf0 := hr60 (by show y.num.getD 20 = 60; rw [h60]; rfl)
      rw [decide_eq_true h60] at ic
      subst hf0
      refine zzg (nt := 40) (rs := [.tmp 6, .tmp 7, .tmp 8]) Tryz.func6 ?_; intro Q hQ hW
      repeat' (first
 | (with_reducible refine run_n ?_; with_reducible first | refine hK _ _ (by simp) ?_ | refine hK _ _ ?_; clear hK K)
 | (refine zzc ?_)
 | (with_reducible refine awp_regT (by kernel_rfl) ?_; intro K hK)
 | (with_reducible refine a_cond (ht := ?_) (hf := ?_) <;> intro hb <;> (try simp at hb) <;> (try contradiction) <;> (try subst hb) <;> (try omega))
 | (with_reducible first | refine a_move (hr:=?_) | refine a_assign (hr:=?_) | refine a_load (hr:=?_) | refine a_fieldAddr (hr:=?_) | refine a_bin (hr:=?_) | refine a_extract (hr:=?_) | refine a_pick (hr:=?_) | refine a_store (hr:=?_) | refine a_alloc (hr:=?_) | refine a_makeIf (hr:=?_) | refine a_eqI (hr:=?_) | refine a_neI (hr:=?_) | refine a_eqB (hr:=?_) | refine a_neB (hr:=?_) | refine a_eqS (hr:=?_) | refine a_neS (hr:=?_) | refine a_callP (p := 100000) (hcall := q) (hr:=?_) | refine a_call0 (hcall := q40) (hr:=?_) | refine a_callF (hcall := ic) (hr:=?_) | refine a_gT (hr:=?_) | refine a_gF (hr:=?_) | refine a_gU (hr:=?_))
 | (with_reducible refine a_gB (hT := ?_) (hF := ?_) <;> intro hb <;> (try simp at hb) <;> (try contradiction) <;> (try subst hb) <;> (try omega))
 | fail)
      all_goals ((refine zzr hQ ?_))
      all_goals (exact Fin.keep (by simp; exact .r) (by simp; exact .r) (by simp; exact .r) (by simp))
    · rw [decide_eq_false h60] at ic
      refine zzg (nt := 40) (rs := [.tmp 6, .tmp 7, .tmp 8]) Tryz.func6 ?_; intro Q hQ hW
      repeat' (first
 | (with_reducible refine run_n ?_; with_reducible first | refine hK _ _ (by simp) ?_ | refine hK _ _ ?_; clear hK K)
 | (refine zzc ?_)
 | (with_reducible refine awp_regT (by kernel_rfl) ?_; intro K hK)
 | (with_reducible refine a_cond (ht := ?_) (hf := ?_) <;> intro hb <;> (try simp at hb) <;> (try contradiction) <;> (try subst hb) <;> (try omega))
 | (with_reducible first | refine a_move (hr:=?_) | refine a_assign (hr:=?_) | refine a_load (hr:=?_) | refine a_fieldAddr (hr:=?_) | refine a_bin (hr:=?_) | refine a_extract (hr:=?_) | refine a_pick (hr:=?_) | refine a_store (hr:=?_) | refine a_alloc (hr:=?_) | refine a_makeIf (hr:=?_) | refine a_eqI (hr:=?_) | refine a_neI (hr:=?_) | refine a_eqB (hr:=?_) | refine a_neB (hr:=?_) | refine a_eqS (hr:=?_) | refine a_neS (hr:=?_) | refine a_callP (p := 100000) (hcall := q) (hr:=?_) | refine a_call0 (hcall := q40) (hr:=?_) | refine a_callF (hcall := ic) (hr:=?_) | refine a_gT (hr:=?_) | refine a_gF (hr:=?_) | refine a_gU (hr:=?_))
 | (with_reducible refine a_gB (hT := ?_) (hF := ?_) <;> intro hb <;> (try simp at hb) <;> (try contradiction) <;> (try subst hb) <;> (try omega))
 | fail)
      all_goals ((refine zzr hQ ?_))
      all_goals (exact Fin.keep (by simp; exact .r) (by simp; exact .r) (by simp; exact .r) (by simp))
theorem c_rTest (e : List TermV) (l : List VarV) (fuel : Int) (hw : ∀ t ∈ e, wfT t ∧ okV (valT t)) (hl : e.length ≤ 140737488351232) (hv : ∀ x ∈ l, okV (x.k, x.v, x.s)) (hvl : l.length < 9223372036854775808) (hfu : inR fuel) : ∃ ps lo hi, CallD Tryz.prog 9 [.sl 5 (e.map termAV), .sl 4 (l.map varAV), .raw (.int .i64 fuel)] noHeap (.tup [.raw (.bool ((tstE (ofE6 e l fuel).1 (ofE6 e l fuel).2.2).ev.isNone && !decide ((ofE6 e l fuel).1.2.1 = 0))), .raw (.int .i64 (ofE6 e l fuel).2.1), RE.av ⟨(tstE (ofE6 e l fuel).1 (ofE6 e l fuel).2.2).ev.isSome, ps, codeE (tstE (ofE6 e l fuel).1 (ofE6 e l fuel).2.2).ev, false, lo, hi⟩]) noHeap := by
  have q := c_rOf6 e l fuel hw hl hv hvl hfu
  generalize ofE6 e l fuel = r at q ⊢
  obtain ⟨⟨k, n, s⟩, f, x⟩ := r
  simp only at q ⊢
  unfold tstE
  simp only
  have q40 := c_ROfN (show (40 : Int) ≠ 0 by decide)
  simp only [RE.av, plAV_nil] at q40
  have key : ∀ (x : E6), x.ev = none → x.re = ⟨false, [], 0, false, ⟨#[]⟩, ⟨#[]⟩⟩ → CallD Tryz.prog 17 [.sl 5 (e.map termAV), .sl 4 (l.map varAV), .raw (.int .i64 fuel)] noHeap (.tup [valAV k n s, .raw (.int .i64 f), RE.av x.re]) noHeap → CallD Tryz.prog 9 [.sl 5 (e.map termAV), .sl 4 (l.map varAV), .raw (.int .i64 fuel)] noHeap (.tup [.raw (.bool ((if x.ev = none ∧ k ≠ 2 then E6.code 40 else x).ev.isNone && !decide (n = 0))), .raw (.int .i64 f), RE.av ⟨(if x.ev = none ∧ k ≠ 2 then E6.code 40 else x).ev.isSome, [], codeE (if x.ev = none ∧ k ≠ 2 then E6.code 40 else x).ev, false, ⟨#[]⟩, ⟨#[]⟩⟩]) noHeap := by
    intro x h1 h2 q
    rw [h2] at q
    simp only [RE.av, plAV_nil] at q
    by_cases hk : k = 2
    · subst hk
      rw [if_neg (fun h => h.2 rfl), h1]
      simp only [Option.isNone_none, Option.isSome_none, Bool.true_and, RE.av, plAV_nil, codeE]
      refine zzg (nt := 39) (rs := [.tmp 6, .tmp 7, .cell 8 42]) Tryz.func9 ?_; intro Q hQ hW
      repeat' (first
 | (with_reducible refine run_n ?_; with_reducible first | refine hK _ _ (by simp) ?_ | refine hK _ _ ?_; clear hK K)
 | (refine zzc ?_)
 | (with_reducible refine awp_regT (by kernel_rfl) ?_; intro K hK)
 | (with_reducible refine awp_regCM (id := 4) [(8, some 8), (11, some 11), (29, some 11), (33, some 9)] [(8, some 8), (11, some 11), (29, some 11), (33, some 9)] mixed (by kernel_rfl) (by kernel_rfl) (by kernel_rfl) ?_; intro K hK)
 | (with_reducible refine a_cond (ht := ?_) (hf := ?_) <;> intro hb <;> (try simp at hb) <;> (try contradiction) <;> (try subst hb) <;> (try omega))
 | (with_reducible first | refine a_move (hr:=?_) | refine a_assign (hr:=?_) | refine a_load (hr:=?_) | refine a_fieldAddr (hr:=?_) | refine a_bin (hr:=?_) | refine a_extract (hr:=?_) | refine a_pick (hr:=?_) | refine a_un (hr:=?_) | refine a_store (hr:=?_) | refine a_alloc (hr:=?_) | refine a_neB (hr:=?_) | refine a_neS (hr:=?_) | refine a_callF (hcall := q) (hr:=?_) | refine a_call0 (hcall := q40) (hr:=?_) | refine a_gT (hr:=?_) | refine a_gF (hr:=?_) | refine a_gU (hr:=?_))
 | (with_reducible refine a_gB (hT := ?_) (hF := ?_) <;> intro hb <;> (try simp at hb) <;> (try contradiction) <;> (try subst hb) <;> (try omega))
 | fail)
      all_goals ((refine zzr hQ ?_))
      all_goals (exact zzd)
    · rw [if_pos ⟨h1, hk⟩]
      rw [show (E6.code 40).ev = some (.code 40) from rfl]
      simp only [Option.isNone_some, Option.isSome_some, Bool.false_and, RE.av, plAV_nil]
      rw [show codeE (some (EV.code 40)) = 40 from rfl]
      refine zzg (nt := 39) (rs := [.tmp 6, .tmp 7, .cell 8 42]) Tryz.func9 ?_; intro Q hQ hW
      repeat' (first
 | (with_reducible refine run_n ?_; with_reducible first | refine hK _ _ (by simp) ?_ | refine hK _ _ ?_; clear hK K)
 | (refine zzc ?_)
 | (with_reducible refine awp_regT (by kernel_rfl) ?_; intro K hK)
 | (with_reducible refine awp_regCM (id := 4) [(8, some 8), (11, some 11), (29, some 11), (33, none)] [(8, some 8), (11, some 11), (29, some 11), (33, none)] mixed (by kernel_rfl) (by kernel_rfl) (by kernel_rfl) ?_; intro K hK)
 | (with_reducible refine a_cond (ht := ?_) (hf := ?_) <;> intro hb <;> (try simp at hb) <;> (try contradiction) <;> (try subst hb) <;> (try omega))
 | (with_reducible first | refine a_move (hr:=?_) | refine a_assign (hr:=?_) | refine a_load (hr:=?_) | refine a_fieldAddr (hr:=?_) | refine a_bin (hr:=?_) | refine a_extract (hr:=?_) | refine a_pick (hr:=?_) | refine a_un (hr:=?_) | refine a_store (hr:=?_) | refine a_alloc (hr:=?_) | refine a_neB (hr:=?_) | refine a_neS (hr:=?_) | refine a_callF (hcall := q) (hr:=?_) | refine a_call0 (hcall := q40) (hr:=?_) | refine a_gT (hr:=?_) | refine a_gF (hr:=?_) | refine a_gU (hr:=?_))
 | (with_reducible refine a_gB (hT := ?_) (hF := ?_) <;> intro hb <;> (try simp at hb) <;> (try contradiction) <;> (try subst hb) <;> (try omega))
 | fail)
      all_goals ((refine zzr hQ ?_))
      all_goals (exact zzd)
  cases x with
  | ok => exact ⟨[], ⟨#[]⟩, ⟨#[]⟩, key .ok rfl rfl q⟩
  | code c =>
    by_cases hc : c = 0
    · subst hc
      exact ⟨[], ⟨#[]⟩, ⟨#[]⟩, key (.code 0) rfl rfl q⟩
    · clear key
      have he : (E6.code c).ev = some (.code c) := E6.ev_code hc
      rw [re_code hc] at q
      refine ⟨[], ⟨#[]⟩, ⟨#[]⟩, ?_⟩
      rw [if_neg (fun h => by rw [he] at h; cases h.1), he]
      simp only [Option.isNone_some, Option.isSome_some, Bool.false_and, RE.av, plAV_nil] at q ⊢
      rw [show codeE (some (EV.code c)) = c from rfl]
      refine zzg (nt := 39) (rs := [.tmp 6, .tmp 7, .cell 8 42]) Tryz.func9 ?_; intro Q hQ hW
      repeat' (first
 | (with_reducible refine run_n ?_; with_reducible first | refine hK _ _ (by simp) ?_ | refine hK _ _ ?_; clear hK K)
 | (refine zzc ?_)
 | (with_reducible refine awp_regT (by kernel_rfl) ?_; intro K hK)
 | (with_reducible refine awp_regCM (id := 4) [(8, some 8), (11, some 11), (29, some 11), (33, none)] [(8, some 8), (11, some 11), (29, some 11), (33, none)] mixed (by kernel_rfl) (by kernel_rfl) (by kernel_rfl) ?_; intro K hK)
 | (with_reducible refine a_cond (ht := ?_) (hf := ?_) <;> intro hb <;> (try simp at hb) <;> (try contradiction) <;> (try subst hb) <;> (try omega))
 | (with_reducible first | refine a_move (hr:=?_) | refine a_assign (hr:=?_) | refine a_load (hr:=?_) | refine a_fieldAddr (hr:=?_) | refine a_bin (hr:=?_) | refine a_extract (hr:=?_) | refine a_pick (hr:=?_) | refine a_un (hr:=?_) | refine a_store (hr:=?_) | refine a_alloc (hr:=?_) | refine a_neB (hr:=?_) | refine a_neS (hr:=?_) | refine a_callF (hcall := q) (hr:=?_) | refine a_call0 (hcall := q40) (hr:=?_) | refine a_gT (hr:=?_) | refine a_gF (hr:=?_) | refine a_gU (hr:=?_))
 | (with_reducible refine a_gB (hT := ?_) (hF := ?_) <;> intro hb <;> (try simp at hb) <;> (try contradiction) <;> (try subst hb) <;> (try omega))
 | fail)
      all_goals ((refine zzr hQ ?_))
      all_goals (exact zzd)
  | unset m =>
    clear key
    refine ⟨[m], ⟨#[]⟩, ⟨#[]⟩, ?_⟩
    rw [if_neg (fun h => by cases h.1), E6.ev_unset]
    simp only [re_unset] at q
    simp only [Option.isNone_some, Option.isSome_some, Bool.false_and, RE.av, plAV_cons] at q ⊢
    rw [show codeE (some (EV.wrap m (EV.code 61))) = 61 from rfl]
    have e1 : strs [m] = [.raw (.string m)] := rfl
    rw [e1] at q ⊢
    refine zzg (nt := 39) (rs := [.tmp 6, .tmp 7, .cell 8 42]) Tryz.func9 ?_; intro Q hQ hW
    repeat' (first
 | (with_reducible refine run_n ?_; with_reducible first | refine hK _ _ (by simp) ?_ | refine hK _ _ ?_; clear hK K)
 | (refine zzc ?_)
 | (with_reducible refine awp_regT (by kernel_rfl) ?_; intro K hK)
 | (with_reducible refine awp_regCM (id := 4) [(8, some 8), (11, some 11), (29, some 11), (33, none)] [(8, some 8), (11, some 11), (29, some 11), (33, none)] mixed (by kernel_rfl) (by kernel_rfl) (by kernel_rfl) ?_; intro K hK)
 | (with_reducible refine a_cond (ht := ?_) (hf := ?_) <;> intro hb <;> (try simp at hb) <;> (try contradiction) <;> (try subst hb) <;> (try omega))
 | (with_reducible first | refine a_move (hr:=?_) | refine a_assign (hr:=?_) | refine a_load (hr:=?_) | refine a_fieldAddr (hr:=?_) | refine a_bin (hr:=?_) | refine a_extract (hr:=?_) | refine a_pick (hr:=?_) | refine a_un (hr:=?_) | refine a_store (hr:=?_) | refine a_alloc (hr:=?_) | refine a_neB (hr:=?_) | refine a_neS (hr:=?_) | refine a_callF (hcall := q) (hr:=?_) | refine a_call0 (hcall := q40) (hr:=?_) | refine a_gT (hr:=?_) | refine a_gF (hr:=?_) | refine a_gU (hr:=?_))
 | (with_reducible refine a_gB (hT := ?_) (hF := ?_) <;> intro hb <;> (try simp at hb) <;> (try contradiction) <;> (try subst hb) <;> (try omega))
 | fail)
    all_goals ((refine zzr hQ ?_))
    all_goals (exact zzd)
theorem plAV_cases (l : List ByteArray) : plAV l = .raw (.slice none 0 0) ∨ ∃ m, plAV l = .sl 1 (strs m) := by
  unfold plAV
  split
  · exact .inl rfl
  · exact .inr ⟨_, rfl⟩
theorem law_EvalTests (e : List TermV) (l : List VarV) (fuel : Int) (hel : e.length < 140737488351232) (hll : l.length < 9223372036854775808) (hi : ∀ t ∈ e, inR t.v) (hv : ∀ x ∈ l, inR x.v) (hfu : inR fuel) : CallD Tryz.prog 3 [.sl 5 (e.map termAV), .sl 4 (l.map varAV), .raw (.int .i64 fuel)] noHeap (.raw (.bool true)) noHeap := by
  have fw := c_few6 e l (by omega) hll
  obtain ⟨b, hb⟩ : ∃ b, fewT e l = b := ⟨_, rfl⟩
  rw [hb] at fw
  cases b with
  | false =>
    refine zzg (nt := 58) (rs := [.tmp 6]) Tryz.func3 ?_; intro Q hQ hW
    repeat' (first
 | (with_reducible refine run_n ?_; with_reducible first | refine hK _ _ (by simp) ?_ | refine hK _ _ ?_; clear hK K)
 | (refine zzc ?_)
 | (with_reducible refine awp_regT (by kernel_rfl) ?_; intro K hK)
 | (with_reducible refine awp_regCM (id := 6) [(7, some 7), (54, some 13)] [(7, some 7), (52, none), (54, some 13)] mixed (by kernel_rfl) (by kernel_rfl) (by kernel_rfl) ?_; intro K hK)
 | (with_reducible refine a_cond (ht := ?_) (hf := ?_) <;> intro hb <;> (try simp at hb) <;> (try contradiction) <;> (try subst hb) <;> (try omega))
 | (with_reducible first | refine a_move (hr:=?_) | refine a_assign (hr:=?_) | refine a_load (hr:=?_) | refine a_fieldAddr (hr:=?_) | refine a_bin (hr:=?_) | refine a_extract (hr:=?_) | refine a_pick (hr:=?_) | refine a_un (hr:=?_) | refine a_store (hr:=?_) | refine a_box (hr:=?_) | refine a_alloc (hr:=?_) | refine a_makeFunc (hr:=?_) | refine a_eqB (hr:=?_) | refine a_eqS (hr:=?_) | refine a_call0 (hcall := c_live6) (hr:=?_) | refine a_callF (hcall := fw) (hr:=?_) | refine a_gT (hr:=?_) | refine a_gF (hr:=?_) | refine a_gU (hr:=?_))
 | (with_reducible refine a_gB (hT := ?_) (hF := ?_) <;> intro hb <;> (try simp at hb) <;> (try contradiction) <;> (try subst hb) <;> (try omega))
 | fail)
    all_goals ((refine zzr hQ ?_))
    all_goals (exact zzd)
  | true =>
    have ok := few_ok hb hi hv
    have oe := ok.e
    have ol := ok.l
    have q1 := c_Test e l fuel ok.t (by omega) ok.v (by omega) hfu
    obtain ⟨ps, lo, hi2, q2⟩ := c_rTest e l fuel ok.t (by omega) ok.v (by omega) hfu
    generalize ofE6 e l fuel = r at q1 q2
    obtain ⟨⟨k, n, s⟩, f, x⟩ := r
    simp only at q1 q2
    generalize (tstE (k, n, s) x).ev = y at q1 q2
    have a1 := c_FCode y
    generalize codeE y = c at a1 q2
    generalize (y.isNone && !decide (n = 0)) = bb at q1 q2
    generalize y.isSome = iss at q2
    clear hb ok hi hv
    have fin : ∀ (p : AV) (u : AV), (p = .raw (.slice none 0 0) ∨ ∃ m, p = .sl 1 (strs m)) → (u = .raw .nilIface ∨ ∃ z, u = errAV z) → CallD Tryz.prog 6 [.sl 5 (e.map termAV), gT e l, .raw (.int .i64 fuel)] gHT (.tup [.raw (.bool bb), .raw (.int .i64 f), u]) gHT → CallD Tryz.prog 9 [.sl 5 (e.map termAV), .sl 4 (l.map varAV), .raw (.int .i64 fuel)] noHeap (.tup [.raw (.bool bb), .raw (.int .i64 f), .agg [.raw (.bool iss), p, .raw (.int .i64 c), .raw (.bool false), .agg [.raw (.string lo), .raw (.string hi2)]]]) noHeap → CallD Tryz.prog 10 [u] noHeap (.raw (.int .i64 c)) noHeap → CallD Tryz.prog 3 [.sl 5 (e.map termAV), .sl 4 (l.map varAV), .raw (.int .i64 fuel)] noHeap (.raw (.bool true)) noHeap := by
      intro p u hp hu q1 q2 a1
      rcases hp with rfl | ⟨m, rfl⟩
      all_goals rcases hu with rfl | ⟨z, rfl⟩
      all_goals
        refine zzg (nt := 58) (rs := [.tmp 6]) Tryz.func3 ?_; intro Q hQ hW
        repeat' (first
 | (with_reducible refine run_n ?_; with_reducible first | refine hK _ _ (by simp) ?_ | refine hK _ _ ?_; clear hK K)
 | (refine zzc ?_)
 | (with_reducible refine awp_regT (by kernel_rfl) ?_; intro K hK)
 | (with_reducible refine awp_regCM (id := 6) [(7, some 7), (54, some 13)] [(7, some 7), (52, none), (54, some 13)] mixed (by kernel_rfl) (by kernel_rfl) (by kernel_rfl) ?_; intro K hK)
 | (with_reducible first | refine a_move (hr:=?_) | refine a_assign (hr:=?_) | refine a_load (hr:=?_) | refine a_fieldAddr (hr:=?_) | refine a_bin (hr:=?_) | refine a_extract (hr:=?_) | refine a_pick (hr:=?_) | refine a_un (hr:=?_) | refine a_store (hr:=?_) | refine a_box (hr:=?_) | refine a_alloc (hr:=?_) | refine a_makeFunc (hr:=?_) | refine a_eqB (hr:=?_) | refine a_eqS (hr:=?_) | refine a_call0 (hcall := c_live6) (hr:=?_) | refine a_callF (hcall := fw) (hr:=?_) | refine a_gT (hr:=?_) | refine a_gF (hr:=?_) | refine a_gU (hr:=?_))
 | (with_reducible refine a_gB (hT := ?_) (hF := ?_) <;> intro hb <;> (try simp at hb) <;> (try contradiction) <;> (try subst hb) <;> (try omega))
 | fail)
        refine a_cond (ht := ?_) (hf := ?_) <;> intro hb <;> (try simp at hb) <;> (try contradiction)
        refine AWP.weak (Weak.fzb (k := 3) (X := .sl 5 (e.map termAV)) (by simp) (by simp)) ?_
        refine AWP.weak (Weak.fzb (k := 4) (X := .sl 4 (l.map varAV)) (by simp [fzbH, Ob.fzb]) (by simp)) ?_
        refine AWP.weak (σ2 := ⟨envA [(2, .raw (.int .i64 fuel)), (3, .fp (.sl 5 (e.map termAV))), (4, .fp (.sl 4 (l.map varAV)))], hpL []⟩) (weak_o (sub_hpL (by simp)) (bigIn_fzb (by decide) (bigIn_fzb (by decide) (by simp))) (by simp)) ?_
        repeat' (first
 | (with_reducible refine run_n ?_; with_reducible first | refine hK _ _ (by simp) ?_ | refine hK _ _ ?_; clear hK K)
 | (refine zzc ?_)
 | (with_reducible refine awp_regT (by kernel_rfl) ?_; intro K hK)
 | (with_reducible refine awp_regCM (id := 6) [(7, some 7), (54, some 13)] [(7, some 7), (52, none), (54, some 13)] mixed (by kernel_rfl) (by kernel_rfl) (by kernel_rfl) ?_; intro K hK)
 | (with_reducible refine a_cond (ht := ?_) (hf := ?_) <;> intro hb <;> (try simp at hb) <;> (try contradiction) <;> (try subst hb) <;> (try omega))
 | (with_reducible first | refine a_move (hr:=?_) | refine a_assign (hr:=?_) | refine a_load (hr:=?_) | refine a_fieldAddr (hr:=?_) | refine a_bin (hr:=?_) | refine a_extract (hr:=?_) | refine a_pick (hr:=?_) | refine a_un (hr:=?_) | refine a_store (hr:=?_) | refine a_box (hr:=?_) | refine a_alloc (hr:=?_) | refine a_makeFunc (hr:=?_) | refine a_eqB (hr:=?_) | refine a_eqS (hr:=?_) | refine a_call0 (hcall := c_live6) (hr:=?_) | refine a_callP (p := 7) (hcall := q1) (hr:=?_) | refine a_callF (hcall := q2) (hr:=?_) | refine a_callF (hcall := a1) (hr:=?_) | refine a_gT (hr:=?_) | refine a_gF (hr:=?_) | refine a_gU (hr:=?_))
 | (with_reducible refine a_gB (hT := ?_) (hF := ?_) <;> intro hb <;> (try simp at hb) <;> (try contradiction) <;> (try subst hb) <;> (try omega))
 | fail)
        all_goals ((refine zzr hQ ?_))
        all_goals (exact zzd)
    refine fin (plAV ps) (errO y) (plAV_cases ps) ?_ q1 q2 a1
    cases y with
    | none => exact .inl rfl
    | some z => exact .inr ⟨z, rfl⟩
theorem row_EvalTests (e : List (Int × (Int × Int × ByteArray) × ByteArray)) (l : List (ByteArray × Int × Int × ByteArray)) (fuel : Int) (hel : e.length < 140737488351232) (hll : l.length < 9223372036854775808) (hi : ∀ x ∈ e, inR x.2.1.2.1) (hv : ∀ x ∈ l, inR x.2.2.1) (hfu : inR fuel) : CallD Tryz.prog 3 [.sl 5 (e.map fun x => termAV (tof x)), .sl 4 (l.map fun x => varAV (vof x)), .raw (.int .i64 fuel)] noHeap (.raw (.bool true)) noHeap := by
  have := law_EvalTests (e.map tof) (l.map vof) fuel (by simpa using hel) (by simpa using hll) (fun t ht => by
    obtain ⟨x, hx, rfl⟩ := List.mem_map.1 ht
    exact hi x hx) (fun t ht => by
    obtain ⟨x, hx, rfl⟩ := List.mem_map.1 ht
    exact hv x hx) hfu
  rwa [map_tof, map_vof] at this
end Go.Proofs.YtjbbnollidcagaaGreatDoor.Asl

