/- Part 33 of what the row leans on: abstract values and states, their rules, and the contracts of the functions. -/
import Derived.Test.YtjbbnollidcagaaDoorZgc32
namespace Go.Proofs.YtjbbnollidcagaaDoor.Asl
open Go Go.RowKit
open Go.Proofs.YtjbbnollidcagaaDoor.Errs (EV)
set_option linter.unusedVariables false
set_option linter.unusedSimpArgs false
set_option maxRecDepth 100000
set_option maxHeartbeats 8000000
instance : FlatF Val.av := ⟨fun x => by simp⟩
@[simp] theorem toNat_sub2 (n : Nat) : ((n : Int) - 2).toNat = n - 2 := by omega
theorem tk_eq {α} (f : α → AV) (l : List α) (n : Nat) : (l.map f).take n = (l.take n).map f := (List.map_take ..).symm
section
variable {α : Type} {f : α → AV} [FlatF f]
@[simp] theorem tk_noids (l : List α) (n : Nat) : AV.noids ((l.map f).take n) = true := by rw [tk_eq]; exact map_noids _
@[simp] theorem tk_rows (l : List α) (n : Nat) : AV.rowsOfs ((l.map f).take n) = [] := by rw [tk_eq]; exact map_rows _
@[simp] theorem tk_deeps (h : Hp) (l : List α) (n : Nat) : AV.deeps h ((l.map f).take n) = (l.map f).take n := by rw [tk_eq]; exact map_deeps _ _
@[simp] theorem tk_withins (h : Hp) (l : List α) (n : Nat) : AV.withins h ((l.map f).take n) = true := by rw [tk_eq]; exact map_withins _ _
@[simp] theorem tk_rens (π : Nat → Nat) (l : List α) (n : Nat) : AV.rens π ((l.map f).take n) = (l.map f).take n := by rw [tk_eq]; exact map_rens _ _
@[simp] theorem tkp_noids (l : List α) (n : Nat) (m : List AV) : AV.noids ((l.map f).take n ++ m) = AV.noids m := by rw [tk_eq]; exact mapp_noids _ _
@[simp] theorem tkp_rows (l : List α) (n : Nat) (m : List AV) : AV.rowsOfs ((l.map f).take n ++ m) = AV.rowsOfs m := by rw [tk_eq]; exact mapp_rows _ _
@[simp] theorem tkp_deeps (h : Hp) (l : List α) (n : Nat) (m : List AV) : AV.deeps h ((l.map f).take n ++ m) = (l.map f).take n ++ AV.deeps h m := by rw [tk_eq]; exact mapp_deeps _ _ _
@[simp] theorem tkp_withins (h : Hp) (l : List α) (n : Nat) (m : List AV) : AV.withins h ((l.map f).take n ++ m) = AV.withins h m := by rw [tk_eq]; exact mapp_withins _ _ _
@[simp] theorem tkp_rens (π : Nat → Nat) (l : List α) (n : Nat) (m : List AV) : AV.rens π ((l.map f).take n ++ m) = (l.map f).take n ++ AV.rens π m := by rw [tk_eq]; exact mapp_rens _ _ _
end
theorem wh_len {e : List TermV} (h : (wholeE e).2 = 0) : (wholeL e []).1 = 0 ∧ (wholeL e []).2.length = 1 ∧ e.length ≤ 40 := by
  unfold wholeE at h
  by_cases h40 : 40 < e.length
  · rw [if_pos h40] at h; exact absurd h (by decide)
  rw [if_neg h40] at h
  unfold outW at h
  by_cases h0 : (wholeL e []).1 ≠ 0
  · rw [if_pos h0] at h; exact absurd h h0
  rw [if_neg h0] at h
  refine ⟨by simpa using h0, ?_, by omega⟩
  generalize (wholeL e []).2 = l at h
  rcases l with _ | ⟨a, _ | ⟨b, l⟩⟩
  · exact absurd h (by simp)
  · rfl
  · exact absurd h (by simp)
@[simp] theorem E6.ev_ok : E6.ok.ev = none := rfl
@[simp] theorem E6.ev_unset (n : ByteArray) : (E6.unset n).ev = some (.wrap n (.code 61)) := rfl
theorem E6.ev_code {c : Int} (h : c ≠ 0) : (E6.code c).ev = some (.code c) := if_neg h
theorem c_Eval (e : List TermV) (vars : List VarV) (fuel : Int) (hw : ∀ t ∈ e, wfT t ∧ okV (valT t)) (hl : e.length ≤ 140737488351232) (hv : ∀ x ∈ vars, okV (x.k, x.v, x.s)) (hvl : vars.length < 9223372036854775808) (hfu : inR fuel) : CallD Tryd.prog 25 [.sl 5 (e.map termAV), gF, .raw (.int .i64 fuel)] (gH vars) (.tup [Val.av (ofE6 e vars fuel).1, .raw (.int .i64 (ofE6 e vars fuel).2.1), errO (ofE6 e vars fuel).2.2.ev]) (gH vars) := by
  have q0 := c_Check e (fun t ht => (hw t ht).1) hl
  unfold inR at hfu
  unfold ofE6
  by_cases h0 : (wholeE e).2 ≠ 0
  · rw [if_pos h0]
    generalize (wholeE e).2 = x at q0 h0 ⊢
    have q1 := c_FOf x
    have e1 : ofE x = some (.code x) := if_neg h0
    rw [E6.ev_code h0]
    unfold zV
    rw [e1] at q1
    simp only [errO_some] at q1 ⊢
    refine zzg (nt := 115) (rs := [.cell 6 23, .tmp 7, .tmp 8]) Tryd.func25 ?_; intro Q hQ hW
    repeat' (first
 | (with_reducible refine run_n ?_; with_reducible first | refine hK _ _ (by simp) ?_ | refine hK _ _ ?_; clear hK K)
 | (refine zzc ?_)
 | (with_reducible refine awp_regT (by kernel_rfl) ?_; intro K hK)
 | (with_reducible refine awp_regCM (id := 22) [(14, some 14), (84, some 12)] [(14, some 14), (84, some 12), (85, none), (89, none), (90, none), (92, none), (93, none)] mixed (by kernel_rfl) (by kernel_rfl) (by kernel_rfl) ?_; intro K hK)
 | (with_reducible refine awp_regCM (id := 15) [(14, some 14), (41, some 12)] [(14, some 14), (41, some 12), (42, none), (46, none), (47, none), (51, none), (52, none), (54, none), (55, none)] mixed (by kernel_rfl) (by kernel_rfl) (by kernel_rfl) ?_; intro K hK)
 | (with_reducible refine a_cond (ht := ?_) (hf := ?_) <;> intro hb <;> (try simp at hb) <;> (try contradiction) <;> (try subst hb) <;> (try omega))
 | (with_reducible first | refine a_move (hr:=?_) | refine a_assign (hr:=?_) | refine a_load (hr:=?_) | refine a_fieldAddr (hr:=?_) | refine a_bin (hr:=?_) | refine a_lenS (hr:=?_) | refine a_lenR (hr:=?_) | refine a_extract (hr:=?_) | refine a_store (hr:=?_) | refine a_alloc (hr:=?_) | refine a_eqI (hr:=?_) | refine a_neI (hr:=?_) | refine a_eqB (hr:=?_) | refine a_neB (hr:=?_) | refine a_idxArr (hr:=?_) | refine a_sliceArr (hr:=?_) | refine a_eqS (hr:=?_) | refine a_neS (hr:=?_) | refine a_sliceS (hr:=?_) | refine a_sliceR (hr:=?_) | refine a_indexAddr (hr:=?_) | refine a_build (hr:=?_) | refine a_buildSlice (hr:=?_) | refine a_maxC (hr:=?_) | refine a_append (hr:=?_) | refine a_append0 (hr:=?_) | refine a_appendX (hr:=?_) | refine a_callF (hcall := q0) (hr:=?_) | refine a_call0 (hcall := q1) (hr:=?_))
 | fail)
    all_goals ((refine zzr hQ ?_))
    all_goals (exact Fin.keep (by simp; exact .r) (by simp; exact .r) (by simp; exact .r) (by simp))
  rw [if_neg h0]
  have h0 : (wholeE e).2 = 0 := by simpa using h0
  rw [h0] at q0
  obtain ⟨w1, w2, w3⟩ := wh_len h0
  obtain ⟨F, hF⟩ : ∃ F, max fuel 0 = F := ⟨_, rfl⟩
  have hF0 : 0 ≤ F ∧ F < 9223372036854775808 := by omega
  rw [hF]
  obtain ⟨RES, hR⟩ : ∃ RES, evL vars e F [] = RES := ⟨_, rfl⟩
  rw [hR]
  have start : EvI e vars RES 0 F [] [] := ⟨Nat.zero_le _, ⟨w1, w2⟩, rfl, hR, hF0, by simp, Nat.le_refl _⟩
  clear h0 hR
  refine zzg (nt := 115) (rs := [.cell 6 23, .tmp 7, .tmp 8]) Tryd.func25 ?_; intro Q hQ hW
  repeat' (first
 | (with_reducible refine run_n ?_; with_reducible first | refine hK _ _ (by simp) ?_ | refine hK _ _ ?_; clear hK K)
 | (refine zzc ?_)
 | (with_reducible refine awp_regT (by kernel_rfl) ?_; intro K hK)
 | (with_reducible refine awp_regAM (id := 22) [(14, some 14), (84, some 12)] mixed (by kernel_rfl) (by kernel_rfl) ?_; intro K hK)
 | (with_reducible refine awp_regAM (id := 15) [(14, some 14), (41, some 12)] mixed (by kernel_rfl) (by kernel_rfl) ?_; intro K hK)
 | (with_reducible refine a_cond (ht := ?_) (hf := ?_) <;> intro hb <;> (try simp at hb) <;> (try contradiction) <;> (try subst hb) <;> (try omega))
 | (with_reducible first | refine a_move (hr:=?_) | refine a_assign (hr:=?_) | refine a_load (hr:=?_) | refine a_fieldAddr (hr:=?_) | refine a_bin (hr:=?_) | refine a_lenS (hr:=?_) | refine a_lenR (hr:=?_) | refine a_extract (hr:=?_) | refine a_store (hr:=?_) | refine a_alloc (hr:=?_) | refine a_eqI (hr:=?_) | refine a_neI (hr:=?_) | refine a_eqB (hr:=?_) | refine a_neB (hr:=?_) | refine a_idxArr (hr:=?_) | refine a_sliceArr (hr:=?_) | refine a_eqS (hr:=?_) | refine a_neS (hr:=?_) | refine a_sliceS (hr:=?_) | refine a_sliceR (hr:=?_) | refine a_indexAddr (hr:=?_) | refine a_build (hr:=?_) | refine a_buildSlice (hr:=?_) | refine a_maxC (hr:=?_) | refine a_append (hr:=?_) | refine a_append0 (hr:=?_) | refine a_appendX (hr:=?_) | refine a_callF (hcall := q0) (hr:=?_))
 | fail)
  refine awp_inv (α := Nat × Int × List Val × List Pc) (fun s => [(1, gF), (2, .raw (.int .i64 s.2.1)), (6, .ptr 6 0), (10, orow 60 3 (s.2.2.1.map Val.av)), (26, .sl 5 (e.map termAV)), (27, .raw (.int .i64 e.length)), (28, .raw (.int .i64 s.1))]) (fun s => ohp 60 3 (s.2.2.1.map Val.av) (hpL [(6, .box (Val.av zV)), (100000, .box (.sl 4 (vars.map varAV)))])) (fun s => EvI e vars RES s.1 s.2.1 s.2.2.1 s.2.2.2) (fun s => e.length - s.1) (0, F, [], []) start (by rw [← hF]; unfold zV; exact zzw) ?_
  rintro ⟨i, f, st, ps⟩ g
  simp only at g ⊢
  have hf0 := g.f0
  have hle := g.le
  have hiN := g.iN
  unfold zV
  have q60 := c_FOf 60
  rw [show ofE 60 = some (EV.code 60) from rfl] at q60
  simp only [errO_some] at q60
  rcases Nat.lt_or_ge i e.length with hlt | hge
  · have hx := List.getElem?_eq_getElem hlt
    have hd := List.drop_eq_getElem_cons hlt
    obtain ⟨hwt, hov⟩ := hw e[i] (List.getElem_mem hlt)
    generalize e[i] = y at hx hd hwt hov
    obtain ⟨ho, hk⟩ := g.term hd
    have hop := ownE_op ho
    have heq := g.eq
    rw [hd, evL] at heq
    by_cases hfz : f = 0
    · subst hfz
      rw [if_pos rfl] at heq
      rw [← heq] at hQ
      rw [E6.ev_code (show (60 : Int) ≠ 0 by decide)] at hQ
      unfold zV at hQ
      simp only [errO_some] at hQ
      clear heq g hd start
      obtain ⟨op, k, v, s, n⟩ := y
      by_cases hst : st = []
      · subst hst
        repeat' (first
 | (with_reducible refine run_n ?_; with_reducible first | refine hK _ _ (by simp) ?_ | refine hK _ _ ?_; clear hK K)
 | (refine zzc ?_)
 | (with_reducible refine awp_regT (by kernel_rfl) ?_; intro K hK)
 | (with_reducible refine awp_regCM (id := 22) [(14, some 14), (84, some 12)] [(14, some 14), (84, some 12), (85, none), (89, none), (90, none), (92, none), (93, none)] mixed (by kernel_rfl) (by kernel_rfl) (by kernel_rfl) ?_; intro K hK)
 | (with_reducible refine awp_regCM (id := 15) [(14, some 14), (41, some 12)] [(14, some 14), (41, some 12), (42, none), (46, none), (47, none), (51, none), (52, none), (54, none), (55, none)] mixed (by kernel_rfl) (by kernel_rfl) (by kernel_rfl) ?_; intro K hK)
 | (with_reducible refine a_cond (ht := ?_) (hf := ?_) <;> intro hb <;> (try simp at hb) <;> (try contradiction) <;> (try subst hb) <;> (try omega))
 | (with_reducible first | refine a_move (hr:=?_) | refine a_assign (hr:=?_) | refine a_load (hr:=?_) | refine a_fieldAddr (hr:=?_) | refine a_bin (hr:=?_) | refine a_lenS (hr:=?_) | refine a_lenR (hr:=?_) | refine a_extract (hr:=?_) | refine a_store (hr:=?_) | refine a_alloc (hr:=?_) | refine a_eqI (hr:=?_) | refine a_neI (hr:=?_) | refine a_eqB (hr:=?_) | refine a_neB (hr:=?_) | refine a_idxArr (hr:=?_) | refine a_sliceArr (hr:=?_) | refine a_eqS (hr:=?_) | refine a_neS (hr:=?_) | refine a_sliceS (hr:=?_) | refine a_sliceR (hr:=?_) | refine a_indexAddr (hr:=?_) | refine a_build (hr:=?_) | refine a_buildSlice (hr:=?_) | refine a_maxC (hr:=?_) | refine a_append (hr:=?_) | refine a_append0 (hr:=?_) | refine a_appendX (hr:=?_) | refine a_call0 (hcall := q60) (hr:=?_))
 | fail)
        all_goals ((refine zzr hQ ?_))
        all_goals (exact Fin.keep (by simp; exact .r) (by simp; exact .r) (by simp; exact .r) (by simp))
      · have hne : st.map Val.av ≠ [] := by simpa using hst
        rw [orow_ne hne, ohp_ne hne]
        repeat' (first
 | (with_reducible refine run_n ?_; with_reducible first | refine hK _ _ (by simp) ?_ | refine hK _ _ ?_; clear hK K)
 | (refine zzc ?_)
 | (with_reducible refine awp_regT (by kernel_rfl) ?_; intro K hK)
 | (with_reducible refine awp_regCM (id := 22) [(14, some 14), (84, some 12)] [(14, some 14), (84, some 12), (85, none), (89, none), (90, none), (92, none), (93, none)] mixed (by kernel_rfl) (by kernel_rfl) (by kernel_rfl) ?_; intro K hK)
 | (with_reducible refine awp_regCM (id := 15) [(14, some 14), (41, some 12)] [(14, some 14), (41, some 12), (42, none), (46, none), (47, none), (51, none), (52, none), (54, none), (55, none)] mixed (by kernel_rfl) (by kernel_rfl) (by kernel_rfl) ?_; intro K hK)
 | (with_reducible refine a_cond (ht := ?_) (hf := ?_) <;> intro hb <;> (try simp at hb) <;> (try contradiction) <;> (try subst hb) <;> (try omega))
 | (with_reducible first | refine a_move (hr:=?_) | refine a_assign (hr:=?_) | refine a_load (hr:=?_) | refine a_fieldAddr (hr:=?_) | refine a_bin (hr:=?_) | refine a_lenS (hr:=?_) | refine a_lenR (hr:=?_) | refine a_extract (hr:=?_) | refine a_store (hr:=?_) | refine a_alloc (hr:=?_) | refine a_eqI (hr:=?_) | refine a_neI (hr:=?_) | refine a_eqB (hr:=?_) | refine a_neB (hr:=?_) | refine a_idxArr (hr:=?_) | refine a_sliceArr (hr:=?_) | refine a_eqS (hr:=?_) | refine a_neS (hr:=?_) | refine a_sliceS (hr:=?_) | refine a_sliceR (hr:=?_) | refine a_indexAddr (hr:=?_) | refine a_build (hr:=?_) | refine a_buildSlice (hr:=?_) | refine a_maxC (hr:=?_) | refine a_append (hr:=?_) | refine a_append0 (hr:=?_) | refine a_appendX (hr:=?_) | refine a_call0 (hcall := q60) (hr:=?_))
 | fail)
        all_goals ((refine zzr hQ ?_))
        all_goals (exact Fin.keep (by simp; exact .r) (by simp; exact .r) (by simp; exact .r) (by simp))
    rw [if_neg hfz] at heq
    have gn := g.next hd hfz
    by_cases o0 : y.op = 0
    · have hs : stepE vars y st = (valT y, .ok, st) := by unfold stepE; rw [if_pos o0]
      rw [hs] at gn heq
      obtain ⟨ps2, gn2⟩ := gn rfl hv hov
      clear gn
      simp only at gn2
      clear heq g hd start hs hk
      obtain ⟨op, k, v, s, n⟩ := y
      simp only at o0 hop
      subst o0
      unfold valT at gn2
      repeat' (first
 | (with_reducible refine run_n ?_; with_reducible first | refine hK _ _ (by simp) ?_ | refine hK _ _ ?_; clear hK K)
 | (refine zzc ?_)
 | (with_reducible refine awp_regT (by kernel_rfl) ?_; intro K hK)
 | (with_reducible refine awp_regCM (id := 22) [(14, some 14), (84, some 12)] [(14, some 14), (84, some 12), (85, none), (89, none), (90, none), (92, none), (93, none)] mixed (by kernel_rfl) (by kernel_rfl) (by kernel_rfl) ?_; intro K hK)
 | (with_reducible refine awp_regCM (id := 15) [(14, some 14), (41, some 12)] [(14, some 14), (41, some 12), (42, none), (46, none), (47, none), (51, none), (52, none), (54, none), (55, none)] mixed (by kernel_rfl) (by kernel_rfl) (by kernel_rfl) ?_; intro K hK)
 | (with_reducible refine a_cond (ht := ?_) (hf := ?_) <;> intro hb <;> (try simp at hb) <;> (try contradiction) <;> (try subst hb) <;> (try omega))
 | (with_reducible first | refine a_move (hr:=?_) | refine a_assign (hr:=?_) | refine a_load (hr:=?_) | refine a_fieldAddr (hr:=?_) | refine a_bin (hr:=?_) | refine a_lenS (hr:=?_) | refine a_lenR (hr:=?_) | refine a_extract (hr:=?_) | refine a_store (hr:=?_) | refine a_alloc (hr:=?_) | refine a_eqI (hr:=?_) | refine a_neI (hr:=?_) | refine a_eqB (hr:=?_) | refine a_neB (hr:=?_) | refine a_idxArr (hr:=?_) | refine a_sliceArr (hr:=?_) | refine a_eqS (hr:=?_) | refine a_neS (hr:=?_) | refine a_sliceS (hr:=?_) | refine a_sliceR (hr:=?_) | refine a_indexAddr (hr:=?_) | refine a_build (hr:=?_) | refine a_buildSlice (hr:=?_) | refine a_maxC (hr:=?_) | refine a_append (hr:=?_) | refine a_append0 (hr:=?_) | refine a_appendX (hr:=?_) | refine a_call0 (hcall := q60) (hr:=?_))
 | fail)
      exact ⟨(i + 1, f - 1, st ++ [(k, v, s)], ps2), by simp only; omega, gn2, by (try rw [List.map_append, List.map_take]); exact zzx 60 109⟩
    by_cases o3 : y.op < 3
    · have hs : stepE vars y st = ((namE vars y).1, (namE vars y).2, st) := by unfold stepE; rw [if_neg o0, if_pos o3]
      have q1 := c_named vars y (by omega) hvl
      rw [hs] at gn heq
      simp only at gn heq
      generalize namE vars y = r at q1 gn heq
      obtain ⟨⟨rk, rn, rs⟩, er⟩ := r
      simp only at q1 gn heq
      cases her : er.ev with
      | none =>
        rw [her] at q1
        have hbad : er.bad = false := by unfold E6.bad; rw [her]; rfl
        obtain ⟨ps2, gn2⟩ := gn hbad hv hov
        clear gn
        simp only [errO_none] at q1
        clear heq g hd start hs hk her hbad
        obtain ⟨op, k, v, s, n⟩ := y
        simp only at o0 o3 hop
        repeat' (first
 | (with_reducible refine run_n ?_; with_reducible first | refine hK _ _ (by simp) ?_ | refine hK _ _ ?_; clear hK K)
 | (refine zzc ?_)
 | (with_reducible refine awp_regT (by kernel_rfl) ?_; intro K hK)
 | (with_reducible refine awp_regCM (id := 22) [(14, some 14), (84, some 12)] [(14, some 14), (84, some 12), (85, none), (89, none), (90, none), (92, none), (93, none)] mixed (by kernel_rfl) (by kernel_rfl) (by kernel_rfl) ?_; intro K hK)
 | (with_reducible refine awp_regCM (id := 15) [(14, some 14), (41, some 12)] [(14, some 14), (41, some 12), (42, none), (46, none), (47, none), (51, none), (52, none), (54, none), (55, none)] mixed (by kernel_rfl) (by kernel_rfl) (by kernel_rfl) ?_; intro K hK)
 | (with_reducible refine a_cond (ht := ?_) (hf := ?_) <;> intro hb <;> (try simp at hb) <;> (try contradiction) <;> (try subst hb) <;> (try omega))
 | (with_reducible first | refine a_move (hr:=?_) | refine a_assign (hr:=?_) | refine a_load (hr:=?_) | refine a_fieldAddr (hr:=?_) | refine a_bin (hr:=?_) | refine a_lenS (hr:=?_) | refine a_lenR (hr:=?_) | refine a_extract (hr:=?_) | refine a_store (hr:=?_) | refine a_alloc (hr:=?_) | refine a_eqI (hr:=?_) | refine a_neI (hr:=?_) | refine a_eqB (hr:=?_) | refine a_neB (hr:=?_) | refine a_idxArr (hr:=?_) | refine a_sliceArr (hr:=?_) | refine a_eqS (hr:=?_) | refine a_neS (hr:=?_) | refine a_sliceS (hr:=?_) | refine a_sliceR (hr:=?_) | refine a_indexAddr (hr:=?_) | refine a_build (hr:=?_) | refine a_buildSlice (hr:=?_) | refine a_maxC (hr:=?_) | refine a_append (hr:=?_) | refine a_append0 (hr:=?_) | refine a_appendX (hr:=?_) | refine a_callP (p := 100000) (hcall := q1) (hr:=?_))
 | fail)
        exact ⟨(i + 1, f - 1, st ++ [(rk, rn, rs)], ps2), by simp only; omega, gn2, by (try rw [List.map_append, List.map_take]); exact zzx 60 109⟩
      | some ev =>
        rw [if_pos (by unfold E6.bad; rw [her]; rfl)] at heq
        rw [← heq] at hQ
        rw [her] at q1
        simp only [her, errO_some] at q1 hQ
        unfold zV at hQ
        clear heq g hd start hs hk gn her
        obtain ⟨op, k, v, s, n⟩ := y
        simp only at o0 o3 hop
        by_cases hst : st = []
        · subst hst
          repeat' (first
 | (with_reducible refine run_n ?_; with_reducible first | refine hK _ _ (by simp) ?_ | refine hK _ _ ?_; clear hK K)
 | (refine zzc ?_)
 | (with_reducible refine awp_regT (by kernel_rfl) ?_; intro K hK)
 | (with_reducible refine awp_regCM (id := 22) [(14, some 14), (84, some 12)] [(14, some 14), (84, some 12), (85, none), (89, none), (90, none), (92, none), (93, none)] mixed (by kernel_rfl) (by kernel_rfl) (by kernel_rfl) ?_; intro K hK)
 | (with_reducible refine awp_regCM (id := 15) [(14, some 14), (41, some 12)] [(14, some 14), (41, some 12), (42, none), (46, none), (47, none), (51, none), (52, none), (54, none), (55, none)] mixed (by kernel_rfl) (by kernel_rfl) (by kernel_rfl) ?_; intro K hK)
 | (with_reducible refine a_cond (ht := ?_) (hf := ?_) <;> intro hb <;> (try simp at hb) <;> (try contradiction) <;> (try subst hb) <;> (try omega))
 | (with_reducible first | refine a_move (hr:=?_) | refine a_assign (hr:=?_) | refine a_load (hr:=?_) | refine a_fieldAddr (hr:=?_) | refine a_bin (hr:=?_) | refine a_lenS (hr:=?_) | refine a_lenR (hr:=?_) | refine a_extract (hr:=?_) | refine a_store (hr:=?_) | refine a_alloc (hr:=?_) | refine a_eqI (hr:=?_) | refine a_neI (hr:=?_) | refine a_eqB (hr:=?_) | refine a_neB (hr:=?_) | refine a_idxArr (hr:=?_) | refine a_sliceArr (hr:=?_) | refine a_eqS (hr:=?_) | refine a_neS (hr:=?_) | refine a_sliceS (hr:=?_) | refine a_sliceR (hr:=?_) | refine a_indexAddr (hr:=?_) | refine a_build (hr:=?_) | refine a_buildSlice (hr:=?_) | refine a_maxC (hr:=?_) | refine a_append (hr:=?_) | refine a_append0 (hr:=?_) | refine a_appendX (hr:=?_) | refine a_callP (p := 100000) (hcall := q1) (hr:=?_))
 | fail)
          all_goals ((refine zzr hQ ?_))
          all_goals (exact Fin.keep (by simp; exact .r) (by simp; exact .r) (by simp; exact .r) (by simp))
        · have hne : st.map Val.av ≠ [] := by simpa using hst
          rw [orow_ne hne, ohp_ne hne]
          repeat' (first
 | (with_reducible refine run_n ?_; with_reducible first | refine hK _ _ (by simp) ?_ | refine hK _ _ ?_; clear hK K)
 | (refine zzc ?_)
 | (with_reducible refine awp_regT (by kernel_rfl) ?_; intro K hK)
 | (with_reducible refine awp_regCM (id := 22) [(14, some 14), (84, some 12)] [(14, some 14), (84, some 12), (85, none), (89, none), (90, none), (92, none), (93, none)] mixed (by kernel_rfl) (by kernel_rfl) (by kernel_rfl) ?_; intro K hK)
 | (with_reducible refine awp_regCM (id := 15) [(14, some 14), (41, some 12)] [(14, some 14), (41, some 12), (42, none), (46, none), (47, none), (51, none), (52, none), (54, none), (55, none)] mixed (by kernel_rfl) (by kernel_rfl) (by kernel_rfl) ?_; intro K hK)
 | (with_reducible refine a_cond (ht := ?_) (hf := ?_) <;> intro hb <;> (try simp at hb) <;> (try contradiction) <;> (try subst hb) <;> (try omega))
 | (with_reducible first | refine a_move (hr:=?_) | refine a_assign (hr:=?_) | refine a_load (hr:=?_) | refine a_fieldAddr (hr:=?_) | refine a_bin (hr:=?_) | refine a_lenS (hr:=?_) | refine a_lenR (hr:=?_) | refine a_extract (hr:=?_) | refine a_store (hr:=?_) | refine a_alloc (hr:=?_) | refine a_eqI (hr:=?_) | refine a_neI (hr:=?_) | refine a_eqB (hr:=?_) | refine a_neB (hr:=?_) | refine a_idxArr (hr:=?_) | refine a_sliceArr (hr:=?_) | refine a_eqS (hr:=?_) | refine a_neS (hr:=?_) | refine a_sliceS (hr:=?_) | refine a_sliceR (hr:=?_) | refine a_indexAddr (hr:=?_) | refine a_build (hr:=?_) | refine a_buildSlice (hr:=?_) | refine a_maxC (hr:=?_) | refine a_append (hr:=?_) | refine a_append0 (hr:=?_) | refine a_appendX (hr:=?_) | refine a_callP (p := 100000) (hcall := q1) (hr:=?_))
 | fail)
          all_goals ((refine zzr hQ ?_))
          all_goals (exact Fin.keep (by simp; exact .r) (by simp; exact .r) (by simp; exact .r) (by simp))
    have hst : st ≠ [] := by
      intro h
      subst h
      unfold takesE at hk
      rw [if_neg o3] at hk
      split at hk <;> simp at hk
    have hsl : 0 < st.length := List.length_pos_iff.2 hst
    have hne : st.map Val.av ≠ [] := by simpa using hst
    have hx2 : st[st.length - 1]? = some st[st.length - 1] := List.getElem?_eq_getElem (by omega)
    have hok2 := g.ok st[st.length - 1] (List.getElem_mem (by omega))
    generalize st[st.length - 1] = z at hx2 hok2
    rw [orow_ne hne, ohp_ne hne]
    by_cases o6 : y.op < 6
    · have hs : stepE vars y st = ((oneE y.op z).1, .code (oneE y.op z).2, st.take (st.length - 1)) := by unfold stepE; rw [if_neg o0, if_neg o3, if_pos o6, hx2]; rfl
      have q1 := c_One y.op z hok2.1 (by have := hok2.2; omega)
      rw [hs] at gn heq
      simp only at gn heq
      generalize oneE y.op z = r at q1 gn heq
      obtain ⟨⟨rk, rn, rs⟩, c⟩ := r
      simp only at q1 gn heq
      have q2 := c_coded (rk, rn, rs) c
      by_cases hc : c = 0
      · subst hc
        obtain ⟨ps2, gn2⟩ := gn rfl hv hov
        clear gn
        rw [show ofE 0 = none from rfl] at q2
        simp only [errO_none] at q2
        clear heq g hd start hs hk
        obtain ⟨op, k, v, s, n⟩ := y
        obtain ⟨zk, zn, zs⟩ := z
        simp only at o0 o3 o6 hop q1
        repeat' (first
 | (with_reducible refine run_n ?_; with_reducible first | refine hK _ _ (by simp) ?_ | refine hK _ _ ?_; clear hK K)
 | (refine zzc ?_)
 | (with_reducible refine awp_regT (by kernel_rfl) ?_; intro K hK)
 | (with_reducible refine awp_regAM (id := 22) [(14, some 14), (84, some 12)] mixed (by kernel_rfl) (by kernel_rfl) ?_; intro K hK)
 | (with_reducible refine awp_regAM (id := 15) [(14, some 14), (41, some 12)] mixed (by kernel_rfl) (by kernel_rfl) ?_; intro K hK)
 | (with_reducible refine a_cond (ht := ?_) (hf := ?_) <;> intro hb <;> (try simp at hb) <;> (try contradiction) <;> (try subst hb) <;> (try omega))
 | (with_reducible first | refine a_move (hr:=?_) | refine a_assign (hr:=?_) | refine a_load (hr:=?_) | refine a_fieldAddr (hr:=?_) | refine a_bin (hr:=?_) | refine a_lenS (hr:=?_) | refine a_lenR (hr:=?_) | refine a_extract (hr:=?_) | refine a_store (hr:=?_) | refine a_alloc (hr:=?_) | refine a_eqI (hr:=?_) | refine a_neI (hr:=?_) | refine a_eqB (hr:=?_) | refine a_neB (hr:=?_) | refine a_idxArr (hr:=?_) | refine a_sliceArr (hr:=?_) | refine a_eqS (hr:=?_) | refine a_neS (hr:=?_) | refine a_sliceS (hr:=?_) | refine a_sliceR (hr:=?_) | refine a_indexAddr (hr:=?_) | refine a_build (hr:=?_) | refine a_buildSlice (hr:=?_) | refine a_maxC (hr:=?_) | refine a_append (hr:=?_) | refine a_append0 (hr:=?_) | refine a_appendX (hr:=?_) | refine a_call0 (hcall := q1) (hr:=?_) | refine a_call0 (hcall := q2) (hr:=?_))
 | fail)
        exact ⟨(i + 1, f - 1, st.take (st.length - 1) ++ [(rk, rn, rs)], ps2), by simp only; omega, gn2, by rw [List.map_append, List.map_take]; exact zzx 60 109⟩
      · rw [if_pos (by unfold E6.bad; rw [E6.ev_code hc]; rfl)] at heq
        rw [← heq] at hQ
        rw [show ofE c = some (EV.code c) from if_neg hc] at q2
        simp only [E6.ev_code hc, errO_some] at q2 hQ
        unfold zV at hQ
        clear heq g hd start hs hk gn
        obtain ⟨op, k, v, s, n⟩ := y
        obtain ⟨zk, zn, zs⟩ := z
        simp only at o0 o3 o6 hop q1
        repeat' (first
 | (with_reducible refine run_n ?_; with_reducible first | refine hK _ _ (by simp) ?_ | refine hK _ _ ?_; clear hK K)
 | (refine zzc ?_)
 | (with_reducible refine awp_regT (by kernel_rfl) ?_; intro K hK)
 | (with_reducible refine awp_regAM (id := 22) [(14, some 14), (84, some 12)] mixed (by kernel_rfl) (by kernel_rfl) ?_; intro K hK)
 | (with_reducible refine awp_regAM (id := 15) [(14, some 14), (41, some 12)] mixed (by kernel_rfl) (by kernel_rfl) ?_; intro K hK)
 | (with_reducible refine a_cond (ht := ?_) (hf := ?_) <;> intro hb <;> (try simp at hb) <;> (try contradiction) <;> (try subst hb) <;> (try omega))
 | (with_reducible first | refine a_move (hr:=?_) | refine a_assign (hr:=?_) | refine a_load (hr:=?_) | refine a_fieldAddr (hr:=?_) | refine a_bin (hr:=?_) | refine a_lenS (hr:=?_) | refine a_lenR (hr:=?_) | refine a_extract (hr:=?_) | refine a_store (hr:=?_) | refine a_alloc (hr:=?_) | refine a_eqI (hr:=?_) | refine a_neI (hr:=?_) | refine a_eqB (hr:=?_) | refine a_neB (hr:=?_) | refine a_idxArr (hr:=?_) | refine a_sliceArr (hr:=?_) | refine a_eqS (hr:=?_) | refine a_neS (hr:=?_) | refine a_sliceS (hr:=?_) | refine a_sliceR (hr:=?_) | refine a_indexAddr (hr:=?_) | refine a_build (hr:=?_) | refine a_buildSlice (hr:=?_) | refine a_maxC (hr:=?_) | refine a_append (hr:=?_) | refine a_append0 (hr:=?_) | refine a_appendX (hr:=?_) | refine a_call0 (hcall := q1) (hr:=?_) | refine a_call0 (hcall := q2) (hr:=?_))
 | fail)
        all_goals ((refine zzr hQ ?_))
        all_goals (exact Fin.keep (by simp; exact .r) (by simp; exact .r) (by simp; exact .r) (by simp))
    have hsl2 : 2 ≤ st.length := by
      unfold takesE at hk
      rw [if_neg o3, if_neg o6] at hk
      exact hk
    have hx3 : st[st.length - 2]? = some st[st.length - 2] := List.getElem?_eq_getElem (by omega)
    have hok3 := g.ok st[st.length - 2] (List.getElem_mem (by omega))
    generalize st[st.length - 2] = w at hx3 hok3
    have hs : stepE vars y st = ((twoE y.op w z).1, .code (twoE y.op w z).2, st.take (st.length - 2)) := by unfold stepE; rw [if_neg o0, if_neg o3, if_neg o6, hx2, hx3]; rfl
    have q1 := c_Two y.op w z hok3.1 hok2.1 (by have := hok3.2; omega) (by have := hok2.2; omega)
    rw [hs] at gn heq
    simp only at gn heq
    generalize twoE y.op w z = r at q1 gn heq
    obtain ⟨⟨rk, rn, rs⟩, c⟩ := r
    simp only at q1 gn heq
    have q2 := c_coded (rk, rn, rs) c
    by_cases hc : c = 0
    · subst hc
      obtain ⟨ps2, gn2⟩ := gn rfl hv hov
      clear gn
      rw [show ofE 0 = none from rfl] at q2
      simp only [errO_none] at q2
      clear heq g hd start hs hk
      obtain ⟨op, k, v, s, n⟩ := y
      obtain ⟨zk, zn, zs⟩ := z
      obtain ⟨wk, wn, ws⟩ := w
      simp only at o0 o3 o6 hop q1
      repeat' (first
 | (with_reducible refine run_n ?_; with_reducible first | refine hK _ _ (by simp) ?_ | refine hK _ _ ?_; clear hK K)
 | (refine zzc ?_)
 | (with_reducible refine awp_regT (by kernel_rfl) ?_; intro K hK)
 | (with_reducible refine awp_regAM (id := 22) [(14, some 14), (84, some 12)] mixed (by kernel_rfl) (by kernel_rfl) ?_; intro K hK)
 | (with_reducible refine awp_regAM (id := 15) [(14, some 14), (41, some 12)] mixed (by kernel_rfl) (by kernel_rfl) ?_; intro K hK)
 | (with_reducible refine a_cond (ht := ?_) (hf := ?_) <;> intro hb <;> (try simp at hb) <;> (try contradiction) <;> (try subst hb) <;> (try omega))
 | (with_reducible first | refine a_move (hr:=?_) | refine a_assign (hr:=?_) | refine a_load (hr:=?_) | refine a_fieldAddr (hr:=?_) | refine a_bin (hr:=?_) | refine a_lenS (hr:=?_) | refine a_lenR (hr:=?_) | refine a_extract (hr:=?_) | refine a_store (hr:=?_) | refine a_alloc (hr:=?_) | refine a_eqI (hr:=?_) | refine a_neI (hr:=?_) | refine a_eqB (hr:=?_) | refine a_neB (hr:=?_) | refine a_idxArr (hr:=?_) | refine a_sliceArr (hr:=?_) | refine a_eqS (hr:=?_) | refine a_neS (hr:=?_) | refine a_sliceS (hr:=?_) | refine a_sliceR (hr:=?_) | refine a_indexAddr (hr:=?_) | refine a_build (hr:=?_) | refine a_buildSlice (hr:=?_) | refine a_maxC (hr:=?_) | refine a_append (hr:=?_) | refine a_append0 (hr:=?_) | refine a_appendX (hr:=?_))
 | fail)
      clear hx
      have hx := hx3
      repeat' (first
 | (with_reducible refine run_n ?_; with_reducible first | refine hK _ _ (by simp) ?_ | refine hK _ _ ?_; clear hK K)
 | (refine zzc ?_)
 | (with_reducible refine awp_regT (by kernel_rfl) ?_; intro K hK)
 | (with_reducible refine awp_regAM (id := 22) [(14, some 14), (84, some 12)] mixed (by kernel_rfl) (by kernel_rfl) ?_; intro K hK)
 | (with_reducible refine awp_regAM (id := 15) [(14, some 14), (41, some 12)] mixed (by kernel_rfl) (by kernel_rfl) ?_; intro K hK)
 | (with_reducible refine a_cond (ht := ?_) (hf := ?_) <;> intro hb <;> (try simp at hb) <;> (try contradiction) <;> (try subst hb) <;> (try omega))
 | (with_reducible first | refine a_move (hr:=?_) | refine a_assign (hr:=?_) | refine a_load (hr:=?_) | refine a_fieldAddr (hr:=?_) | refine a_bin (hr:=?_) | refine a_lenS (hr:=?_) | refine a_lenR (hr:=?_) | refine a_extract (hr:=?_) | refine a_store (hr:=?_) | refine a_alloc (hr:=?_) | refine a_eqI (hr:=?_) | refine a_neI (hr:=?_) | refine a_eqB (hr:=?_) | refine a_neB (hr:=?_) | refine a_idxArr (hr:=?_) | refine a_sliceArr (hr:=?_) | refine a_eqS (hr:=?_) | refine a_neS (hr:=?_) | refine a_sliceS (hr:=?_) | refine a_sliceR (hr:=?_) | refine a_indexAddr (hr:=?_) | refine a_build (hr:=?_) | refine a_buildSlice (hr:=?_) | refine a_maxC (hr:=?_) | refine a_append (hr:=?_) | refine a_append0 (hr:=?_) | refine a_appendX (hr:=?_) | refine a_call0 (hcall := q1) (hr:=?_) | refine a_call0 (hcall := q2) (hr:=?_))
 | fail)
      exact ⟨(i + 1, f - 1, st.take (st.length - 2) ++ [(rk, rn, rs)], ps2), by simp only; omega, gn2, by rw [List.map_append, List.map_take]; exact zzx 60 109⟩
    · rw [if_pos (by unfold E6.bad; rw [E6.ev_code hc]; rfl)] at heq
      rw [← heq] at hQ
      rw [show ofE c = some (EV.code c) from if_neg hc] at q2
      simp only [E6.ev_code hc, errO_some] at q2 hQ
      unfold zV at hQ
      clear heq g hd start hs hk gn
      obtain ⟨op, k, v, s, n⟩ := y
      obtain ⟨zk, zn, zs⟩ := z
      obtain ⟨wk, wn, ws⟩ := w
      simp only at o0 o3 o6 hop q1
      repeat' (first
 | (with_reducible refine run_n ?_; with_reducible first | refine hK _ _ (by simp) ?_ | refine hK _ _ ?_; clear hK K)
 | (refine zzc ?_)
 | (with_reducible refine awp_regT (by kernel_rfl) ?_; intro K hK)
 | (with_reducible refine awp_regAM (id := 22) [(14, some 14), (84, some 12)] mixed (by kernel_rfl) (by kernel_rfl) ?_; intro K hK)
 | (with_reducible refine awp_regAM (id := 15) [(14, some 14), (41, some 12)] mixed (by kernel_rfl) (by kernel_rfl) ?_; intro K hK)
 | (with_reducible refine a_cond (ht := ?_) (hf := ?_) <;> intro hb <;> (try simp at hb) <;> (try contradiction) <;> (try subst hb) <;> (try omega))
 | (with_reducible first | refine a_move (hr:=?_) | refine a_assign (hr:=?_) | refine a_load (hr:=?_) | refine a_fieldAddr (hr:=?_) | refine a_bin (hr:=?_) | refine a_lenS (hr:=?_) | refine a_lenR (hr:=?_) | refine a_extract (hr:=?_) | refine a_store (hr:=?_) | refine a_alloc (hr:=?_) | refine a_eqI (hr:=?_) | refine a_neI (hr:=?_) | refine a_eqB (hr:=?_) | refine a_neB (hr:=?_) | refine a_idxArr (hr:=?_) | refine a_sliceArr (hr:=?_) | refine a_eqS (hr:=?_) | refine a_neS (hr:=?_) | refine a_sliceS (hr:=?_) | refine a_sliceR (hr:=?_) | refine a_indexAddr (hr:=?_) | refine a_build (hr:=?_) | refine a_buildSlice (hr:=?_) | refine a_maxC (hr:=?_) | refine a_append (hr:=?_) | refine a_append0 (hr:=?_) | refine a_appendX (hr:=?_))
 | fail)
      clear hx
      have hx := hx3
      repeat' (first
 | (with_reducible refine run_n ?_; with_reducible first | refine hK _ _ (by simp) ?_ | refine hK _ _ ?_; clear hK K)
 | (refine zzc ?_)
 | (with_reducible refine awp_regT (by kernel_rfl) ?_; intro K hK)
 | (with_reducible refine awp_regAM (id := 22) [(14, some 14), (84, some 12)] mixed (by kernel_rfl) (by kernel_rfl) ?_; intro K hK)
 | (with_reducible refine awp_regAM (id := 15) [(14, some 14), (41, some 12)] mixed (by kernel_rfl) (by kernel_rfl) ?_; intro K hK)
 | (with_reducible refine a_cond (ht := ?_) (hf := ?_) <;> intro hb <;> (try simp at hb) <;> (try contradiction) <;> (try subst hb) <;> (try omega))
 | (with_reducible first | refine a_move (hr:=?_) | refine a_assign (hr:=?_) | refine a_load (hr:=?_) | refine a_fieldAddr (hr:=?_) | refine a_bin (hr:=?_) | refine a_lenS (hr:=?_) | refine a_lenR (hr:=?_) | refine a_extract (hr:=?_) | refine a_store (hr:=?_) | refine a_alloc (hr:=?_) | refine a_eqI (hr:=?_) | refine a_neI (hr:=?_) | refine a_eqB (hr:=?_) | refine a_neB (hr:=?_) | refine a_idxArr (hr:=?_) | refine a_sliceArr (hr:=?_) | refine a_eqS (hr:=?_) | refine a_neS (hr:=?_) | refine a_sliceS (hr:=?_) | refine a_sliceR (hr:=?_) | refine a_indexAddr (hr:=?_) | refine a_build (hr:=?_) | refine a_buildSlice (hr:=?_) | refine a_maxC (hr:=?_) | refine a_append (hr:=?_) | refine a_append0 (hr:=?_) | refine a_appendX (hr:=?_) | refine a_call0 (hcall := q1) (hr:=?_) | refine a_call0 (hcall := q2) (hr:=?_))
 | fail)
      all_goals ((refine zzr hQ ?_))
      all_goals (exact Fin.keep (by simp; exact .r) (by simp; exact .r) (by simp; exact .r) (by simp))
  · obtain rfl : i = e.length := by omega
    have heq := g.eq
    have hwh := g.wh
    have hln := g.ln
    rw [List.drop_length, wholeL] at hwh
    rw [List.drop_length, evL] at heq
    rw [← heq] at hQ
    have h1 : st.length = 1 := by rw [← hln]; exact hwh.2
    clear heq hwh hln g start
    rcases st with _ | ⟨a, _ | ⟨b, l⟩⟩
    · cases h1
    · obtain ⟨ak, an, av⟩ := a
      simp only [List.headD_cons, E6.ev_ok, errO_none] at hQ
      repeat' (first
 | (with_reducible refine run_n ?_; with_reducible first | refine hK _ _ (by simp) ?_ | refine hK _ _ ?_; clear hK K)
 | (refine zzc ?_)
 | (with_reducible refine awp_regT (by kernel_rfl) ?_; intro K hK)
 | (with_reducible refine awp_regAM (id := 22) [(14, some 14), (84, some 12)] mixed (by kernel_rfl) (by kernel_rfl) ?_; intro K hK)
 | (with_reducible refine awp_regAM (id := 15) [(14, some 14), (41, some 12)] mixed (by kernel_rfl) (by kernel_rfl) ?_; intro K hK)
 | (with_reducible refine a_cond (ht := ?_) (hf := ?_) <;> intro hb <;> (try simp at hb) <;> (try contradiction) <;> (try subst hb) <;> (try omega))
 | (with_reducible first | refine a_move (hr:=?_) | refine a_assign (hr:=?_) | refine a_load (hr:=?_) | refine a_fieldAddr (hr:=?_) | refine a_bin (hr:=?_) | refine a_lenS (hr:=?_) | refine a_lenR (hr:=?_) | refine a_extract (hr:=?_) | refine a_store (hr:=?_) | refine a_alloc (hr:=?_) | refine a_eqI (hr:=?_) | refine a_neI (hr:=?_) | refine a_eqB (hr:=?_) | refine a_neB (hr:=?_) | refine a_idxArr (hr:=?_) | refine a_sliceArr (hr:=?_) | refine a_eqS (hr:=?_) | refine a_neS (hr:=?_) | refine a_sliceS (hr:=?_) | refine a_sliceR (hr:=?_) | refine a_indexAddr (hr:=?_) | refine a_build (hr:=?_) | refine a_buildSlice (hr:=?_) | refine a_maxC (hr:=?_) | refine a_append (hr:=?_) | refine a_append0 (hr:=?_) | refine a_appendX (hr:=?_))
 | fail)
      all_goals ((refine zzr hQ ?_))
      all_goals (exact Fin.keep (by simp; exact .r) (by simp; exact .r) (by simp; exact .r) (by simp))
    · simp at h1
end Go.Proofs.YtjbbnollidcagaaDoor.Asl

namespace Go.Proofs.YtjbbnollidcagaaDoor.Asl
open Go Go.RowKit
open Go.Proofs.YtjbbnollidcagaaDoor.Errs (EV)
set_option linter.unusedVariables false
set_option linter.unusedSimpArgs false
set_option maxRecDepth 100000
set_option maxHeartbeats 4000000
theorem c_Of (e : List TermV) (vars : List VarV) (fuel : Int) (hw : ∀ t ∈ e, wfT t ∧ okV (valT t)) (hl : e.length ≤ 140737488351232) (hv : ∀ x ∈ vars, okV (x.k, x.v, x.s)) (hvl : vars.length < 9223372036854775808) (hfu : inR fuel) : CallD Tryd.prog 18 [.sl 5 (e.map termAV), .sl 4 (vars.map varAV), .raw (.int .i64 fuel)] noHeap (.tup [Val.av (ofE6 e vars fuel).1, .raw (.int .i64 (ofE6 e vars fuel).2.1), errO (ofE6 e vars fuel).2.2.ev]) noHeap := by
  have q := c_Eval e vars fuel hw hl hv hvl hfu
  generalize ofE6 e vars fuel = r at q ⊢
  obtain ⟨⟨k, n, s⟩, f, x⟩ := r
  simp only at q ⊢
  generalize x.ev = y at q ⊢
  refine zzg (nt := 16) (rs := [.cell 6 23, .tmp 7, .tmp 8]) Tryd.func18 ?_; intro Q hQ hW
  repeat' (first
 | (with_reducible refine run_n ?_; with_reducible first | refine hK _ _ (by simp) ?_ | refine hK _ _ ?_; clear hK K)
 | (refine zzc ?_)
 | (with_reducible refine awp_regT (by kernel_rfl) ?_; intro K hK)
 | (with_reducible refine a_cond (ht := ?_) (hf := ?_) <;> intro hb <;> (try simp at hb) <;> (try contradiction) <;> (try subst hb) <;> (try omega))
 | (with_reducible first | refine a_move (hr:=?_) | refine a_assign (hr:=?_) | refine a_extract (hr:=?_) | refine a_store (hr:=?_) | refine a_box (hr:=?_) | refine a_alloc (hr:=?_) | refine a_makeFunc (hr:=?_) | refine a_eqI (hr:=?_) | refine a_neI (hr:=?_) | refine a_callP (p := 4) (hcall := q) (hr:=?_))
 | fail)
  all_goals ((refine zzr hQ ?_))
  all_goals (exact zzd)
end Go.Proofs.YtjbbnollidcagaaDoor.Asl

namespace Go.Proofs.YtjbbnollidcagaaDoor.Asl
open Go Go.RowKit
open Go.Proofs.YtjbbnollidcagaaDoor.Errs (EV)
set_option linter.unusedVariables false
set_option linter.unusedSimpArgs false
set_option maxRecDepth 100000
set_option maxHeartbeats 8000000
theorem c_rGet (l : List VarV) (m : ByteArray) (hl : l.length < 9223372036854775808) : CallD Tryd.prog 51 [.sl 4 (l.map varAV), .raw (.string m)] noHeap (gtAV (getV l m)) noHeap := by
  refine zzg (nt := 22) (rs := [.cell 4 23, .tmp 5]) Tryd.func51 ?_; intro Q hQ hW
  repeat' (first
 | (with_reducible refine run_n ?_; with_reducible first | refine hK _ _ (by simp) ?_ | refine hK _ _ ?_; clear hK K)
 | (refine zzc ?_)
 | (with_reducible refine awp_regT (by kernel_rfl) ?_; intro K hK)
 | (with_reducible refine a_cond (ht := ?_) (hf := ?_) <;> intro hb <;> (try simp at hb) <;> (try contradiction) <;> (try subst hb) <;> (try omega))
 | (with_reducible first | refine a_move (hr:=?_) | refine a_assign (hr:=?_) | refine a_load (hr:=?_) | refine a_fieldAddr (hr:=?_) | refine a_bin (hr:=?_) | refine a_lenS (hr:=?_) | refine a_lenR (hr:=?_) | refine a_store (hr:=?_) | refine a_alloc (hr:=?_) | refine a_eqB (hr:=?_) | refine a_idxArr (hr:=?_) | refine a_eqS (hr:=?_) | refine a_indexAddr (hr:=?_) | refine a_build (hr:=?_))
 | fail)
  refine awp_inv (α := Nat) (fun i => [(1, .raw (.string m)), (4, .ptr 4 0), (5, .raw (.bool false)), (8, .sl 4 (l.map varAV)), (9, .raw (.int .i64 l.length)), (10, .raw (.int .i64 i))]) (fun _ => hpL [(4, .box (valAV 0 0 ⟨#[]⟩))]) (fun i => i ≤ l.length ∧ getV (l.drop i) m = getV l m) (fun i => l.length - i) 0 ⟨by simp, by simp⟩ (zzw) ?_
  rintro i ⟨g1, g2⟩
  rw [← g2] at hQ
  rcases Nat.lt_or_ge i l.length with hlt | hge
  · have hx := List.getElem?_eq_getElem hlt
    rw [List.drop_eq_getElem_cons hlt] at g2 hQ
    generalize l[i] = y at hx g2 hQ
    obtain ⟨yn, yk, yv, ys⟩ := y
    simp only [getV] at g2 hQ
    by_cases h1 : yn = m
    · rw [if_pos h1] at hQ
      subst h1
      repeat' (first
 | (with_reducible refine run_n ?_; with_reducible first | refine hK _ _ (by simp) ?_ | refine hK _ _ ?_; clear hK K)
 | (refine zzc ?_)
 | (with_reducible refine awp_regT (by kernel_rfl) ?_; intro K hK)
 | (with_reducible refine a_cond (ht := ?_) (hf := ?_) <;> intro hb <;> (try simp at hb) <;> (try contradiction) <;> (try subst hb) <;> (try omega))
 | (with_reducible first | refine a_move (hr:=?_) | refine a_assign (hr:=?_) | refine a_load (hr:=?_) | refine a_fieldAddr (hr:=?_) | refine a_bin (hr:=?_) | refine a_lenS (hr:=?_) | refine a_lenR (hr:=?_) | refine a_store (hr:=?_) | refine a_alloc (hr:=?_) | refine a_eqB (hr:=?_) | refine a_idxArr (hr:=?_) | refine a_eqS (hr:=?_) | refine a_indexAddr (hr:=?_) | refine a_build (hr:=?_))
 | fail)
      (refine zzr hQ ?_)
      exact zzd
    · rw [if_neg h1] at g2 hQ
      repeat' (first
 | (with_reducible refine run_n ?_; with_reducible first | refine hK _ _ (by simp) ?_ | refine hK _ _ ?_; clear hK K)
 | (refine zzc ?_)
 | (with_reducible refine awp_regT (by kernel_rfl) ?_; intro K hK)
 | (with_reducible refine a_cond (ht := ?_) (hf := ?_) <;> intro hb <;> (try simp at hb) <;> (try contradiction) <;> (try subst hb) <;> (try omega))
 | (with_reducible first | refine a_move (hr:=?_) | refine a_assign (hr:=?_) | refine a_load (hr:=?_) | refine a_fieldAddr (hr:=?_) | refine a_bin (hr:=?_) | refine a_lenS (hr:=?_) | refine a_lenR (hr:=?_) | refine a_store (hr:=?_) | refine a_alloc (hr:=?_) | refine a_eqB (hr:=?_) | refine a_idxArr (hr:=?_) | refine a_eqS (hr:=?_) | refine a_indexAddr (hr:=?_) | refine a_build (hr:=?_))
 | fail)
      exact ⟨i + 1, by omega, ⟨by omega, g2⟩, zzw⟩
  · obtain rfl : i = l.length := by omega
    rw [List.drop_length] at hQ
    simp only [getV] at hQ
    repeat' (first
 | (with_reducible refine run_n ?_; with_reducible first | refine hK _ _ (by simp) ?_ | refine hK _ _ ?_; clear hK K)
 | (refine zzc ?_)
 | (with_reducible refine awp_regT (by kernel_rfl) ?_; intro K hK)
 | (with_reducible refine a_cond (ht := ?_) (hf := ?_) <;> intro hb <;> (try simp at hb) <;> (try contradiction) <;> (try subst hb) <;> (try omega))
 | (with_reducible first | refine a_move (hr:=?_) | refine a_assign (hr:=?_) | refine a_load (hr:=?_) | refine a_fieldAddr (hr:=?_) | refine a_bin (hr:=?_) | refine a_lenS (hr:=?_) | refine a_lenR (hr:=?_) | refine a_store (hr:=?_) | refine a_alloc (hr:=?_) | refine a_eqB (hr:=?_) | refine a_idxArr (hr:=?_) | refine a_eqS (hr:=?_) | refine a_indexAddr (hr:=?_) | refine a_build (hr:=?_))
 | fail)
    (refine zzr hQ ?_)
    exact zzd
def E6.re : E6 → RE
  | .ok => ⟨false, [], 0, false, ⟨#[]⟩, ⟨#[]⟩⟩
  | .code c => ⟨!decide (c = 0), [], c, false, ⟨#[]⟩, ⟨#[]⟩⟩
  | .unset n => ⟨true, [n], 61, false, ⟨#[]⟩, ⟨#[]⟩⟩
@[simp] theorem re_ok : E6.ok.re = ⟨false, [], 0, false, ⟨#[]⟩, ⟨#[]⟩⟩ := rfl
@[simp] theorem re_unset (n : ByteArray) : (E6.unset n).re = ⟨true, [n], 61, false, ⟨#[]⟩, ⟨#[]⟩⟩ := rfl
end Go.Proofs.YtjbbnollidcagaaDoor.Asl

namespace Go.Proofs.YtjbbnollidcagaaDoor.Asl
open Go Go.RowKit
open Go.Proofs.YtjbbnollidcagaaDoor.Errs (EV)
set_option linter.unusedVariables false
set_option linter.unusedSimpArgs false
set_option maxRecDepth 100000
set_option maxHeartbeats 8000000
deriving instance DecidableEq for E6
theorem c_num6 (n : Int) : CallD Tryd.prog 21 [.raw (.int .i64 n)] noHeap (valAV 1 n ⟨#[]⟩) noHeap := by
  refine zzg (nt := 5) (rs := [.cell 2 23]) Tryd.func21 ?_; intro Q hQ hW
  repeat' (first
 | (with_reducible refine run_n ?_; with_reducible first | refine hK _ _ (by simp) ?_ | refine hK _ _ ?_; clear hK K)
 | (refine zzc ?_)
 | (with_reducible refine awp_regT (by kernel_rfl) ?_; intro K hK)
 | (with_reducible refine a_cond (ht := ?_) (hf := ?_) <;> intro hb <;> (try simp at hb) <;> (try contradiction) <;> (try subst hb) <;> (try omega))
 | (with_reducible first | refine a_move (hr:=?_) | refine a_store (hr:=?_) | refine a_alloc (hr:=?_) | refine a_build (hr:=?_))
 | fail)
  all_goals ((refine zzr hQ ?_))
  all_goals (exact zzd)
def l6E : List TermV := [⟨1, 0, 0, ⟨#[]⟩, ⟨#[97]⟩⟩, ⟨0, 1, 1, ⟨#[]⟩, ⟨#[]⟩⟩, ⟨9, 0, 0, ⟨#[]⟩, ⟨#[]⟩⟩]
def l6V : List VarV := [⟨⟨#[97]⟩, 1, 2, ⟨#[]⟩⟩]
theorem l6_9 : ofE6 l6E l6V 9 = ((1, 3, ⟨#[]⟩), 6, .ok) := by decide +kernel
theorem l6_1 : ofE6 l6E l6V 1 = (zV, 0, .code 60) := by decide +kernel
theorem l6_T : twoE 7 (1, 1, ⟨#[]⟩) (1, 0, ⟨#[]⟩) = (zV, 62) := by decide +kernel
theorem l6_w : ∀ t ∈ l6E, wfT t ∧ okV (valT t) := by
  unfold wfT okV valT inR l6E
  simp
theorem l6_v : ∀ x ∈ l6V, okV (x.k, x.v, x.s) := by
  unfold okV inR l6V
  simp
theorem c_live6 : CallD Tryd.prog 11 [] noHeap (.raw (.bool true)) noHeap := by
  have q1 := c_Of l6E l6V 9 l6_w (by decide) l6_v (by decide) (by unfold inR; decide)
  have q2 := c_Of l6E l6V 1 l6_w (by decide) l6_v (by decide) (by unfold inR; decide)
  have q3 := c_Two 7 (1, 1, ⟨#[]⟩) (1, 0, ⟨#[]⟩) (by unfold inR; decide) (by unfold inR; decide) (by decide) (by decide)
  have q4 : CallD Tryd.prog 19 [.ifc 25 (.raw (.int .i64 60))] noHeap (.raw (.int .i64 60)) noHeap := c_FCode (some (.code 60))
  rw [l6_9] at q1
  rw [l6_1, E6.ev_code (by decide)] at q2
  rw [l6_T] at q3
  have n1 := c_num6 1
  have n2 := c_num6 2
  have n0 := c_num6 0
  have n3 := c_num6 3
  unfold l6E l6V at q1 q2
  unfold zV at q2 q3
  simp only [List.map_cons, List.map_nil, termAV, varAV, E6.ev_ok, errO_none, errO_some, Val.av] at q1 q2 q3
  refine zzg (nt := 63) (rs := [.tmp 0]) Tryd.func11 ?_; intro Q hQ hW
  repeat' (first
 | (with_reducible refine run_n ?_; with_reducible first | refine hK _ _ (by simp) ?_ | refine hK _ _ ?_; clear hK K)
 | (refine zzc ?_)
 | (with_reducible refine awp_regT (by kernel_rfl) ?_; intro K hK)
 | (with_reducible refine awp_regAM (id := 5) [(2, some 2)] mixed (by kernel_rfl) (by kernel_rfl) ?_; intro K hK)
 | (with_reducible refine a_cond (ht := ?_) (hf := ?_) <;> intro hb <;> (try simp at hb) <;> (try contradiction) <;> (try subst hb) <;> (try omega))
 | (with_reducible first | refine a_move (hr:=?_) | refine a_assign (hr:=?_) | refine a_load (hr:=?_) | refine a_bin (hr:=?_) | refine a_extract (hr:=?_) | refine a_pick (hr:=?_) | refine a_store (hr:=?_) | refine a_alloc (hr:=?_) | refine a_eqI (hr:=?_) | refine a_neI (hr:=?_) | refine a_eqB (hr:=?_) | refine a_eqS (hr:=?_) | refine a_build (hr:=?_) | refine a_buildSlice (hr:=?_) | refine a_call0 (hcall := n1) (hr:=?_) | refine a_call0 (hcall := n2) (hr:=?_) | refine a_call0 (hcall := n0) (hr:=?_) | refine a_callF (hcall := q1) (hr:=?_) | refine a_callF (hcall := q2) (hr:=?_) | refine a_call0 (hcall := q3) (hr:=?_) | refine a_gT (hr:=?_) | refine a_gF (hr:=?_) | refine a_gU (hr:=?_))
 | (with_reducible refine a_gB (hT := ?_) (hF := ?_) <;> intro hb <;> (try simp at hb) <;> (try contradiction) <;> (try subst hb) <;> (try omega))
 | fail)
  repeat' (first
 | (with_reducible refine run_n ?_; with_reducible first | refine hK _ _ (by simp) ?_ | refine hK _ _ ?_; clear hK K)
 | (refine zzc ?_)
 | (with_reducible refine awp_regT (by kernel_rfl) ?_; intro K hK)
 | (with_reducible refine awp_regCM (id := 5) [(2, some 2)] [(2, some 2), (55, none)] mixed (by kernel_rfl) (by kernel_rfl) (by kernel_rfl) ?_; intro K hK)
 | (with_reducible refine a_cond (ht := ?_) (hf := ?_) <;> intro hb <;> (try simp at hb) <;> (try contradiction) <;> (try subst hb) <;> (try omega))
 | (with_reducible first | refine a_move (hr:=?_) | refine a_assign (hr:=?_) | refine a_load (hr:=?_) | refine a_bin (hr:=?_) | refine a_extract (hr:=?_) | refine a_pick (hr:=?_) | refine a_store (hr:=?_) | refine a_alloc (hr:=?_) | refine a_eqI (hr:=?_) | refine a_neI (hr:=?_) | refine a_eqB (hr:=?_) | refine a_eqS (hr:=?_) | refine a_build (hr:=?_) | refine a_buildSlice (hr:=?_) | refine a_call0 (hcall := n3) (hr:=?_) | refine a_callF (hcall := q4) (hr:=?_) | refine a_gT (hr:=?_) | refine a_gF (hr:=?_) | refine a_gU (hr:=?_))
 | (with_reducible refine a_gB (hT := ?_) (hF := ?_) <;> intro hb <;> (try simp at hb) <;> (try contradiction) <;> (try subst hb) <;> (try omega))
 | fail)
  all_goals ((refine zzr hQ ?_))
  all_goals (exact zzd)
end Go.Proofs.YtjbbnollidcagaaDoor.Asl

