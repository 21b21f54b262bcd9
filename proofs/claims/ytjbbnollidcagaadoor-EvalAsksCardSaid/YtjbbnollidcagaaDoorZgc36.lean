/- Part 36 of what the row leans on: abstract values and states, their rules, and the contracts of the functions. -/
import Derived.Test.YtjbbnollidcagaaDoorZgc35
namespace Go.Proofs.YtjbbnollidcagaaDoor.Asl
open Go Go.RowKit
open Go.Proofs.YtjbbnollidcagaaDoor.Errs (EV)
set_option linter.unusedVariables false
set_option linter.unusedSimpArgs false
set_option maxRecDepth 100000
set_option maxHeartbeats 8000000
theorem few_nilT {P : Program} {f : FuncId} {sz : Nat} {b r : AV} {g g' : Hp} (hc : CallD P f [.sl sz [], b] g r g') : CallD P f [.raw (.slice none 0 0), b] g r g' := by
  intro C vs hC hvs
  cases hvs with
  | cons h1 h2 =>
    rw [RV.raw_eq h1]
    exact hc C _ hC (.cons .sl0 h2)
theorem names_len : ∀ (e : List TermV) (out : List ByteArray), (namesL e out).length ≤ out.length + e.length
  | [], out => Nat.le_refl _
  | t :: e, out => by
    rw [namesL]
    split
    · have := names_len e out
      rw [List.length_cons]; omega
    · have := names_len e (insN t.n out)
      have h2 := insN_len t.n out
      rw [List.length_cons]; omega
theorem law_EvalOther (e : List TermV) (l : List VarV) (x : VarV) (hel : e.length < 140737488351232) (hll : l.length < 9223372036854775808) (hi : ∀ t ∈ e, inR t.v) (hv : ∀ x ∈ l, inR x.v) (hx0 : inR x.v) : CallD Tryd.prog 10 [.sl 5 (e.map termAV), .sl 4 (l.map varAV), varAV x] noHeap (.raw (.bool true)) noHeap := by
  have fw := c_few6 e l (by omega) hll
  have fw2 := few_nilT (c_few6 [] [x] (by decide) (by simp))
  obtain ⟨b1, hb1⟩ : ∃ x, fewT e l = x := ⟨_, rfl⟩
  obtain ⟨b2, hb2⟩ : ∃ y, fewT [] [x] = y := ⟨_, rfl⟩
  rw [hb1] at fw
  rw [hb2] at fw2
  cases b1 with
  | false =>
    clear hb2
    obtain ⟨xn, xk, xv, xs⟩ := x
    simp only [List.map_cons, List.map_nil, varAV] at fw2
    refine zzg (nt := 77) (rs := [.tmp 6]) Tryd.func10 ?_; intro Q hQ hW
    repeat' (first
 | (with_reducible refine run_n ?_; with_reducible first | refine hK _ _ (by simp) ?_ | refine hK _ _ ?_; clear hK K)
 | (refine zzc ?_)
 | (with_reducible refine awp_regT (by kernel_rfl) ?_; intro K hK)
 | (with_reducible refine a_cond (ht := ?_) (hf := ?_) <;> intro hb <;> (try simp at hb) <;> (try contradiction) <;> (try subst hb) <;> (try omega))
 | (with_reducible first | refine a_move (hr:=?_) | refine a_assign (hr:=?_) | refine a_load (hr:=?_) | refine a_fieldAddr (hr:=?_) | refine a_bin (hr:=?_) | refine a_lenS (hr:=?_) | refine a_lenR (hr:=?_) | refine a_extract (hr:=?_) | refine a_pick (hr:=?_) | refine a_un (hr:=?_) | refine a_store (hr:=?_) | refine a_box (hr:=?_) | refine a_alloc (hr:=?_) | refine a_eqB (hr:=?_) | refine a_idxArr (hr:=?_) | refine a_eqS (hr:=?_) | refine a_indexAddr (hr:=?_) | refine a_buildSlice (hr:=?_) | refine a_call0 (hcall := c_live6) (hr:=?_) | refine a_callF (hcall := fw) (hr:=?_) | refine a_callF (hcall := fw2) (hr:=?_) | refine a_gT (hr:=?_) | refine a_gF (hr:=?_) | refine a_gU (hr:=?_))
 | (with_reducible refine a_gB (hT := ?_) (hF := ?_) <;> intro hb <;> (try simp at hb) <;> (try contradiction) <;> (try subst hb) <;> (try omega))
 | fail)
    all_goals ((refine zzr hQ ?_))
    all_goals (exact zzd)
  | true =>
    cases b2 with
    | false =>
      clear hb2
      obtain ⟨xn, xk, xv, xs⟩ := x
      simp only [List.map_cons, List.map_nil, varAV] at fw2
      refine zzg (nt := 77) (rs := [.tmp 6]) Tryd.func10 ?_; intro Q hQ hW
      repeat' (first
 | (with_reducible refine run_n ?_; with_reducible first | refine hK _ _ (by simp) ?_ | refine hK _ _ ?_; clear hK K)
 | (refine zzc ?_)
 | (with_reducible refine awp_regT (by kernel_rfl) ?_; intro K hK)
 | (with_reducible refine a_cond (ht := ?_) (hf := ?_) <;> intro hb <;> (try simp at hb) <;> (try contradiction) <;> (try subst hb) <;> (try omega))
 | (with_reducible first | refine a_move (hr:=?_) | refine a_assign (hr:=?_) | refine a_load (hr:=?_) | refine a_fieldAddr (hr:=?_) | refine a_bin (hr:=?_) | refine a_lenS (hr:=?_) | refine a_lenR (hr:=?_) | refine a_extract (hr:=?_) | refine a_pick (hr:=?_) | refine a_un (hr:=?_) | refine a_store (hr:=?_) | refine a_box (hr:=?_) | refine a_alloc (hr:=?_) | refine a_eqB (hr:=?_) | refine a_idxArr (hr:=?_) | refine a_eqS (hr:=?_) | refine a_indexAddr (hr:=?_) | refine a_buildSlice (hr:=?_) | refine a_call0 (hcall := c_live6) (hr:=?_) | refine a_callF (hcall := fw) (hr:=?_) | refine a_callF (hcall := fw2) (hr:=?_) | refine a_gT (hr:=?_) | refine a_gF (hr:=?_) | refine a_gU (hr:=?_))
 | (with_reducible refine a_gB (hT := ?_) (hF := ?_) <;> intro hb <;> (try simp at hb) <;> (try contradiction) <;> (try subst hb) <;> (try omega))
 | fail)
      all_goals ((refine zzr hQ ?_))
      all_goals (exact zzd)
    | true =>
      have ok := few_ok hb1 hi hv
      have ok2 := few_ok hb2 (fun t ht => by cases ht) (fun y hy => by rw [List.mem_singleton.1 hy]; exact hx0)
      have oe := ok.e
      have ol := ok.l
      have qN := c_rNames e (by omega)
      have qS := c_rSet l x (by omega)
      have hln := setR_len x (getV l x.n).2 l false
      have hmem := setR_mem x (getV l x.n).2 (fun y => okV (y.k, y.v, y.s)) (ok2.v x (by simp)) l false ok.v
      have hget : ∀ m, m ≠ x.n → getV (setR x (getV l x.n).2 l false) m = getV l m := fun m hm => setR_get x _ m hm l false
      generalize setR x (getV l x.n).2 l false = l2 at qS hln hmem hget
      have q1 := c_Of e l e.length ok.t (by omega) ok.v (by omega) (by unfold inR; omega)
      have q2 := c_Of e l2 e.length ok.t (by omega) hmem (by omega) (by unfold inR; omega)
      have hnm : x.n ∉ namesL e [] → ofE6 e l2 e.length = ofE6 e l e.length := by
        intro hno
        have hno2 : ∀ t ∈ e, (t.op = 1 ∨ t.op = 2) → t.n ≠ x.n := fun t ht ho he => hno (names_mem e [] (.inr ⟨t, ht, ho, he⟩))
        unfold ofE6
        split
        · rfl
        · rename_i h0
          have h0 : (wholeE e).2 = 0 := by simpa using h0
          exact evL_same e _ _ (fun t ht ho => hget t.n (hno2 t ht ho)) (whole_own e [] (wh_len h0).1)
      have hNl := names_len e []
      rw [List.length_nil] at hNl
      generalize namesL e [] = N at qN hnm hNl
      have tx : ∀ r : Val × Int × E6, r = ofE6 e l e.length → CallD Tryd.prog 32 [errO r.2.2.ev] noHeap (.raw (.string (textE r.2.2.ev))) noHeap := by
        intro r hr
        refine c_FText _ ?_ ?_ ?_
        · exact of6_trail hr ok.t
        · exact of6_trl hr
        · exact of6_inI hr ok.t
      have tx := tx _ rfl
      clear hget hmem hln ok ok2 hb1 hb2 hi hv
      generalize ofE6 e l2 e.length = r2 at q2 hnm
      generalize ofE6 e l e.length = r1 at q1 hnm tx
      obtain ⟨⟨k1, n1, s1⟩, f1, x1⟩ := r1
      obtain ⟨⟨k2, n2, s2⟩, f2, x2⟩ := r2
      simp only at q1 q2 tx
      obtain ⟨xn, xk, xv, xs⟩ := x
      simp only [List.map_cons, List.map_nil, varAV] at fw2 qS
      simp only at hnm
      by_cases hN : N = []
      · subst hN
        have hnm := hnm (by simp)
        simp only [Prod.mk.injEq] at hnm
        obtain ⟨⟨rfl, rfl, rfl⟩, rfl, rfl⟩ := hnm
        simp only [plAV_nil] at qN
        generalize x2.ev = y at q1 q2 tx
        generalize textE y = ty at tx
        refine zzg (nt := 77) (rs := [.tmp 6]) Tryd.func10 ?_; intro Q hQ hW
        repeat' (first
 | (with_reducible refine run_n ?_; with_reducible first | refine hK _ _ (by simp) ?_ | refine hK _ _ ?_; clear hK K)
 | (refine zzc ?_)
 | (with_reducible refine awp_regT (by kernel_rfl) ?_; intro K hK)
 | (with_reducible refine a_cond (ht := ?_) (hf := ?_) <;> intro hb <;> (try simp at hb) <;> (try contradiction) <;> (try subst hb) <;> (try omega))
 | (with_reducible first | refine a_move (hr:=?_) | refine a_assign (hr:=?_) | refine a_load (hr:=?_) | refine a_fieldAddr (hr:=?_) | refine a_bin (hr:=?_) | refine a_lenS (hr:=?_) | refine a_lenR (hr:=?_) | refine a_extract (hr:=?_) | refine a_pick (hr:=?_) | refine a_un (hr:=?_) | refine a_store (hr:=?_) | refine a_box (hr:=?_) | refine a_alloc (hr:=?_) | refine a_eqB (hr:=?_) | refine a_idxArr (hr:=?_) | refine a_eqS (hr:=?_) | refine a_indexAddr (hr:=?_) | refine a_buildSlice (hr:=?_) | refine a_call0 (hcall := c_live6) (hr:=?_) | refine a_callF (hcall := fw) (hr:=?_) | refine a_callF (hcall := fw2) (hr:=?_) | refine a_callF (hcall := qN) (hr:=?_) | refine a_gT (hr:=?_) | refine a_gF (hr:=?_) | refine a_gU (hr:=?_))
 | (with_reducible refine a_gB (hT := ?_) (hF := ?_) <;> intro hb <;> (try simp at hb) <;> (try contradiction) <;> (try subst hb) <;> (try omega))
 | fail)
        refine awp_inv (α := Unit) (fun _ => [(0, .sl 5 (e.map termAV)), (1, .sl 4 (l.map varAV)), (5, .ptr 5 0), (32, .raw (.int .i64 0)), (33, .raw (.int .i64 0))]) (fun _ => hpL [(5, .box (varAV ⟨xn, xk, xv, xs⟩))]) (fun _ => True) (fun _ => 0) () trivial (zzw) ?_
        intro _ _
        repeat' (first
 | (with_reducible refine run_n ?_; with_reducible first | refine hK _ _ (by simp) ?_ | refine hK _ _ ?_; clear hK K)
 | (refine zzc ?_)
 | (with_reducible refine awp_regT (by kernel_rfl) ?_; intro K hK)
 | (with_reducible refine a_cond (ht := ?_) (hf := ?_) <;> intro hb <;> (try simp at hb) <;> (try contradiction) <;> (try subst hb) <;> (try omega))
 | (with_reducible first | refine a_move (hr:=?_) | refine a_assign (hr:=?_) | refine a_load (hr:=?_) | refine a_fieldAddr (hr:=?_) | refine a_bin (hr:=?_) | refine a_lenS (hr:=?_) | refine a_lenR (hr:=?_) | refine a_extract (hr:=?_) | refine a_pick (hr:=?_) | refine a_un (hr:=?_) | refine a_store (hr:=?_) | refine a_box (hr:=?_) | refine a_alloc (hr:=?_) | refine a_eqB (hr:=?_) | refine a_idxArr (hr:=?_) | refine a_eqS (hr:=?_) | refine a_indexAddr (hr:=?_) | refine a_buildSlice (hr:=?_) | refine a_callF (hcall := q1) (hr:=?_) | refine a_callF (hcall := qS) (hr:=?_) | refine a_callF (hcall := q2) (hr:=?_) | refine a_callF (hcall := tx) (hr:=?_) | refine a_gT (hr:=?_) | refine a_gF (hr:=?_) | refine a_gU (hr:=?_))
 | (with_reducible refine a_gB (hT := ?_) (hF := ?_) <;> intro hb <;> (try simp at hb) <;> (try contradiction) <;> (try subst hb) <;> (try omega))
 | fail)
        all_goals ((refine zzr hQ ?_))
        all_goals (exact zzd)
      · rw [show plAV N = .sl 1 (strs N) from if_neg hN] at qN
        refine zzg (nt := 77) (rs := [.tmp 6]) Tryd.func10 ?_; intro Q hQ hW
        repeat' (first
 | (with_reducible refine run_n ?_; with_reducible first | refine hK _ _ (by simp) ?_ | refine hK _ _ ?_; clear hK K)
 | (refine zzc ?_)
 | (with_reducible refine awp_regT (by kernel_rfl) ?_; intro K hK)
 | (with_reducible refine a_cond (ht := ?_) (hf := ?_) <;> intro hb <;> (try simp at hb) <;> (try contradiction) <;> (try subst hb) <;> (try omega))
 | (with_reducible first | refine a_move (hr:=?_) | refine a_assign (hr:=?_) | refine a_load (hr:=?_) | refine a_fieldAddr (hr:=?_) | refine a_bin (hr:=?_) | refine a_lenS (hr:=?_) | refine a_lenR (hr:=?_) | refine a_extract (hr:=?_) | refine a_pick (hr:=?_) | refine a_un (hr:=?_) | refine a_store (hr:=?_) | refine a_box (hr:=?_) | refine a_alloc (hr:=?_) | refine a_eqB (hr:=?_) | refine a_idxArr (hr:=?_) | refine a_eqS (hr:=?_) | refine a_indexAddr (hr:=?_) | refine a_buildSlice (hr:=?_) | refine a_call0 (hcall := c_live6) (hr:=?_) | refine a_callF (hcall := fw) (hr:=?_) | refine a_callF (hcall := fw2) (hr:=?_) | refine a_callF (hcall := qN) (hr:=?_) | refine a_gT (hr:=?_) | refine a_gF (hr:=?_) | refine a_gU (hr:=?_))
 | (with_reducible refine a_gB (hT := ?_) (hF := ?_) <;> intro hb <;> (try simp at hb) <;> (try contradiction) <;> (try subst hb) <;> (try omega))
 | fail)
        refine awp_inv (α := Nat) (fun i => [(0, .sl 5 (e.map termAV)), (1, .sl 4 (l.map varAV)), (5, .ptr 5 0), (31, .sl 1 (strs N)), (32, .raw (.int .i64 N.length)), (33, .raw (.int .i64 i))]) (fun _ => hpL [(5, .box (varAV ⟨xn, xk, xv, xs⟩))]) (fun i => i ≤ N.length ∧ xn ∉ N.take i) (fun i => N.length - i) 0 ⟨by simp, by simp⟩ (zzw) ?_
        rintro i ⟨g1, g2⟩
        rcases Nat.lt_or_ge i N.length with hlt | hge
        · have hx := List.getElem?_eq_getElem hlt
          have ht := List.take_succ_eq_append_getElem hlt
          generalize N[i] = y at hx ht
          by_cases hy : y = xn
          · subst hy
            repeat' (first
 | (with_reducible refine run_n ?_; with_reducible first | refine hK _ _ (by simp) ?_ | refine hK _ _ ?_; clear hK K)
 | (refine zzc ?_)
 | (with_reducible refine awp_regT (by kernel_rfl) ?_; intro K hK)
 | (with_reducible refine a_cond (ht := ?_) (hf := ?_) <;> intro hb <;> (try simp at hb) <;> (try contradiction) <;> (try subst hb) <;> (try omega))
 | (with_reducible first | refine a_move (hr:=?_) | refine a_assign (hr:=?_) | refine a_load (hr:=?_) | refine a_fieldAddr (hr:=?_) | refine a_bin (hr:=?_) | refine a_lenS (hr:=?_) | refine a_lenR (hr:=?_) | refine a_extract (hr:=?_) | refine a_pick (hr:=?_) | refine a_un (hr:=?_) | refine a_store (hr:=?_) | refine a_box (hr:=?_) | refine a_alloc (hr:=?_) | refine a_eqB (hr:=?_) | refine a_idxArr (hr:=?_) | refine a_eqS (hr:=?_) | refine a_indexAddr (hr:=?_) | refine a_buildSlice (hr:=?_) | refine a_gT (hr:=?_) | refine a_gF (hr:=?_) | refine a_gU (hr:=?_))
 | (with_reducible refine a_gB (hT := ?_) (hF := ?_) <;> intro hb <;> (try simp at hb) <;> (try contradiction) <;> (try subst hb) <;> (try omega))
 | fail)
            (refine zzr hQ ?_)
            exact zzd
          · have g3 : xn ∉ N.take (i + 1) := by
              rw [ht, List.mem_append, List.mem_singleton]
              rintro (h | h)
              · exact g2 h
              · exact hy h.symm
            repeat' (first
 | (with_reducible refine run_n ?_; with_reducible first | refine hK _ _ (by simp) ?_ | refine hK _ _ ?_; clear hK K)
 | (refine zzc ?_)
 | (with_reducible refine awp_regT (by kernel_rfl) ?_; intro K hK)
 | (with_reducible refine a_cond (ht := ?_) (hf := ?_) <;> intro hb <;> (try simp at hb) <;> (try contradiction) <;> (try subst hb) <;> (try omega))
 | (with_reducible first | refine a_move (hr:=?_) | refine a_assign (hr:=?_) | refine a_load (hr:=?_) | refine a_fieldAddr (hr:=?_) | refine a_bin (hr:=?_) | refine a_lenS (hr:=?_) | refine a_lenR (hr:=?_) | refine a_extract (hr:=?_) | refine a_pick (hr:=?_) | refine a_un (hr:=?_) | refine a_store (hr:=?_) | refine a_box (hr:=?_) | refine a_alloc (hr:=?_) | refine a_eqB (hr:=?_) | refine a_idxArr (hr:=?_) | refine a_eqS (hr:=?_) | refine a_indexAddr (hr:=?_) | refine a_buildSlice (hr:=?_) | refine a_gT (hr:=?_) | refine a_gF (hr:=?_) | refine a_gU (hr:=?_))
 | (with_reducible refine a_gB (hT := ?_) (hF := ?_) <;> intro hb <;> (try simp at hb) <;> (try contradiction) <;> (try subst hb) <;> (try omega))
 | fail)
            exact ⟨i + 1, by omega, ⟨by omega, g3⟩, zzw⟩
        · obtain rfl : i = N.length := by omega
          rw [List.take_length] at g2
          have hnm := hnm g2
          simp only [Prod.mk.injEq] at hnm
          obtain ⟨⟨rfl, rfl, rfl⟩, rfl, rfl⟩ := hnm
          generalize x2.ev = y at q1 q2 tx
          generalize textE y = ty at tx
          clear g2
          repeat' (first
 | (with_reducible refine run_n ?_; with_reducible first | refine hK _ _ (by simp) ?_ | refine hK _ _ ?_; clear hK K)
 | (refine zzc ?_)
 | (with_reducible refine awp_regT (by kernel_rfl) ?_; intro K hK)
 | (with_reducible refine a_cond (ht := ?_) (hf := ?_) <;> intro hb <;> (try simp at hb) <;> (try contradiction) <;> (try subst hb) <;> (try omega))
 | (with_reducible first | refine a_move (hr:=?_) | refine a_assign (hr:=?_) | refine a_load (hr:=?_) | refine a_fieldAddr (hr:=?_) | refine a_bin (hr:=?_) | refine a_lenS (hr:=?_) | refine a_lenR (hr:=?_) | refine a_extract (hr:=?_) | refine a_pick (hr:=?_) | refine a_un (hr:=?_) | refine a_store (hr:=?_) | refine a_box (hr:=?_) | refine a_alloc (hr:=?_) | refine a_eqB (hr:=?_) | refine a_idxArr (hr:=?_) | refine a_eqS (hr:=?_) | refine a_indexAddr (hr:=?_) | refine a_buildSlice (hr:=?_) | refine a_callF (hcall := q1) (hr:=?_) | refine a_callF (hcall := qS) (hr:=?_) | refine a_callF (hcall := q2) (hr:=?_) | refine a_callF (hcall := tx) (hr:=?_) | refine a_gT (hr:=?_) | refine a_gF (hr:=?_) | refine a_gU (hr:=?_))
 | (with_reducible refine a_gB (hT := ?_) (hF := ?_) <;> intro hb <;> (try simp at hb) <;> (try contradiction) <;> (try subst hb) <;> (try omega))
 | fail)
          all_goals ((refine zzr hQ ?_))
          all_goals (exact zzd)
theorem row_EvalOther (e : List (Int × (Int × Int × ByteArray) × ByteArray)) (l : List (ByteArray × Int × Int × ByteArray)) (x : ByteArray × Int × Int × ByteArray) (hel : e.length < 140737488351232) (hll : l.length < 9223372036854775808) (hi : ∀ x ∈ e, inR x.2.1.2.1) (hv : ∀ x ∈ l, inR x.2.2.1) (hx0 : inR x.2.2.1) : CallD Tryd.prog 10 [.sl 5 (e.map fun x => termAV (tof x)), .sl 4 (l.map fun x => varAV (vof x)), varAV (vof x)] noHeap (.raw (.bool true)) noHeap := by
  have := law_EvalOther (e.map tof) (l.map vof) (vof x) (by simpa using hel) (by simpa using hll) (fun t ht => by
    obtain ⟨x, hx, rfl⟩ := List.mem_map.1 ht
    exact hi x hx) (fun t ht => by
    obtain ⟨x, hx, rfl⟩ := List.mem_map.1 ht
    exact hv x hx) hx0
  rwa [map_tof, map_vof] at this
end Go.Proofs.YtjbbnollidcagaaDoor.Asl

namespace Go.Proofs.YtjbbnollidcagaaDoor.Asl
open Go Go.RowKit
open Go.Proofs.YtjbbnollidcagaaDoor.Errs (EV)
set_option linter.unusedVariables false
set_option linter.unusedSimpArgs false
set_option maxRecDepth 100000
set_option maxHeartbeats 8000000
/-- The function that asks, over its two texts. -/
abbrev gA (lo hi : ByteArray) : AV := .fn (.func 26) [] [.fp (.raw (.string lo)), .fp (.raw (.string hi))]
theorem c_Asks1 (lo hi m : ByteArray) : CallD Tryd.prog 26 [.raw (.string m), .fp (.raw (.string lo)), .fp (.raw (.string hi))] noHeap (.tup [valAV 0 0 ⟨#[]⟩, .raw (.bool true), errAV (.need lo hi)]) noHeap := by
  have q := c_FAsk lo hi
  refine zzg (nt := 11) (rs := [.cell 4 23, .tmp 5, .tmp 6]) Tryd.func26 ?_; intro Q hQ hW
  repeat' (first
 | (with_reducible refine run_n ?_; with_reducible first | refine hK _ _ (by simp) ?_ | refine hK _ _ ?_; clear hK K)
 | (refine zzc ?_)
 | (with_reducible refine awp_regT (by kernel_rfl) ?_; intro K hK)
 | (with_reducible refine a_cond (ht := ?_) (hf := ?_) <;> intro hb <;> (try simp at hb) <;> (try contradiction) <;> (try subst hb) <;> (try omega))
 | (with_reducible first | refine a_assign (hr:=?_) | refine a_load (hr:=?_) | refine a_store (hr:=?_) | refine a_alloc (hr:=?_) | refine a_eqI (hr:=?_) | refine a_neI (hr:=?_) | refine a_build (hr:=?_) | refine a_call0 (hcall := q) (hr:=?_))
 | fail)
  all_goals ((refine zzr hQ ?_))
  all_goals (exact zzd)
abbrev nmT (n : ByteArray) : TermV := ⟨1, 0, 0, ⟨#[]⟩, n⟩
theorem c_namedA (lo hi n : ByteArray) : CallD Tryd.prog 55 [termAV (nmT n), gA lo hi] noHeap (.tup [valAV 0 0 ⟨#[]⟩, errAV (.wrap n (.need lo hi))]) noHeap := by
  have q := c_Asks1 lo hi n
  have q2 := c_FWrap n (some (.need lo hi))
  simp only [errO_some, Option.map_some] at q2
  refine zzg (nt := 42) (rs := [.cell 4 23, .tmp 5]) Tryd.func55 ?_; intro Q hQ hW
  repeat' (first
 | (with_reducible refine run_n ?_; with_reducible first | refine hK _ _ (by simp) ?_ | refine hK _ _ ?_; clear hK K)
 | (refine zzc ?_)
 | (with_reducible refine awp_regT (by kernel_rfl) ?_; intro K hK)
 | (with_reducible refine a_cond (ht := ?_) (hf := ?_) <;> intro hb <;> (try simp at hb) <;> (try contradiction) <;> (try subst hb) <;> (try omega))
 | (with_reducible first | refine a_move (hr:=?_) | refine a_assign (hr:=?_) | refine a_load (hr:=?_) | refine a_fieldAddr (hr:=?_) | refine a_bin (hr:=?_) | refine a_extract (hr:=?_) | refine a_pick (hr:=?_) | refine a_un (hr:=?_) | refine a_store (hr:=?_) | refine a_box (hr:=?_) | refine a_alloc (hr:=?_) | refine a_eqI (hr:=?_) | refine a_neI (hr:=?_) | refine a_eqB (hr:=?_) | refine a_neB (hr:=?_) | refine a_eqS (hr:=?_) | refine a_neS (hr:=?_) | refine a_build (hr:=?_) | refine a_callF (hcall := q) (hr:=?_) | refine a_callF (hcall := q2) (hr:=?_) | refine a_gT (hr:=?_) | refine a_gF (hr:=?_) | refine a_gU (hr:=?_))
 | (with_reducible refine a_gB (hT := ?_) (hF := ?_) <;> intro hb <;> (try simp at hb) <;> (try contradiction) <;> (try subst hb) <;> (try omega))
 | fail)
  all_goals ((refine zzr hQ ?_))
  all_goals (exact zzd)
theorem c_EvalA (lo hi n : ByteArray) (fuel : Int) (hf : 1 ≤ fuel ∧ fuel < 9223372036854775808) (hn : n.size ≤ 1000) (hw : (wholeE [nmT n]).2 = 0) : CallD Tryd.prog 25 [.sl 5 [termAV (nmT n)], gA lo hi, .raw (.int .i64 fuel)] noHeap (.tup [valAV 0 0 ⟨#[]⟩, .raw (.int .i64 (fuel - 1)), errAV (.wrap n (.need lo hi))]) noHeap := by
  have q0 := c_Check [nmT n] (fun t ht => by rw [List.mem_singleton.1 ht]; exact ⟨by simp, by simp, by simp, by show n.size ≤ 1000000; omega⟩) (by simp)
  rw [hw] at q0
  have q1 := c_namedA lo hi n
  simp only [List.map_cons, List.map_nil] at q0
  obtain ⟨F, hF⟩ : ∃ F, max fuel 0 = F := ⟨_, rfl⟩
  have hFf : F = fuel := by omega
  refine zzg (nt := 115) (rs := [.cell 6 23, .tmp 7, .tmp 8]) Tryd.func25 ?_; intro Q hQ hW
  repeat' (first
 | (with_reducible refine run_n ?_; with_reducible first | refine hK _ _ (by simp) ?_ | refine hK _ _ ?_; clear hK K)
 | (refine zzc ?_)
 | (with_reducible refine awp_regT (by kernel_rfl) ?_; intro K hK)
 | (with_reducible refine awp_regAM (id := 22) [(14, some 14), (84, some 12)] mixed (by kernel_rfl) (by kernel_rfl) ?_; intro K hK)
 | (with_reducible refine awp_regAM (id := 15) [(14, some 14), (41, some 12)] mixed (by kernel_rfl) (by kernel_rfl) ?_; intro K hK)
 | (with_reducible refine a_cond (ht := ?_) (hf := ?_) <;> intro hb <;> (try simp at hb) <;> (try contradiction) <;> (try subst hb) <;> (try omega))
 | (with_reducible first | refine a_move (hr:=?_) | refine a_assign (hr:=?_) | refine a_load (hr:=?_) | refine a_fieldAddr (hr:=?_) | refine a_bin (hr:=?_) | refine a_lenS (hr:=?_) | refine a_lenR (hr:=?_) | refine a_extract (hr:=?_) | refine a_store (hr:=?_) | refine a_alloc (hr:=?_) | refine a_eqI (hr:=?_) | refine a_neI (hr:=?_) | refine a_eqB (hr:=?_) | refine a_neB (hr:=?_) | refine a_idxArr (hr:=?_) | refine a_sliceArr (hr:=?_) | refine a_eqS (hr:=?_) | refine a_neS (hr:=?_) | refine a_sliceS (hr:=?_) | refine a_sliceR (hr:=?_) | refine a_indexAddr (hr:=?_) | refine a_build (hr:=?_) | refine a_buildSlice (hr:=?_) | refine a_maxC (hr:=?_) | refine a_append (hr:=?_) | refine a_append0 (hr:=?_) | refine a_appendX (hr:=?_) | refine a_callF (hcall := q0) (hr:=?_))
 | fail)
  refine awp_inv (α := Unit) (fun _ => [(1, gA lo hi), (2, .raw (.int .i64 F)), (6, .ptr 6 0), (10, .raw (.slice none 0 0)), (26, .sl 5 [termAV (nmT n)]), (27, .raw (.int .i64 1)), (28, .raw (.int .i64 0))]) (fun _ => hpL [(6, .box (Val.av zV))]) (fun _ => True) (fun _ => 0) () trivial (by rw [← hF]; unfold zV; exact zzw) ?_
  rintro _ _
  subst hFf
  unfold zV
  clear hF
  repeat' (first
 | (with_reducible refine run_n ?_; with_reducible first | refine hK _ _ (by simp) ?_ | refine hK _ _ ?_; clear hK K)
 | (refine zzc ?_)
 | (with_reducible refine awp_regT (by kernel_rfl) ?_; intro K hK)
 | (with_reducible refine awp_regCM (id := 22) [(14, some 14), (84, some 12)] [(14, some 14), (84, some 12), (85, none), (89, none), (90, none), (92, none), (93, none)] mixed (by kernel_rfl) (by kernel_rfl) (by kernel_rfl) ?_; intro K hK)
 | (with_reducible refine awp_regCM (id := 15) [(14, some 14), (41, some 12)] [(14, some 14), (41, some 12), (42, none), (46, none), (47, none), (51, none), (52, none), (54, none), (55, none)] mixed (by kernel_rfl) (by kernel_rfl) (by kernel_rfl) ?_; intro K hK)
 | (with_reducible refine a_cond (ht := ?_) (hf := ?_) <;> intro hb <;> (try simp at hb) <;> (try contradiction) <;> (try subst hb) <;> (try omega))
 | (with_reducible first | refine a_move (hr:=?_) | refine a_assign (hr:=?_) | refine a_load (hr:=?_) | refine a_fieldAddr (hr:=?_) | refine a_bin (hr:=?_) | refine a_lenS (hr:=?_) | refine a_lenR (hr:=?_) | refine a_extract (hr:=?_) | refine a_store (hr:=?_) | refine a_alloc (hr:=?_) | refine a_eqI (hr:=?_) | refine a_neI (hr:=?_) | refine a_eqB (hr:=?_) | refine a_neB (hr:=?_) | refine a_idxArr (hr:=?_) | refine a_sliceArr (hr:=?_) | refine a_eqS (hr:=?_) | refine a_neS (hr:=?_) | refine a_sliceS (hr:=?_) | refine a_sliceR (hr:=?_) | refine a_indexAddr (hr:=?_) | refine a_build (hr:=?_) | refine a_buildSlice (hr:=?_) | refine a_maxC (hr:=?_) | refine a_append (hr:=?_) | refine a_append0 (hr:=?_) | refine a_appendX (hr:=?_) | refine a_callF (hcall := q1) (hr:=?_))
 | fail)
  all_goals ((refine zzr hQ ?_))
  all_goals (exact zzd)
theorem bigIn_fzb {k : Nat} {X : AV} {h g : Hp} (hk : k < 100000) (hb : BigIn h g) : BigIn (fzbH k X h) g := fun id h1 h2 => by
  simp only [fzbH]
  rw [if_neg (by omega), hb id h1 h2]; rfl
theorem law_EvalAsks (n lo hi : ByteArray) (fuel : Int) (hfu : inR fuel) (hns : n.size < 140737488355328) : CallD Tryd.prog 8 [.raw (.string n), .raw (.string lo), .raw (.string hi), .raw (.int .i64 fuel)] noHeap (.raw (.bool true)) noHeap := by
  unfold inR at hfu
  by_cases hf : fuel < 1
  · refine zzg (nt := 69) (rs := [.tmp 8]) Tryd.func8 ?_; intro Q hQ hW
    repeat' (first
 | (with_reducible refine run_n ?_; with_reducible first | refine hK _ _ (by simp) ?_ | refine hK _ _ ?_; clear hK K)
 | (refine zzc ?_)
 | (with_reducible refine awp_regT (by kernel_rfl) ?_; intro K hK)
 | (with_reducible refine a_cond (ht := ?_) (hf := ?_) <;> intro hb <;> (try simp at hb) <;> (try contradiction) <;> (try subst hb) <;> (try omega))
 | (with_reducible first | refine a_move (hr:=?_) | refine a_assign (hr:=?_) | refine a_load (hr:=?_) | refine a_bin (hr:=?_) | refine a_lenS (hr:=?_) | refine a_lenR (hr:=?_) | refine a_extract (hr:=?_) | refine a_pick (hr:=?_) | refine a_un (hr:=?_) | refine a_store (hr:=?_) | refine a_box (hr:=?_) | refine a_alloc (hr:=?_) | refine a_makeFunc (hr:=?_) | refine a_eqB (hr:=?_) | refine a_neB (hr:=?_) | refine a_eqS (hr:=?_) | refine a_neS (hr:=?_) | refine a_build (hr:=?_) | refine a_buildSlice (hr:=?_) | refine a_call0 (hcall := c_live6) (hr:=?_) | refine a_gT (hr:=?_) | refine a_gF (hr:=?_) | refine a_gU (hr:=?_))
 | (with_reducible refine a_gB (hT := ?_) (hF := ?_) <;> intro hb <;> (try simp at hb) <;> (try contradiction) <;> (try subst hb) <;> (try omega))
 | fail)
    all_goals ((refine zzr hQ ?_))
    all_goals (exact zzd)
  by_cases hn : 100 < n.size
  · refine zzg (nt := 69) (rs := [.tmp 8]) Tryd.func8 ?_; intro Q hQ hW
    repeat' (first
 | (with_reducible refine run_n ?_; with_reducible first | refine hK _ _ (by simp) ?_ | refine hK _ _ ?_; clear hK K)
 | (refine zzc ?_)
 | (with_reducible refine awp_regT (by kernel_rfl) ?_; intro K hK)
 | (with_reducible refine a_cond (ht := ?_) (hf := ?_) <;> intro hb <;> (try simp at hb) <;> (try contradiction) <;> (try subst hb) <;> (try omega))
 | (with_reducible first | refine a_move (hr:=?_) | refine a_assign (hr:=?_) | refine a_load (hr:=?_) | refine a_bin (hr:=?_) | refine a_lenS (hr:=?_) | refine a_lenR (hr:=?_) | refine a_extract (hr:=?_) | refine a_pick (hr:=?_) | refine a_un (hr:=?_) | refine a_store (hr:=?_) | refine a_box (hr:=?_) | refine a_alloc (hr:=?_) | refine a_makeFunc (hr:=?_) | refine a_eqB (hr:=?_) | refine a_neB (hr:=?_) | refine a_eqS (hr:=?_) | refine a_neS (hr:=?_) | refine a_build (hr:=?_) | refine a_buildSlice (hr:=?_) | refine a_call0 (hcall := c_live6) (hr:=?_) | refine a_gT (hr:=?_) | refine a_gF (hr:=?_) | refine a_gU (hr:=?_))
 | (with_reducible refine a_gB (hT := ?_) (hF := ?_) <;> intro hb <;> (try simp at hb) <;> (try contradiction) <;> (try subst hb) <;> (try omega))
 | fail)
    all_goals ((refine zzr hQ ?_))
    all_goals (exact zzd)
  have q0 := c_rCheck [nmT n] (fun t ht => by rw [List.mem_singleton.1 ht]; exact ⟨by simp, by simp, by simp, by show n.size ≤ 1000000; omega⟩) (by simp)
  simp only [List.map_cons, List.map_nil, termAV] at q0
  by_cases hw : (wholeE [nmT n]).2 = 0
  · rw [hw] at q0
    have q1 := c_EvalA lo hi n fuel ⟨by omega, by omega⟩ (by omega) hw
    have a1 : CallD Tryd.prog 28 [errAV (.wrap n (.need lo hi))] noHeap (.tup [needAV (lo, hi), .raw (.bool true)]) noHeap := c_FNeeded (some (.wrap n (.need lo hi)))
    have a2 : CallD Tryd.prog 24 [errAV (.wrap n (.need lo hi))] noHeap (.sl 1 [.raw (.string n)]) noHeap := c_FTrail (some (.wrap n (.need lo hi))) (by simp [trailE, placesE])
    have a3 : CallD Tryd.prog 23 [.sl 1 [.raw (.string n)], .sl 1 [.raw (.string n)]] noHeap (.raw (.bool true)) noHeap := by
      have := c_RSame [n] [n] (by simp) (by simp)
      rw [decide_eq_true rfl] at this
      exact this
    simp only [termAV] at q1
    refine zzg (nt := 69) (rs := [.tmp 8]) Tryd.func8 ?_; intro Q hQ hW
    repeat' (first
 | (with_reducible refine run_n ?_; with_reducible first | refine hK _ _ (by simp) ?_ | refine hK _ _ ?_; clear hK K)
 | (refine zzc ?_)
 | (with_reducible refine awp_regT (by kernel_rfl) ?_; intro K hK)
 | (with_reducible first | refine a_move (hr:=?_) | refine a_assign (hr:=?_) | refine a_load (hr:=?_) | refine a_bin (hr:=?_) | refine a_lenS (hr:=?_) | refine a_lenR (hr:=?_) | refine a_extract (hr:=?_) | refine a_pick (hr:=?_) | refine a_un (hr:=?_) | refine a_store (hr:=?_) | refine a_box (hr:=?_) | refine a_alloc (hr:=?_) | refine a_makeFunc (hr:=?_) | refine a_eqB (hr:=?_) | refine a_neB (hr:=?_) | refine a_eqS (hr:=?_) | refine a_neS (hr:=?_) | refine a_build (hr:=?_) | refine a_buildSlice (hr:=?_) | refine a_call0 (hcall := c_live6) (hr:=?_) | refine a_callF (hcall := q0) (hr:=?_) | refine a_gT (hr:=?_) | refine a_gF (hr:=?_) | refine a_gU (hr:=?_))
 | (with_reducible refine a_gB (hT := ?_) (hF := ?_) <;> intro hb <;> (try simp at hb) <;> (try contradiction) <;> (try subst hb) <;> (try omega))
 | fail)
    refine a_cond (ht := ?_) (hf := ?_) <;> intro hb <;> (try simp at hb) <;> (try contradiction)
    refine AWP.weak (Weak.fzb (k := 5) (X := .raw (.string lo)) (by simp) (by simp)) ?_
    refine AWP.weak (Weak.fzb (k := 6) (X := .raw (.string hi)) (by simp [fzbH, Ob.fzb]) (by simp)) ?_
    refine AWP.weak (σ2 := ⟨envA [(0, .raw (.string n)), (3, .raw (.int .i64 fuel)), (5, .fp (.raw (.string lo))), (6, .fp (.raw (.string hi)))], hpL []⟩) (weak_o (sub_hpL (by simp)) (bigIn_fzb (by decide) (bigIn_fzb (by decide) (by simp))) (by simp)) ?_
    repeat' (first
 | (with_reducible refine run_n ?_; with_reducible first | refine hK _ _ (by simp) ?_ | refine hK _ _ ?_; clear hK K)
 | (refine zzc ?_)
 | (with_reducible refine awp_regT (by kernel_rfl) ?_; intro K hK)
 | (with_reducible refine a_cond (ht := ?_) (hf := ?_) <;> intro hb <;> (try simp at hb) <;> (try contradiction) <;> (try subst hb) <;> (try omega))
 | (with_reducible first | refine a_move (hr:=?_) | refine a_assign (hr:=?_) | refine a_load (hr:=?_) | refine a_bin (hr:=?_) | refine a_lenS (hr:=?_) | refine a_lenR (hr:=?_) | refine a_extract (hr:=?_) | refine a_pick (hr:=?_) | refine a_un (hr:=?_) | refine a_store (hr:=?_) | refine a_box (hr:=?_) | refine a_alloc (hr:=?_) | refine a_makeFunc (hr:=?_) | refine a_eqB (hr:=?_) | refine a_neB (hr:=?_) | refine a_eqS (hr:=?_) | refine a_neS (hr:=?_) | refine a_build (hr:=?_) | refine a_buildSlice (hr:=?_) | refine a_call0 (hcall := c_live6) (hr:=?_) | refine a_callF (hcall := q1) (hr:=?_) | refine a_callF (hcall := a1) (hr:=?_) | refine a_callF (hcall := a2) (hr:=?_) | refine a_callF (hcall := a3) (hr:=?_) | refine a_gT (hr:=?_) | refine a_gF (hr:=?_) | refine a_gU (hr:=?_))
 | (with_reducible refine a_gB (hT := ?_) (hF := ?_) <;> intro hb <;> (try simp at hb) <;> (try contradiction) <;> (try subst hb) <;> (try omega))
 | fail)
    all_goals ((refine zzr hQ ?_))
    all_goals (exact zzd)
  · generalize (wholeE [nmT n]).2 = c at q0 hw
    refine zzg (nt := 69) (rs := [.tmp 8]) Tryd.func8 ?_; intro Q hQ hW
    repeat' (first
 | (with_reducible refine run_n ?_; with_reducible first | refine hK _ _ (by simp) ?_ | refine hK _ _ ?_; clear hK K)
 | (refine zzc ?_)
 | (with_reducible refine awp_regT (by kernel_rfl) ?_; intro K hK)
 | (with_reducible refine a_cond (ht := ?_) (hf := ?_) <;> intro hb <;> (try simp at hb) <;> (try contradiction) <;> (try subst hb) <;> (try omega))
 | (with_reducible first | refine a_move (hr:=?_) | refine a_assign (hr:=?_) | refine a_load (hr:=?_) | refine a_bin (hr:=?_) | refine a_lenS (hr:=?_) | refine a_lenR (hr:=?_) | refine a_extract (hr:=?_) | refine a_pick (hr:=?_) | refine a_un (hr:=?_) | refine a_store (hr:=?_) | refine a_box (hr:=?_) | refine a_alloc (hr:=?_) | refine a_makeFunc (hr:=?_) | refine a_eqB (hr:=?_) | refine a_neB (hr:=?_) | refine a_eqS (hr:=?_) | refine a_neS (hr:=?_) | refine a_build (hr:=?_) | refine a_buildSlice (hr:=?_) | refine a_call0 (hcall := c_live6) (hr:=?_) | refine a_callF (hcall := q0) (hr:=?_) | refine a_gT (hr:=?_) | refine a_gF (hr:=?_) | refine a_gU (hr:=?_))
 | (with_reducible refine a_gB (hT := ?_) (hF := ?_) <;> intro hb <;> (try simp at hb) <;> (try contradiction) <;> (try subst hb) <;> (try omega))
 | fail)
    all_goals ((refine zzr hQ ?_))
    all_goals (exact zzd)
end Go.Proofs.YtjbbnollidcagaaDoor.Asl

