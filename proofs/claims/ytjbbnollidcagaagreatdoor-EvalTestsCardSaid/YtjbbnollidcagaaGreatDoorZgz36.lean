/- Part 36 of what the row leans on: abstract values and states, their rules, and the contracts of the functions. -/
import Derived.Test.YtjbbnollidcagaaGreatDoorZgz35
namespace Go.Proofs.YtjbbnollidcagaaGreatDoor.Asl
open Go Go.RowKit
open Go.Proofs.YtjbbnollidcagaaGreatDoor.Errs (EV)
set_option linter.unusedVariables false
set_option linter.unusedSimpArgs false
set_option maxRecDepth 100000
set_option maxHeartbeats 8000000
theorem bigIn_fzb {k : Nat} {X : AV} {h g : Hp} (hk : k < 100000) (hb : BigIn h g) : BigIn (fzbH k X h) g := fun id h1 h2 => by
  simp only [fzbH]
  rw [if_neg (by omega), hb id h1 h2]; rfl
/-- The function that is asked, over the terms, what was bad, and the variables. -/
abbrev gT (e : List TermV) (l : List VarV) : AV := .fn (.func 7) [] [.fp (.sl 5 (e.map termAV)), .ptr 100000 0, .fp (.sl 4 (l.map varAV))]
abbrev gHT : Hp := setH noHeap 100000 (.box (.raw (.bool false)))
def nmB (m : ByteArray) (t : TermV) : Bool := (decide (t.op = 1) || decide (t.op = 2)) && decide (t.n = m)
theorem c_T1 (e : List TermV) (l : List VarV) (m : ByteArray) (hm : ∃ t ∈ e, (t.op = 1 ∨ t.op = 2) ∧ t.n = m) (hl : l.length < 9223372036854775808) (hel : e.length ≤ 140737488351232) : CallD Tryz.prog 7 [.raw (.string m), .fp (.sl 5 (e.map termAV)), .ptr 100000 0, .fp (.sl 4 (l.map varAV))] gHT (.tup [Val.av (getV l m).1, .raw (.bool (getV l m).2), .raw .nilIface]) gHT := by
  have q := c_rGet l m hl
  generalize getV l m = r at q ⊢
  obtain ⟨⟨k, n, s⟩, b⟩ := r
  have hall : e.any (nmB m) = true := by
    obtain ⟨t, ht, h1, h2⟩ := hm
    refine List.any_eq_true.2 ⟨t, ht, ?_⟩
    unfold nmB
    rcases h1 with h1 | h1 <;> simp [h1, h2]
  refine zzg (nt := 50) (rs := [.cell 5 31, .tmp 6, .tmp 7]) Tryz.func7 ?_; intro Q hQ hW
  repeat' (first
 | (with_reducible refine run_n ?_; with_reducible first | refine hK _ _ (by simp) ?_ | refine hK _ _ ?_; clear hK K)
 | (refine zzc ?_)
 | (with_reducible refine awp_regT (by kernel_rfl) ?_; intro K hK)
 | (with_reducible refine a_cond (ht := ?_) (hf := ?_) <;> intro hb <;> (try simp at hb) <;> (try contradiction) <;> (try subst hb) <;> (try omega))
 | (with_reducible first | refine a_move (hr:=?_) | refine a_assign (hr:=?_) | refine a_load (hr:=?_) | refine a_fieldAddr (hr:=?_) | refine a_bin (hr:=?_) | refine a_lenS (hr:=?_) | refine a_lenR (hr:=?_) | refine a_extract (hr:=?_) | refine a_pick (hr:=?_) | refine a_un (hr:=?_) | refine a_store (hr:=?_) | refine a_alloc (hr:=?_) | refine a_eqI (hr:=?_) | refine a_neI (hr:=?_) | refine a_eqB (hr:=?_) | refine a_idxArr (hr:=?_) | refine a_eqS (hr:=?_) | refine a_indexAddr (hr:=?_) | refine a_gT (hr:=?_) | refine a_gF (hr:=?_) | refine a_gU (hr:=?_))
 | (with_reducible refine a_gB (hT := ?_) (hF := ?_) <;> intro hb <;> (try simp at hb) <;> (try contradiction) <;> (try subst hb) <;> (try omega))
 | fail)
  refine awp_inv (α := Nat × Bool) (fun s => [(0, .raw (.string m)), (2, .ptr 100000 0), (3, .fp (.sl 4 (l.map varAV))), (5, .ptr 5 0), (8, .raw (.bool s.2)), (13, .sl 5 (e.map termAV)), (14, .raw (.int .i64 e.length)), (15, .raw (.int .i64 s.1))]) (fun _ => hpL [(5, .box (valAV 0 0 ⟨#[]⟩)), (100000, .box (.raw (.bool false)))]) (fun s => s.1 ≤ e.length ∧ (e.take s.1).any (nmB m) = s.2) (fun s => e.length - s.1) (0, false) ⟨by simp, by simp⟩ (zzw) ?_
  rintro ⟨i, nb⟩ ⟨g1, g2⟩
  simp only at g1 g2 ⊢
  rcases Nat.lt_or_ge i e.length with hlt | hge
  · have hx := List.getElem?_eq_getElem hlt
    have ht := List.take_succ_eq_append_getElem hlt
    generalize e[i] = y at hx ht
    have g3 : (e.take (i + 1)).any (nmB m) = (nb || nmB m y) := by rw [ht, List.any_append, g2]; simp
    obtain ⟨op, k2, v2, s2, n2⟩ := y
    clear hall q
    cases nb with
    | true =>
      repeat' (first
 | (with_reducible refine run_n ?_; with_reducible first | refine hK _ _ (by simp) ?_ | refine hK _ _ ?_; clear hK K)
 | (refine zzc ?_)
 | (with_reducible refine awp_regT (by kernel_rfl) ?_; intro K hK)
 | (with_reducible refine a_cond (ht := ?_) (hf := ?_) <;> intro hb <;> (try simp at hb) <;> (try contradiction) <;> (try subst hb) <;> (try omega))
 | (with_reducible first | refine a_move (hr:=?_) | refine a_assign (hr:=?_) | refine a_load (hr:=?_) | refine a_fieldAddr (hr:=?_) | refine a_bin (hr:=?_) | refine a_lenS (hr:=?_) | refine a_lenR (hr:=?_) | refine a_extract (hr:=?_) | refine a_pick (hr:=?_) | refine a_un (hr:=?_) | refine a_store (hr:=?_) | refine a_alloc (hr:=?_) | refine a_eqI (hr:=?_) | refine a_neI (hr:=?_) | refine a_eqB (hr:=?_) | refine a_idxArr (hr:=?_) | refine a_eqS (hr:=?_) | refine a_indexAddr (hr:=?_) | refine a_gT (hr:=?_) | refine a_gF (hr:=?_) | refine a_gU (hr:=?_))
 | (with_reducible refine a_gB (hT := ?_) (hF := ?_) <;> intro hb <;> (try simp at hb) <;> (try contradiction) <;> (try subst hb) <;> (try omega))
 | fail)
      exact ⟨(i + 1, true), by simp only; omega, ⟨by simp only; omega, by rw [g3]; rfl⟩, zzw⟩
    | false =>
      by_cases h1 : op = 1
      · subst h1
        have e3 : nmB m ⟨1, k2, v2, s2, n2⟩ = decide (n2 = m) := by unfold nmB; simp
        rw [e3] at g3
        generalize hh : decide (n2 = m) = dd at g3
        repeat' (first
 | (with_reducible refine run_n ?_; with_reducible first | refine hK _ _ (by simp) ?_ | refine hK _ _ ?_; clear hK K)
 | (refine zzc ?_)
 | (with_reducible refine awp_regT (by kernel_rfl) ?_; intro K hK)
 | (with_reducible refine a_cond (ht := ?_) (hf := ?_) <;> intro hb <;> (try simp at hb) <;> (try contradiction) <;> (try subst hb) <;> (try omega))
 | (with_reducible first | refine a_move (hr:=?_) | refine a_assign (hr:=?_) | refine a_load (hr:=?_) | refine a_fieldAddr (hr:=?_) | refine a_bin (hr:=?_) | refine a_lenS (hr:=?_) | refine a_lenR (hr:=?_) | refine a_extract (hr:=?_) | refine a_pick (hr:=?_) | refine a_un (hr:=?_) | refine a_store (hr:=?_) | refine a_alloc (hr:=?_) | refine a_eqI (hr:=?_) | refine a_neI (hr:=?_) | refine a_eqB (hr:=?_) | refine a_idxArr (hr:=?_) | refine a_eqS (hr:=?_) | refine a_indexAddr (hr:=?_) | refine a_gT (hr:=?_) | refine a_gF (hr:=?_) | refine a_gU (hr:=?_))
 | (with_reducible refine a_gB (hT := ?_) (hF := ?_) <;> intro hb <;> (try simp at hb) <;> (try contradiction) <;> (try subst hb) <;> (try omega))
 | fail)
        all_goals (rw [hh])
        exact ⟨(i + 1, dd), by simp only; omega, ⟨by simp only; omega, by rw [g3]; rfl⟩, zzw⟩
      · by_cases h2 : op = 2
        · subst h2
          have e3 : nmB m ⟨2, k2, v2, s2, n2⟩ = decide (n2 = m) := by unfold nmB; simp
          rw [e3] at g3
          generalize hh : decide (n2 = m) = dd at g3
          repeat' (first
 | (with_reducible refine run_n ?_; with_reducible first | refine hK _ _ (by simp) ?_ | refine hK _ _ ?_; clear hK K)
 | (refine zzc ?_)
 | (with_reducible refine awp_regT (by kernel_rfl) ?_; intro K hK)
 | (with_reducible refine a_cond (ht := ?_) (hf := ?_) <;> intro hb <;> (try simp at hb) <;> (try contradiction) <;> (try subst hb) <;> (try omega))
 | (with_reducible first | refine a_move (hr:=?_) | refine a_assign (hr:=?_) | refine a_load (hr:=?_) | refine a_fieldAddr (hr:=?_) | refine a_bin (hr:=?_) | refine a_lenS (hr:=?_) | refine a_lenR (hr:=?_) | refine a_extract (hr:=?_) | refine a_pick (hr:=?_) | refine a_un (hr:=?_) | refine a_store (hr:=?_) | refine a_alloc (hr:=?_) | refine a_eqI (hr:=?_) | refine a_neI (hr:=?_) | refine a_eqB (hr:=?_) | refine a_idxArr (hr:=?_) | refine a_eqS (hr:=?_) | refine a_indexAddr (hr:=?_) | refine a_gT (hr:=?_) | refine a_gF (hr:=?_) | refine a_gU (hr:=?_))
 | (with_reducible refine a_gB (hT := ?_) (hF := ?_) <;> intro hb <;> (try simp at hb) <;> (try contradiction) <;> (try subst hb) <;> (try omega))
 | fail)
          all_goals (rw [hh])
          exact ⟨(i + 1, dd), by simp only; omega, ⟨by simp only; omega, by rw [g3]; rfl⟩, zzw⟩
        · have e3 : nmB m ⟨op, k2, v2, s2, n2⟩ = false := by unfold nmB; simp [h1, h2]
          rw [e3] at g3
          repeat' (first
 | (with_reducible refine run_n ?_; with_reducible first | refine hK _ _ (by simp) ?_ | refine hK _ _ ?_; clear hK K)
 | (refine zzc ?_)
 | (with_reducible refine awp_regT (by kernel_rfl) ?_; intro K hK)
 | (with_reducible refine a_cond (ht := ?_) (hf := ?_) <;> intro hb <;> (try simp at hb) <;> (try contradiction) <;> (try subst hb) <;> (try omega))
 | (with_reducible first | refine a_move (hr:=?_) | refine a_assign (hr:=?_) | refine a_load (hr:=?_) | refine a_fieldAddr (hr:=?_) | refine a_bin (hr:=?_) | refine a_lenS (hr:=?_) | refine a_lenR (hr:=?_) | refine a_extract (hr:=?_) | refine a_pick (hr:=?_) | refine a_un (hr:=?_) | refine a_store (hr:=?_) | refine a_alloc (hr:=?_) | refine a_eqI (hr:=?_) | refine a_neI (hr:=?_) | refine a_eqB (hr:=?_) | refine a_idxArr (hr:=?_) | refine a_eqS (hr:=?_) | refine a_indexAddr (hr:=?_) | refine a_gT (hr:=?_) | refine a_gF (hr:=?_) | refine a_gU (hr:=?_))
 | (with_reducible refine a_gB (hT := ?_) (hF := ?_) <;> intro hb <;> (try simp at hb) <;> (try contradiction) <;> (try subst hb) <;> (try omega))
 | fail)
          exact ⟨(i + 1, false), by simp only; omega, ⟨by simp only; omega, by rw [g3]; rfl⟩, zzw⟩
  · obtain rfl : i = e.length := by omega
    rw [List.take_length, hall] at g2
    subst g2
    repeat' (first
 | (with_reducible refine run_n ?_; with_reducible first | refine hK _ _ (by simp) ?_ | refine hK _ _ ?_; clear hK K)
 | (refine zzc ?_)
 | (with_reducible refine awp_regT (by kernel_rfl) ?_; intro K hK)
 | (with_reducible refine a_cond (ht := ?_) (hf := ?_) <;> intro hb <;> (try simp at hb) <;> (try contradiction) <;> (try subst hb) <;> (try omega))
 | (with_reducible first | refine a_move (hr:=?_) | refine a_assign (hr:=?_) | refine a_load (hr:=?_) | refine a_fieldAddr (hr:=?_) | refine a_bin (hr:=?_) | refine a_lenS (hr:=?_) | refine a_lenR (hr:=?_) | refine a_extract (hr:=?_) | refine a_pick (hr:=?_) | refine a_un (hr:=?_) | refine a_store (hr:=?_) | refine a_alloc (hr:=?_) | refine a_eqI (hr:=?_) | refine a_neI (hr:=?_) | refine a_eqB (hr:=?_) | refine a_idxArr (hr:=?_) | refine a_eqS (hr:=?_) | refine a_indexAddr (hr:=?_) | refine a_callF (hcall := q) (hr:=?_) | refine a_gT (hr:=?_) | refine a_gF (hr:=?_) | refine a_gU (hr:=?_))
 | (with_reducible refine a_gB (hT := ?_) (hF := ?_) <;> intro hb <;> (try simp at hb) <;> (try contradiction) <;> (try subst hb) <;> (try omega))
 | fail)
    all_goals ((refine zzr hQ ?_))
    all_goals (exact Fin.keep (by simp; exact .r) (by simp; exact .r) (by simp; exact .r) (by simp))
theorem c_namedT (e : List TermV) (l : List VarV) (t : TermV) (he : t ∈ e) (ht : t.op = 1 ∨ t.op = 2) (hl : l.length < 9223372036854775808) (hel : e.length ≤ 140737488351232) : CallD Tryz.prog 27 [termAV t, gT e l] gHT (.tup [Val.av (namE l t).1, errO (namE l t).2.ev]) gHT := by
  have q := c_T1 e l t.n ⟨t, he, ht, rfl⟩ hl hel
  obtain ⟨op, k, v, s, n⟩ := t
  simp only at ht q
  unfold namE
  simp only
  clear he
  generalize getV l n = r at q ⊢
  obtain ⟨⟨gk, gn, gs⟩, b⟩ := r
  simp only at q ⊢
  have q1 := c_FOf 61
  have q2 := c_FWrap n (some (.code 61))
  have e1 : ofE 61 = some (.code 61) := rfl
  rw [e1] at q1
  simp only [errO_some, Option.map_some] at q1 q2
  rcases ht with rfl | rfl
  · cases b with
    | false =>
      rw [if_pos ⟨rfl, rfl⟩]
      unfold zV E6.ev
      simp only [errO_some]
      refine zzg (nt := 42) (rs := [.cell 4 31, .tmp 5]) Tryz.func27 ?_; intro Q hQ hW
      repeat' (first
 | (with_reducible refine run_n ?_; with_reducible first | refine hK _ _ (by simp) ?_ | refine hK _ _ ?_; clear hK K)
 | (refine zzc ?_)
 | (with_reducible refine awp_regT (by kernel_rfl) ?_; intro K hK)
 | (with_reducible refine a_cond (ht := ?_) (hf := ?_) <;> intro hb <;> (try simp at hb) <;> (try contradiction) <;> (try subst hb) <;> (try omega))
 | (with_reducible first | refine a_move (hr:=?_) | refine a_assign (hr:=?_) | refine a_load (hr:=?_) | refine a_fieldAddr (hr:=?_) | refine a_bin (hr:=?_) | refine a_extract (hr:=?_) | refine a_pick (hr:=?_) | refine a_un (hr:=?_) | refine a_store (hr:=?_) | refine a_box (hr:=?_) | refine a_alloc (hr:=?_) | refine a_eqI (hr:=?_) | refine a_neI (hr:=?_) | refine a_eqB (hr:=?_) | refine a_neB (hr:=?_) | refine a_eqS (hr:=?_) | refine a_neS (hr:=?_) | refine a_build (hr:=?_) | refine a_callP (p := 100000) (hcall := q) (hr:=?_) | refine a_call0 (hcall := q1) (hr:=?_) | refine a_callF (hcall := q2) (hr:=?_) | refine a_gT (hr:=?_) | refine a_gF (hr:=?_) | refine a_gU (hr:=?_))
 | (with_reducible refine a_gB (hT := ?_) (hF := ?_) <;> intro hb <;> (try simp at hb) <;> (try contradiction) <;> (try subst hb) <;> (try omega))
 | fail)
      all_goals ((refine zzr hQ ?_))
      all_goals (exact Fin.keep (by simp; exact .r) (by simp; exact .r) (by simp; exact .r) (by simp))
    | true =>
      rw [if_neg (by simp), if_neg (by decide)]
      unfold E6.ev
      simp only [errO_none]
      refine zzg (nt := 42) (rs := [.cell 4 31, .tmp 5]) Tryz.func27 ?_; intro Q hQ hW
      repeat' (first
 | (with_reducible refine run_n ?_; with_reducible first | refine hK _ _ (by simp) ?_ | refine hK _ _ ?_; clear hK K)
 | (refine zzc ?_)
 | (with_reducible refine awp_regT (by kernel_rfl) ?_; intro K hK)
 | (with_reducible refine a_cond (ht := ?_) (hf := ?_) <;> intro hb <;> (try simp at hb) <;> (try contradiction) <;> (try subst hb) <;> (try omega))
 | (with_reducible first | refine a_move (hr:=?_) | refine a_assign (hr:=?_) | refine a_load (hr:=?_) | refine a_fieldAddr (hr:=?_) | refine a_bin (hr:=?_) | refine a_extract (hr:=?_) | refine a_pick (hr:=?_) | refine a_un (hr:=?_) | refine a_store (hr:=?_) | refine a_box (hr:=?_) | refine a_alloc (hr:=?_) | refine a_eqI (hr:=?_) | refine a_neI (hr:=?_) | refine a_eqB (hr:=?_) | refine a_neB (hr:=?_) | refine a_eqS (hr:=?_) | refine a_neS (hr:=?_) | refine a_build (hr:=?_) | refine a_callP (p := 100000) (hcall := q) (hr:=?_) | refine a_call0 (hcall := q1) (hr:=?_) | refine a_callF (hcall := q2) (hr:=?_) | refine a_gT (hr:=?_) | refine a_gF (hr:=?_) | refine a_gU (hr:=?_))
 | (with_reducible refine a_gB (hT := ?_) (hF := ?_) <;> intro hb <;> (try simp at hb) <;> (try contradiction) <;> (try subst hb) <;> (try omega))
 | fail)
      all_goals ((refine zzr hQ ?_))
      all_goals (exact Fin.keep (by simp; exact .r) (by simp; exact .r) (by simp; exact .r) (by simp))
  · rw [if_neg (by simp), if_pos rfl]
    have q3 := c_VBoolV b
    unfold E6.ev
    simp only [errO_none]
    cases b with
    | false =>
      refine zzg (nt := 42) (rs := [.cell 4 31, .tmp 5]) Tryz.func27 ?_; intro Q hQ hW
      repeat' (first
 | (with_reducible refine run_n ?_; with_reducible first | refine hK _ _ (by simp) ?_ | refine hK _ _ ?_; clear hK K)
 | (refine zzc ?_)
 | (with_reducible refine awp_regT (by kernel_rfl) ?_; intro K hK)
 | (with_reducible refine a_cond (ht := ?_) (hf := ?_) <;> intro hb <;> (try simp at hb) <;> (try contradiction) <;> (try subst hb) <;> (try omega))
 | (with_reducible first | refine a_move (hr:=?_) | refine a_assign (hr:=?_) | refine a_load (hr:=?_) | refine a_fieldAddr (hr:=?_) | refine a_bin (hr:=?_) | refine a_extract (hr:=?_) | refine a_pick (hr:=?_) | refine a_un (hr:=?_) | refine a_store (hr:=?_) | refine a_box (hr:=?_) | refine a_alloc (hr:=?_) | refine a_eqI (hr:=?_) | refine a_neI (hr:=?_) | refine a_eqB (hr:=?_) | refine a_neB (hr:=?_) | refine a_eqS (hr:=?_) | refine a_neS (hr:=?_) | refine a_build (hr:=?_) | refine a_callP (p := 100000) (hcall := q) (hr:=?_) | refine a_call0 (hcall := q1) (hr:=?_) | refine a_callF (hcall := q2) (hr:=?_) | refine a_call0 (hcall := q3) (hr:=?_) | refine a_gT (hr:=?_) | refine a_gF (hr:=?_) | refine a_gU (hr:=?_))
 | (with_reducible refine a_gB (hT := ?_) (hF := ?_) <;> intro hb <;> (try simp at hb) <;> (try contradiction) <;> (try subst hb) <;> (try omega))
 | fail)
      all_goals ((refine zzr hQ ?_))
      all_goals (exact Fin.keep (by simp; exact .r) (by simp; exact .r) (by simp; exact .r) (by simp))
    | true =>
      refine zzg (nt := 42) (rs := [.cell 4 31, .tmp 5]) Tryz.func27 ?_; intro Q hQ hW
      repeat' (first
 | (with_reducible refine run_n ?_; with_reducible first | refine hK _ _ (by simp) ?_ | refine hK _ _ ?_; clear hK K)
 | (refine zzc ?_)
 | (with_reducible refine awp_regT (by kernel_rfl) ?_; intro K hK)
 | (with_reducible refine a_cond (ht := ?_) (hf := ?_) <;> intro hb <;> (try simp at hb) <;> (try contradiction) <;> (try subst hb) <;> (try omega))
 | (with_reducible first | refine a_move (hr:=?_) | refine a_assign (hr:=?_) | refine a_load (hr:=?_) | refine a_fieldAddr (hr:=?_) | refine a_bin (hr:=?_) | refine a_extract (hr:=?_) | refine a_pick (hr:=?_) | refine a_un (hr:=?_) | refine a_store (hr:=?_) | refine a_box (hr:=?_) | refine a_alloc (hr:=?_) | refine a_eqI (hr:=?_) | refine a_neI (hr:=?_) | refine a_eqB (hr:=?_) | refine a_neB (hr:=?_) | refine a_eqS (hr:=?_) | refine a_neS (hr:=?_) | refine a_build (hr:=?_) | refine a_callP (p := 100000) (hcall := q) (hr:=?_) | refine a_call0 (hcall := q1) (hr:=?_) | refine a_callF (hcall := q2) (hr:=?_) | refine a_call0 (hcall := q3) (hr:=?_) | refine a_gT (hr:=?_) | refine a_gF (hr:=?_) | refine a_gU (hr:=?_))
 | (with_reducible refine a_gB (hT := ?_) (hF := ?_) <;> intro hb <;> (try simp at hb) <;> (try contradiction) <;> (try subst hb) <;> (try omega))
 | fail)
      all_goals ((refine zzr hQ ?_))
      all_goals (exact Fin.keep (by simp; exact .r) (by simp; exact .r) (by simp; exact .r) (by simp))
end Go.Proofs.YtjbbnollidcagaaGreatDoor.Asl

