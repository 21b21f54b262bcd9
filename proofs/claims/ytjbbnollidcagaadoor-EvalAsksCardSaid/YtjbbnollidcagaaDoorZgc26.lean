/- Part 26 of what the row leans on: abstract values and states, their rules, and the contracts of the functions. -/
import Derived.Test.YtjbbnollidcagaaDoorZgc25
namespace Go.Proofs.YtjbbnollidcagaaDoor.Asl
open Go Go.RowKit
set_option linter.unusedVariables false
set_option linter.unusedSimpArgs false
set_option maxRecDepth 100000
set_option maxHeartbeats 1000000
def letB (c : Int) : Bool := decide (97 ≤ c) && decide (c ≤ 122)
def chB (c : Int) : Bool := letB c || (decide (48 ≤ c) && decide (c ≤ 57)) || decide (c = 45)
/-- A name. -/
def nameB (l : List Int) : Bool := match l with | [] => false | c :: _ => letB c && l.all chB && decide (l.length ≤ 16)
theorem c_Name (s : ByteArray) (hs : s.size < 9223372036854775808) : CallD Tryd.prog 93 [.raw (.string s)] noHeap (.raw (.bool (nameB (bytesOf s)))) noHeap := by
  rcases Nat.eq_zero_or_pos s.size with h0 | h0
  · obtain rfl : s = ⟨#[]⟩ := ByteArray.ext (Array.eq_empty_of_size_eq_zero h0)
    refine zzg (nt := 46) (rs := [.tmp 2]) Tryd.func93 ?_; intro Q hQ hW
    repeat' (first
 | (with_reducible refine run_n ?_; with_reducible first | refine hK _ _ (by simp) ?_ | refine hK _ _ ?_; clear hK K)
 | (refine zzc ?_)
 | (with_reducible refine awp_regT (by kernel_rfl) ?_; intro K hK)
 | (with_reducible refine a_cond (ht := ?_) (hf := ?_) <;> intro hb <;> (try simp at hb) <;> (try contradiction) <;> (try subst hb) <;> (try omega))
 | (with_reducible first | refine a_move (hr:=?_) | refine a_assign (hr:=?_) | refine a_bin (hr:=?_) | refine a_lenS (hr:=?_) | refine a_lenR (hr:=?_) | refine a_pick (hr:=?_) | refine a_eqB (hr:=?_) | refine a_eqS (hr:=?_) | refine a_index (hr:=?_) | refine a_gT (hr:=?_) | refine a_gF (hr:=?_) | refine a_gU (hr:=?_))
 | (with_reducible refine a_gB (hT := ?_) (hF := ?_) <;> intro hb <;> (try simp at hb) <;> (try contradiction) <;> (try subst hb) <;> (try omega))
 | fail)
    (refine zzr hQ ?_)
    exact zzd
  have hne : ¬ s = ⟨#[]⟩ := fun e => by subst e; simp at h0
  have hd := drop_byte s 0 h0
  rw [List.drop_zero] at hd
  have hl := len_bytes s
  by_cases hA : letB (byteAt s 0) = true ∧ s.size ≤ 16
  · have hN : nameB (bytesOf s) = (bytesOf s).all chB := by
      have : nameB (bytesOf s) = (letB (byteAt s 0) && (bytesOf s).all chB && decide ((bytesOf s).length ≤ 16)) := by
        conv => lhs; rw [hd]
        rw [nameB, ← hd]; rfl
      rw [this, hA.1, hl]; simp [hA.2]
    rw [hN]
    have hA1 := hA.1
    simp only [letB, Bool.and_eq_true, decide_eq_true_eq] at hA1
    clear hd
    refine zzg (nt := 46) (rs := [.tmp 2]) Tryd.func93 ?_; intro Q hQ hW
    repeat' (first
 | (with_reducible refine run_n ?_; with_reducible first | refine hK _ _ (by simp) ?_ | refine hK _ _ ?_; clear hK K)
 | (refine zzc ?_)
 | (with_reducible refine awp_regT (by kernel_rfl) ?_; intro K hK)
 | (with_reducible refine a_cond (ht := ?_) (hf := ?_) <;> intro hb <;> (try simp at hb) <;> (try contradiction) <;> (try subst hb) <;> (try omega))
 | (with_reducible first | refine a_move (hr:=?_) | refine a_assign (hr:=?_) | refine a_bin (hr:=?_) | refine a_lenS (hr:=?_) | refine a_lenR (hr:=?_) | refine a_pick (hr:=?_) | refine a_eqB (hr:=?_) | refine a_eqS (hr:=?_) | refine a_index (hr:=?_) | refine a_gT (hr:=?_) | refine a_gF (hr:=?_) | refine a_gU (hr:=?_))
 | (with_reducible refine a_gB (hT := ?_) (hF := ?_) <;> intro hb <;> (try simp at hb) <;> (try contradiction) <;> (try subst hb) <;> (try omega))
 | fail)
    refine awp_inv (α := Nat) (fun i => [(0, .raw (.string s)), (23, .raw (.int .i64 s.size)), (24, .raw (.int .i64 i))]) (fun _ => hpL []) (fun i => i ≤ s.size ∧ ((bytesOf s).drop i).all chB = (bytesOf s).all chB) (fun i => s.size - i) 0 ⟨by simp, by simp⟩ (zzw) ?_
    rintro i ⟨g1, g2⟩
    rw [← g2] at hQ
    rcases Nat.lt_or_ge i s.size with hlt | hge
    · have hdi := drop_byte s i hlt
      have hc : chB (byteAt s i) = true ∨ chB (byteAt s i) = false := by cases chB (byteAt s i) <;> simp
      rw [hdi, List.all_cons] at g2 hQ
      generalize hby : byteAt s (i : Int) = c at g2 hQ hc
      rcases hc with hc | hc
      · rw [hc, Bool.true_and] at g2 hQ
        repeat' (first
 | (with_reducible refine run_n ?_; with_reducible first | refine hK _ _ (by simp) ?_ | refine hK _ _ ?_; clear hK K)
 | (refine zzc ?_)
 | (with_reducible refine awp_regT (by kernel_rfl) ?_; intro K hK)
 | (with_reducible refine a_cond (ht := ?_) (hf := ?_) <;> intro hb <;> (try simp at hb) <;> (try contradiction) <;> (try subst hb) <;> (try omega))
 | (with_reducible first | refine a_move (hr:=?_) | refine a_assign (hr:=?_) | refine a_bin (hr:=?_) | refine a_lenS (hr:=?_) | refine a_lenR (hr:=?_) | refine a_pick (hr:=?_) | refine a_eqB (hr:=?_) | refine a_eqS (hr:=?_) | refine a_index (hr:=?_) | refine a_gT (hr:=?_) | refine a_gF (hr:=?_) | refine a_gU (hr:=?_))
 | (with_reducible refine a_gB (hT := ?_) (hF := ?_) <;> intro hb <;> (try simp at hb) <;> (try contradiction) <;> (try subst hb) <;> (try omega))
 | fail)
        all_goals (first | exact ⟨i + 1, by omega, ⟨by omega, g2⟩, zzw⟩ | (exfalso; simp [chB, letB] at hc; omega))
      · rw [hc, Bool.false_and] at g2 hQ
        simp [chB, letB] at hc
        repeat' (first
 | (with_reducible refine run_n ?_; with_reducible first | refine hK _ _ (by simp) ?_ | refine hK _ _ ?_; clear hK K)
 | (refine zzc ?_)
 | (with_reducible refine awp_regT (by kernel_rfl) ?_; intro K hK)
 | (with_reducible refine a_cond (ht := ?_) (hf := ?_) <;> intro hb <;> (try simp at hb) <;> (try contradiction) <;> (try subst hb) <;> (try omega))
 | (with_reducible first | refine a_move (hr:=?_) | refine a_assign (hr:=?_) | refine a_bin (hr:=?_) | refine a_lenS (hr:=?_) | refine a_lenR (hr:=?_) | refine a_pick (hr:=?_) | refine a_eqB (hr:=?_) | refine a_eqS (hr:=?_) | refine a_index (hr:=?_) | refine a_gT (hr:=?_) | refine a_gF (hr:=?_) | refine a_gU (hr:=?_))
 | (with_reducible refine a_gB (hT := ?_) (hF := ?_) <;> intro hb <;> (try simp at hb) <;> (try contradiction) <;> (try subst hb) <;> (try omega))
 | fail)
        all_goals (first | (exfalso; omega) | ((refine zzr hQ ?_); exact zzd))
    · obtain rfl : i = s.size := by omega
      rw [List.drop_of_length_le (by omega)] at hQ
      repeat' (first
 | (with_reducible refine run_n ?_; with_reducible first | refine hK _ _ (by simp) ?_ | refine hK _ _ ?_; clear hK K)
 | (refine zzc ?_)
 | (with_reducible refine awp_regT (by kernel_rfl) ?_; intro K hK)
 | (with_reducible refine a_cond (ht := ?_) (hf := ?_) <;> intro hb <;> (try simp at hb) <;> (try contradiction) <;> (try subst hb) <;> (try omega))
 | (with_reducible first | refine a_move (hr:=?_) | refine a_assign (hr:=?_) | refine a_bin (hr:=?_) | refine a_lenS (hr:=?_) | refine a_lenR (hr:=?_) | refine a_pick (hr:=?_) | refine a_eqB (hr:=?_) | refine a_eqS (hr:=?_) | refine a_index (hr:=?_) | refine a_gT (hr:=?_) | refine a_gF (hr:=?_) | refine a_gU (hr:=?_))
 | (with_reducible refine a_gB (hT := ?_) (hF := ?_) <;> intro hb <;> (try simp at hb) <;> (try contradiction) <;> (try subst hb) <;> (try omega))
 | fail)
      (refine zzr hQ ?_)
      exact zzd
  · have hN : nameB (bytesOf s) = false := by
      have : nameB (bytesOf s) = (letB (byteAt s 0) && (bytesOf s).all chB && decide ((bytesOf s).length ≤ 16)) := by
        conv => lhs; rw [hd]
        rw [nameB, ← hd]; rfl
      rw [this, hl]
      by_cases h1 : letB (byteAt s 0) = true
      · have : ¬ s.size ≤ 16 := fun h => hA ⟨h1, h⟩
        simp [this]
      · simp [h1]
    rw [hN]
    simp only [letB, Bool.and_eq_true, decide_eq_true_eq] at hA
    clear hd
    refine zzg (nt := 46) (rs := [.tmp 2]) Tryd.func93 ?_; intro Q hQ hW
    repeat' (first
 | (with_reducible refine run_n ?_; with_reducible first | refine hK _ _ (by simp) ?_ | refine hK _ _ ?_; clear hK K)
 | (refine zzc ?_)
 | (with_reducible refine awp_regT (by kernel_rfl) ?_; intro K hK)
 | (with_reducible refine a_cond (ht := ?_) (hf := ?_) <;> intro hb <;> (try simp at hb) <;> (try contradiction) <;> (try subst hb) <;> (try omega))
 | (with_reducible first | refine a_move (hr:=?_) | refine a_assign (hr:=?_) | refine a_bin (hr:=?_) | refine a_lenS (hr:=?_) | refine a_lenR (hr:=?_) | refine a_pick (hr:=?_) | refine a_eqB (hr:=?_) | refine a_eqS (hr:=?_) | refine a_index (hr:=?_) | refine a_gT (hr:=?_) | refine a_gF (hr:=?_) | refine a_gU (hr:=?_))
 | (with_reducible refine a_gB (hT := ?_) (hF := ?_) <;> intro hb <;> (try simp at hb) <;> (try contradiction) <;> (try subst hb) <;> (try omega))
 | fail)
    all_goals (first | omega | ((refine zzr hQ ?_); exact zzd))
theorem c_rName (s : ByteArray) (hs : s.size < 9223372036854775808) : CallD Tryd.prog 65 [.raw (.string s)] noHeap (.raw (.bool (nameB (bytesOf s)))) noHeap := by
  rcases Nat.eq_zero_or_pos s.size with h0 | h0
  · obtain rfl : s = ⟨#[]⟩ := ByteArray.ext (Array.eq_empty_of_size_eq_zero h0)
    refine zzg (nt := 53) (rs := [.tmp 2]) Tryd.func65 ?_; intro Q hQ hW
    repeat' (first
 | (with_reducible refine run_n ?_; with_reducible first | refine hK _ _ (by simp) ?_ | refine hK _ _ ?_; clear hK K)
 | (refine zzc ?_)
 | (with_reducible refine awp_regT (by kernel_rfl) ?_; intro K hK)
 | (with_reducible refine a_cond (ht := ?_) (hf := ?_) <;> intro hb <;> (try simp at hb) <;> (try contradiction) <;> (try subst hb) <;> (try omega))
 | (with_reducible first | refine a_move (hr:=?_) | refine a_assign (hr:=?_) | refine a_bin (hr:=?_) | refine a_lenS (hr:=?_) | refine a_lenR (hr:=?_) | refine a_pick (hr:=?_) | refine a_un (hr:=?_) | refine a_eqB (hr:=?_) | refine a_neB (hr:=?_) | refine a_eqS (hr:=?_) | refine a_neS (hr:=?_) | refine a_index (hr:=?_) | refine a_gT (hr:=?_) | refine a_gF (hr:=?_) | refine a_gU (hr:=?_))
 | (with_reducible refine a_gB (hT := ?_) (hF := ?_) <;> intro hb <;> (try simp at hb) <;> (try contradiction) <;> (try subst hb) <;> (try omega))
 | fail)
    refine awp_inv (α := Unit) (fun i => [(0, .raw (.string ⟨#[]⟩)), (6, .raw (.int .i64 0)), (7, .raw (.int .i64 0))]) (fun _ => hpL []) (fun i => True) (fun i => 0) () (by simp) (zzw) ?_
    intro _ _
    repeat' (first
 | (with_reducible refine run_n ?_; with_reducible first | refine hK _ _ (by simp) ?_ | refine hK _ _ ?_; clear hK K)
 | (refine zzc ?_)
 | (with_reducible refine awp_regT (by kernel_rfl) ?_; intro K hK)
 | (with_reducible refine a_cond (ht := ?_) (hf := ?_) <;> intro hb <;> (try simp at hb) <;> (try contradiction) <;> (try subst hb) <;> (try omega))
 | (with_reducible first | refine a_move (hr:=?_) | refine a_assign (hr:=?_) | refine a_bin (hr:=?_) | refine a_lenS (hr:=?_) | refine a_lenR (hr:=?_) | refine a_pick (hr:=?_) | refine a_un (hr:=?_) | refine a_eqB (hr:=?_) | refine a_neB (hr:=?_) | refine a_eqS (hr:=?_) | refine a_neS (hr:=?_) | refine a_index (hr:=?_) | refine a_gT (hr:=?_) | refine a_gF (hr:=?_) | refine a_gU (hr:=?_))
 | (with_reducible refine a_gB (hT := ?_) (hF := ?_) <;> intro hb <;> (try simp at hb) <;> (try contradiction) <;> (try subst hb) <;> (try omega))
 | fail)
    (refine zzr hQ ?_)
    exact zzd
  have hd := drop_byte s 0 h0
  rw [List.drop_zero] at hd
  have hl := len_bytes s
  have hN : nameB (bytesOf s) = (letB (byteAt s 0) && (bytesOf s).all chB && decide ((bytesOf s).length ≤ 16)) := by
    conv => lhs; rw [hd]
    rw [nameB, ← hd]; rfl
  clear hd
  rw [hN, hl]
  by_cases hA : letB (byteAt s 0) = true
  · rw [hA, Bool.true_and]
    simp only [letB, Bool.and_eq_true, decide_eq_true_eq] at hA
    refine zzg (nt := 53) (rs := [.tmp 2]) Tryd.func65 ?_; intro Q hQ hW
    repeat' (first
 | (with_reducible refine run_n ?_; with_reducible first | refine hK _ _ (by simp) ?_ | refine hK _ _ ?_; clear hK K)
 | (refine zzc ?_)
 | (with_reducible refine awp_regT (by kernel_rfl) ?_; intro K hK)
 | (with_reducible refine a_cond (ht := ?_) (hf := ?_) <;> intro hb <;> (try simp at hb) <;> (try contradiction) <;> (try subst hb) <;> (try omega))
 | (with_reducible first | refine a_move (hr:=?_) | refine a_assign (hr:=?_) | refine a_bin (hr:=?_) | refine a_lenS (hr:=?_) | refine a_lenR (hr:=?_) | refine a_pick (hr:=?_) | refine a_un (hr:=?_) | refine a_eqB (hr:=?_) | refine a_neB (hr:=?_) | refine a_eqS (hr:=?_) | refine a_neS (hr:=?_) | refine a_index (hr:=?_) | refine a_gT (hr:=?_) | refine a_gF (hr:=?_) | refine a_gU (hr:=?_))
 | (with_reducible refine a_gB (hT := ?_) (hF := ?_) <;> intro hb <;> (try simp at hb) <;> (try contradiction) <;> (try subst hb) <;> (try omega))
 | fail)
    refine awp_inv (α := Nat) (fun i => [(0, .raw (.string s)), (6, .raw (.int .i64 s.size)), (7, .raw (.int .i64 i))]) (fun _ => hpL []) (fun i => i ≤ s.size ∧ ((bytesOf s).drop i).all chB = (bytesOf s).all chB) (fun i => s.size - i) 0 ⟨by simp, by simp⟩ (zzw) ?_
    rintro i ⟨g1, g2⟩
    rw [← g2] at hQ
    rcases Nat.lt_or_ge i s.size with hlt | hge
    · have hdi := drop_byte s i hlt
      have h00 : i = 0 → byteAt s i = byteAt s 0 := fun e => by subst e; rfl
      have hc : chB (byteAt s i) = true ∨ chB (byteAt s i) = false := by cases chB (byteAt s i) <;> simp
      rw [hdi, List.all_cons] at g2 hQ
      generalize byteAt s 0 = c0 at hA h00
      generalize hby : byteAt s (i : Int) = c at g2 hQ hc h00
      rcases hc with hc | hc
      · rw [hc, Bool.true_and] at g2 hQ
        simp [chB, letB] at hc
        repeat' (first
 | (with_reducible refine run_n ?_; with_reducible first | refine hK _ _ (by simp) ?_ | refine hK _ _ ?_; clear hK K)
 | (refine zzc ?_)
 | (with_reducible refine awp_regT (by kernel_rfl) ?_; intro K hK)
 | (with_reducible refine a_cond (ht := ?_) (hf := ?_) <;> intro hb <;> (try simp at hb) <;> (try contradiction) <;> (try subst hb) <;> (try omega))
 | (with_reducible first | refine a_move (hr:=?_) | refine a_assign (hr:=?_) | refine a_bin (hr:=?_) | refine a_lenS (hr:=?_) | refine a_lenR (hr:=?_) | refine a_pick (hr:=?_) | refine a_un (hr:=?_) | refine a_eqB (hr:=?_) | refine a_neB (hr:=?_) | refine a_eqS (hr:=?_) | refine a_neS (hr:=?_) | refine a_index (hr:=?_) | refine a_gT (hr:=?_) | refine a_gF (hr:=?_) | refine a_gU (hr:=?_))
 | (with_reducible refine a_gB (hT := ?_) (hF := ?_) <;> intro hb <;> (try simp at hb) <;> (try contradiction) <;> (try subst hb) <;> (try omega))
 | fail)
        all_goals (first | exact ⟨i + 1, by omega, ⟨by omega, g2⟩, zzw⟩ | (exfalso; omega))
      · rw [hc, Bool.false_and, Bool.false_and] at hQ
        clear g2
        simp [chB, letB] at hc
        repeat' (first
 | (with_reducible refine run_n ?_; with_reducible first | refine hK _ _ (by simp) ?_ | refine hK _ _ ?_; clear hK K)
 | (refine zzc ?_)
 | (with_reducible refine awp_regT (by kernel_rfl) ?_; intro K hK)
 | (with_reducible refine a_cond (ht := ?_) (hf := ?_) <;> intro hb <;> (try simp at hb) <;> (try contradiction) <;> (try subst hb) <;> (try omega))
 | (with_reducible first | refine a_move (hr:=?_) | refine a_assign (hr:=?_) | refine a_bin (hr:=?_) | refine a_lenS (hr:=?_) | refine a_lenR (hr:=?_) | refine a_pick (hr:=?_) | refine a_un (hr:=?_) | refine a_eqB (hr:=?_) | refine a_neB (hr:=?_) | refine a_eqS (hr:=?_) | refine a_neS (hr:=?_) | refine a_index (hr:=?_) | refine a_gT (hr:=?_) | refine a_gF (hr:=?_) | refine a_gU (hr:=?_))
 | (with_reducible refine a_gB (hT := ?_) (hF := ?_) <;> intro hb <;> (try simp at hb) <;> (try contradiction) <;> (try subst hb) <;> (try omega))
 | fail)
        all_goals (first | (exfalso; omega) | ((refine zzr hQ ?_); exact zzd))
    · obtain rfl : i = s.size := by omega
      rw [List.drop_of_length_le (by omega)] at hQ
      simp only [List.all_nil, Bool.true_and] at hQ
      repeat' (first
 | (with_reducible refine run_n ?_; with_reducible first | refine hK _ _ (by simp) ?_ | refine hK _ _ ?_; clear hK K)
 | (refine zzc ?_)
 | (with_reducible refine awp_regT (by kernel_rfl) ?_; intro K hK)
 | (with_reducible refine a_cond (ht := ?_) (hf := ?_) <;> intro hb <;> (try simp at hb) <;> (try contradiction) <;> (try subst hb) <;> (try omega))
 | (with_reducible first | refine a_move (hr:=?_) | refine a_assign (hr:=?_) | refine a_bin (hr:=?_) | refine a_lenS (hr:=?_) | refine a_lenR (hr:=?_) | refine a_pick (hr:=?_) | refine a_un (hr:=?_) | refine a_eqB (hr:=?_) | refine a_neB (hr:=?_) | refine a_eqS (hr:=?_) | refine a_neS (hr:=?_) | refine a_index (hr:=?_) | refine a_gT (hr:=?_) | refine a_gF (hr:=?_) | refine a_gU (hr:=?_))
 | (with_reducible refine a_gB (hT := ?_) (hF := ?_) <;> intro hb <;> (try simp at hb) <;> (try contradiction) <;> (try subst hb) <;> (try omega))
 | fail)
      (refine zzr hQ ?_)
      rw [show (decide ((s.size : Int) ≤ 16)) = decide (s.size ≤ 16) from decide_eq_decide.2 (by omega)]
      exact zzd
  · simp only [Bool.not_eq_true] at hA
    rw [hA, Bool.false_and, Bool.false_and]
    simp [letB] at hA
    refine zzg (nt := 53) (rs := [.tmp 2]) Tryd.func65 ?_; intro Q hQ hW
    repeat' (first
 | (with_reducible refine run_n ?_; with_reducible first | refine hK _ _ (by simp) ?_ | refine hK _ _ ?_; clear hK K)
 | (refine zzc ?_)
 | (with_reducible refine awp_regT (by kernel_rfl) ?_; intro K hK)
 | (with_reducible refine a_cond (ht := ?_) (hf := ?_) <;> intro hb <;> (try simp at hb) <;> (try contradiction) <;> (try subst hb) <;> (try omega))
 | (with_reducible first | refine a_move (hr:=?_) | refine a_assign (hr:=?_) | refine a_bin (hr:=?_) | refine a_lenS (hr:=?_) | refine a_lenR (hr:=?_) | refine a_pick (hr:=?_) | refine a_un (hr:=?_) | refine a_eqB (hr:=?_) | refine a_neB (hr:=?_) | refine a_eqS (hr:=?_) | refine a_neS (hr:=?_) | refine a_index (hr:=?_) | refine a_gT (hr:=?_) | refine a_gF (hr:=?_) | refine a_gU (hr:=?_))
 | (with_reducible refine a_gB (hT := ?_) (hF := ?_) <;> intro hb <;> (try simp at hb) <;> (try contradiction) <;> (try subst hb) <;> (try omega))
 | fail)
    refine awp_inv (α := Unit) (fun i => [(0, .raw (.string s)), (6, .raw (.int .i64 s.size)), (7, .raw (.int .i64 0))]) (fun _ => hpL []) (fun i => True) (fun i => 0) () (by simp) (zzw) ?_
    intro _ _
    repeat' (first
 | (with_reducible refine run_n ?_; with_reducible first | refine hK _ _ (by simp) ?_ | refine hK _ _ ?_; clear hK K)
 | (refine zzc ?_)
 | (with_reducible refine awp_regT (by kernel_rfl) ?_; intro K hK)
 | (with_reducible refine a_cond (ht := ?_) (hf := ?_) <;> intro hb <;> (try simp at hb) <;> (try contradiction) <;> (try subst hb) <;> (try omega))
 | (with_reducible first | refine a_move (hr:=?_) | refine a_assign (hr:=?_) | refine a_bin (hr:=?_) | refine a_lenS (hr:=?_) | refine a_lenR (hr:=?_) | refine a_pick (hr:=?_) | refine a_un (hr:=?_) | refine a_eqB (hr:=?_) | refine a_neB (hr:=?_) | refine a_eqS (hr:=?_) | refine a_neS (hr:=?_) | refine a_index (hr:=?_) | refine a_gT (hr:=?_) | refine a_gF (hr:=?_) | refine a_gU (hr:=?_))
 | (with_reducible refine a_gB (hT := ?_) (hF := ?_) <;> intro hb <;> (try simp at hb) <;> (try contradiction) <;> (try subst hb) <;> (try omega))
 | fail)
    all_goals (first | (exfalso; omega) | ((refine zzr hQ ?_); exact zzd))
end Go.Proofs.YtjbbnollidcagaaDoor.Asl

