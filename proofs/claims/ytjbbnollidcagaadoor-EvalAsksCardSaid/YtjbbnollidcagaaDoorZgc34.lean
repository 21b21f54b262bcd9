/- Part 34 of what the row leans on: abstract values and states, their rules, and the contracts of the functions. -/
import Derived.Test.YtjbbnollidcagaaDoorZgc33
namespace Go.Proofs.YtjbbnollidcagaaDoor.Asl
open Go Go.RowKit
open Go.Proofs.YtjbbnollidcagaaDoor.Errs (EV)
set_option linter.unusedVariables false
set_option linter.unusedSimpArgs false
set_option maxRecDepth 100000
set_option maxHeartbeats 8000000
def smT (t : TermV) : Bool := decide (t.n.size ≤ 100) && decide (t.s.size ≤ 200)
def smV (x : VarV) : Bool := decide (x.n.size ≤ 100) && decide (x.s.size ≤ 200)
def fewT (e : List TermV) (l : List VarV) : Bool := e.all smT && (l.all smV && (decide (e.length ≤ 100) && decide (l.length ≤ 40)))
theorem c_few6 (e : List TermV) (l : List VarV) (he : e.length < 9223372036854775808) (hl : l.length < 9223372036854775808) : CallD Tryd.prog 16 [.sl 5 (e.map termAV), .sl 4 (l.map varAV)] noHeap (.raw (.bool (fewT e l))) noHeap := by
  unfold fewT
  refine zzg (nt := 53) (rs := [.tmp 4]) Tryd.func16 ?_; intro Q hQ hW
  repeat' (first
 | (with_reducible refine run_n ?_; with_reducible first | refine hK _ _ (by simp) ?_ | refine hK _ _ ?_; clear hK K)
 | (refine zzc ?_)
 | (with_reducible refine awp_regT (by kernel_rfl) ?_; intro K hK)
 | (with_reducible refine a_cond (ht := ?_) (hf := ?_) <;> intro hb <;> (try simp at hb) <;> (try contradiction) <;> (try subst hb) <;> (try omega))
 | (with_reducible first | refine a_move (hr:=?_) | refine a_assign (hr:=?_) | refine a_load (hr:=?_) | refine a_fieldAddr (hr:=?_) | refine a_bin (hr:=?_) | refine a_lenS (hr:=?_) | refine a_lenR (hr:=?_) | refine a_pick (hr:=?_) | refine a_store (hr:=?_) | refine a_alloc (hr:=?_) | refine a_idxArr (hr:=?_) | refine a_indexAddr (hr:=?_) | refine a_gT (hr:=?_) | refine a_gF (hr:=?_) | refine a_gU (hr:=?_))
 | (with_reducible refine a_gB (hT := ?_) (hF := ?_) <;> intro hb <;> (try simp at hb) <;> (try contradiction) <;> (try subst hb) <;> (try omega))
 | fail)
  refine awp_inv (α := Nat) (fun i => [(0, .sl 5 (e.map termAV)), (1, .sl 4 (l.map varAV)), (9, .sl 5 (e.map termAV)), (10, .raw (.int .i64 e.length)), (11, .raw (.int .i64 i))]) (fun _ => hpL []) (fun i => i ≤ e.length ∧ (e.drop i).all smT = e.all smT) (fun i => e.length - i) 0 ⟨by simp, by simp⟩ (zzw) ?_
  rintro i ⟨g1, g2⟩
  rw [← g2] at hQ
  rcases Nat.lt_or_ge i e.length with hlt | hge
  · have hx := List.getElem?_eq_getElem hlt
    rw [List.drop_eq_getElem_cons hlt] at g2 hQ
    generalize e[i] = y at hx g2 hQ
    obtain ⟨op, k, v, s, n⟩ := y
    simp only [List.all_cons] at g2 hQ
    by_cases h1 : n.size ≤ 100
    · by_cases h2 : s.size ≤ 200
      · have hs : smT ⟨op, k, v, s, n⟩ = true := by unfold smT; simp [h1, h2]
        rw [hs] at g2 hQ
        repeat' (first
 | (with_reducible refine run_n ?_; with_reducible first | refine hK _ _ (by simp) ?_ | refine hK _ _ ?_; clear hK K)
 | (refine zzc ?_)
 | (with_reducible refine awp_regT (by kernel_rfl) ?_; intro K hK)
 | (with_reducible refine a_cond (ht := ?_) (hf := ?_) <;> intro hb <;> (try simp at hb) <;> (try contradiction) <;> (try subst hb) <;> (try omega))
 | (with_reducible first | refine a_move (hr:=?_) | refine a_assign (hr:=?_) | refine a_load (hr:=?_) | refine a_fieldAddr (hr:=?_) | refine a_bin (hr:=?_) | refine a_lenS (hr:=?_) | refine a_lenR (hr:=?_) | refine a_pick (hr:=?_) | refine a_store (hr:=?_) | refine a_alloc (hr:=?_) | refine a_idxArr (hr:=?_) | refine a_indexAddr (hr:=?_) | refine a_gT (hr:=?_) | refine a_gF (hr:=?_) | refine a_gU (hr:=?_))
 | (with_reducible refine a_gB (hT := ?_) (hF := ?_) <;> intro hb <;> (try simp at hb) <;> (try contradiction) <;> (try subst hb) <;> (try omega))
 | fail)
        exact ⟨i + 1, by omega, ⟨by omega, g2⟩, zzw⟩
      · have hs : smT ⟨op, k, v, s, n⟩ = false := by unfold smT; simp [h2]
        rw [hs] at g2 hQ
        simp only [Bool.and_false, Bool.false_and] at g2 hQ
        repeat' (first
 | (with_reducible refine run_n ?_; with_reducible first | refine hK _ _ (by simp) ?_ | refine hK _ _ ?_; clear hK K)
 | (refine zzc ?_)
 | (with_reducible refine awp_regT (by kernel_rfl) ?_; intro K hK)
 | (with_reducible refine a_cond (ht := ?_) (hf := ?_) <;> intro hb <;> (try simp at hb) <;> (try contradiction) <;> (try subst hb) <;> (try omega))
 | (with_reducible first | refine a_move (hr:=?_) | refine a_assign (hr:=?_) | refine a_load (hr:=?_) | refine a_fieldAddr (hr:=?_) | refine a_bin (hr:=?_) | refine a_lenS (hr:=?_) | refine a_lenR (hr:=?_) | refine a_pick (hr:=?_) | refine a_store (hr:=?_) | refine a_alloc (hr:=?_) | refine a_idxArr (hr:=?_) | refine a_indexAddr (hr:=?_) | refine a_gT (hr:=?_) | refine a_gF (hr:=?_) | refine a_gU (hr:=?_))
 | (with_reducible refine a_gB (hT := ?_) (hF := ?_) <;> intro hb <;> (try simp at hb) <;> (try contradiction) <;> (try subst hb) <;> (try omega))
 | fail)
        (refine zzr hQ ?_)
        exact zzd
    · have hs : smT ⟨op, k, v, s, n⟩ = false := by unfold smT; simp [h1]
      rw [hs] at g2 hQ
      simp only [Bool.and_false, Bool.false_and] at g2 hQ
      repeat' (first
 | (with_reducible refine run_n ?_; with_reducible first | refine hK _ _ (by simp) ?_ | refine hK _ _ ?_; clear hK K)
 | (refine zzc ?_)
 | (with_reducible refine awp_regT (by kernel_rfl) ?_; intro K hK)
 | (with_reducible refine a_cond (ht := ?_) (hf := ?_) <;> intro hb <;> (try simp at hb) <;> (try contradiction) <;> (try subst hb) <;> (try omega))
 | (with_reducible first | refine a_move (hr:=?_) | refine a_assign (hr:=?_) | refine a_load (hr:=?_) | refine a_fieldAddr (hr:=?_) | refine a_bin (hr:=?_) | refine a_lenS (hr:=?_) | refine a_lenR (hr:=?_) | refine a_pick (hr:=?_) | refine a_store (hr:=?_) | refine a_alloc (hr:=?_) | refine a_idxArr (hr:=?_) | refine a_indexAddr (hr:=?_) | refine a_gT (hr:=?_) | refine a_gF (hr:=?_) | refine a_gU (hr:=?_))
 | (with_reducible refine a_gB (hT := ?_) (hF := ?_) <;> intro hb <;> (try simp at hb) <;> (try contradiction) <;> (try subst hb) <;> (try omega))
 | fail)
      (refine zzr hQ ?_)
      exact zzd
  · obtain rfl : i = e.length := by omega
    rw [List.drop_length] at hQ
    simp only [List.all_nil, Bool.true_and] at hQ
    clear g2
    repeat' (first
 | (with_reducible refine run_n ?_; with_reducible first | refine hK _ _ (by simp) ?_ | refine hK _ _ ?_; clear hK K)
 | (refine zzc ?_)
 | (with_reducible refine awp_regT (by kernel_rfl) ?_; intro K hK)
 | (with_reducible refine a_cond (ht := ?_) (hf := ?_) <;> intro hb <;> (try simp at hb) <;> (try contradiction) <;> (try subst hb) <;> (try omega))
 | (with_reducible first | refine a_move (hr:=?_) | refine a_assign (hr:=?_) | refine a_load (hr:=?_) | refine a_fieldAddr (hr:=?_) | refine a_bin (hr:=?_) | refine a_lenS (hr:=?_) | refine a_lenR (hr:=?_) | refine a_pick (hr:=?_) | refine a_store (hr:=?_) | refine a_alloc (hr:=?_) | refine a_idxArr (hr:=?_) | refine a_indexAddr (hr:=?_) | refine a_gT (hr:=?_) | refine a_gF (hr:=?_) | refine a_gU (hr:=?_))
 | (with_reducible refine a_gB (hT := ?_) (hF := ?_) <;> intro hb <;> (try simp at hb) <;> (try contradiction) <;> (try subst hb) <;> (try omega))
 | fail)
    refine awp_inv (α := Nat) (fun i => [(0, .sl 5 (e.map termAV)), (1, .sl 4 (l.map varAV)), (27, .sl 4 (l.map varAV)), (28, .raw (.int .i64 l.length)), (29, .raw (.int .i64 i))]) (fun _ => hpL []) (fun i => i ≤ l.length ∧ (l.drop i).all smV = l.all smV) (fun i => l.length - i) 0 ⟨by simp, by simp⟩ (zzw) ?_
    rintro i ⟨g1, g2⟩
    rw [← g2] at hQ
    rcases Nat.lt_or_ge i l.length with hlt | hge
    · have hx := List.getElem?_eq_getElem hlt
      rw [List.drop_eq_getElem_cons hlt] at g2 hQ
      generalize l[i] = y at hx g2 hQ
      obtain ⟨n, k, v, s⟩ := y
      simp only [List.all_cons] at g2 hQ
      by_cases h1 : n.size ≤ 100
      · by_cases h2 : s.size ≤ 200
        · have hs : smV ⟨n, k, v, s⟩ = true := by unfold smV; simp [h1, h2]
          rw [hs] at g2 hQ
          repeat' (first
 | (with_reducible refine run_n ?_; with_reducible first | refine hK _ _ (by simp) ?_ | refine hK _ _ ?_; clear hK K)
 | (refine zzc ?_)
 | (with_reducible refine awp_regT (by kernel_rfl) ?_; intro K hK)
 | (with_reducible refine a_cond (ht := ?_) (hf := ?_) <;> intro hb <;> (try simp at hb) <;> (try contradiction) <;> (try subst hb) <;> (try omega))
 | (with_reducible first | refine a_move (hr:=?_) | refine a_assign (hr:=?_) | refine a_load (hr:=?_) | refine a_fieldAddr (hr:=?_) | refine a_bin (hr:=?_) | refine a_lenS (hr:=?_) | refine a_lenR (hr:=?_) | refine a_pick (hr:=?_) | refine a_store (hr:=?_) | refine a_alloc (hr:=?_) | refine a_idxArr (hr:=?_) | refine a_indexAddr (hr:=?_) | refine a_gT (hr:=?_) | refine a_gF (hr:=?_) | refine a_gU (hr:=?_))
 | (with_reducible refine a_gB (hT := ?_) (hF := ?_) <;> intro hb <;> (try simp at hb) <;> (try contradiction) <;> (try subst hb) <;> (try omega))
 | fail)
          exact ⟨i + 1, by omega, ⟨by omega, g2⟩, zzw⟩
        · have hs : smV ⟨n, k, v, s⟩ = false := by unfold smV; simp [h2]
          rw [hs] at g2 hQ
          simp only [Bool.and_false, Bool.false_and] at g2 hQ
          repeat' (first
 | (with_reducible refine run_n ?_; with_reducible first | refine hK _ _ (by simp) ?_ | refine hK _ _ ?_; clear hK K)
 | (refine zzc ?_)
 | (with_reducible refine awp_regT (by kernel_rfl) ?_; intro K hK)
 | (with_reducible refine a_cond (ht := ?_) (hf := ?_) <;> intro hb <;> (try simp at hb) <;> (try contradiction) <;> (try subst hb) <;> (try omega))
 | (with_reducible first | refine a_move (hr:=?_) | refine a_assign (hr:=?_) | refine a_load (hr:=?_) | refine a_fieldAddr (hr:=?_) | refine a_bin (hr:=?_) | refine a_lenS (hr:=?_) | refine a_lenR (hr:=?_) | refine a_pick (hr:=?_) | refine a_store (hr:=?_) | refine a_alloc (hr:=?_) | refine a_idxArr (hr:=?_) | refine a_indexAddr (hr:=?_) | refine a_gT (hr:=?_) | refine a_gF (hr:=?_) | refine a_gU (hr:=?_))
 | (with_reducible refine a_gB (hT := ?_) (hF := ?_) <;> intro hb <;> (try simp at hb) <;> (try contradiction) <;> (try subst hb) <;> (try omega))
 | fail)
          (refine zzr hQ ?_)
          exact zzd
      · have hs : smV ⟨n, k, v, s⟩ = false := by unfold smV; simp [h1]
        rw [hs] at g2 hQ
        simp only [Bool.and_false, Bool.false_and] at g2 hQ
        repeat' (first
 | (with_reducible refine run_n ?_; with_reducible first | refine hK _ _ (by simp) ?_ | refine hK _ _ ?_; clear hK K)
 | (refine zzc ?_)
 | (with_reducible refine awp_regT (by kernel_rfl) ?_; intro K hK)
 | (with_reducible refine a_cond (ht := ?_) (hf := ?_) <;> intro hb <;> (try simp at hb) <;> (try contradiction) <;> (try subst hb) <;> (try omega))
 | (with_reducible first | refine a_move (hr:=?_) | refine a_assign (hr:=?_) | refine a_load (hr:=?_) | refine a_fieldAddr (hr:=?_) | refine a_bin (hr:=?_) | refine a_lenS (hr:=?_) | refine a_lenR (hr:=?_) | refine a_pick (hr:=?_) | refine a_store (hr:=?_) | refine a_alloc (hr:=?_) | refine a_idxArr (hr:=?_) | refine a_indexAddr (hr:=?_) | refine a_gT (hr:=?_) | refine a_gF (hr:=?_) | refine a_gU (hr:=?_))
 | (with_reducible refine a_gB (hT := ?_) (hF := ?_) <;> intro hb <;> (try simp at hb) <;> (try contradiction) <;> (try subst hb) <;> (try omega))
 | fail)
        (refine zzr hQ ?_)
        exact zzd
    · obtain rfl : i = l.length := by omega
      rw [List.drop_length] at hQ
      simp only [List.all_nil, Bool.true_and] at hQ
      rw [show decide (l.length ≤ 40) = decide ((l.length : Int) ≤ 40) from decide_eq_decide.2 (by omega)] at hQ
      clear g2
      by_cases h1 : e.length ≤ 100
      · rw [decide_eq_true h1, Bool.true_and] at hQ
        repeat' (first
 | (with_reducible refine run_n ?_; with_reducible first | refine hK _ _ (by simp) ?_ | refine hK _ _ ?_; clear hK K)
 | (refine zzc ?_)
 | (with_reducible refine awp_regT (by kernel_rfl) ?_; intro K hK)
 | (with_reducible refine a_cond (ht := ?_) (hf := ?_) <;> intro hb <;> (try simp at hb) <;> (try contradiction) <;> (try subst hb) <;> (try omega))
 | (with_reducible first | refine a_move (hr:=?_) | refine a_assign (hr:=?_) | refine a_load (hr:=?_) | refine a_fieldAddr (hr:=?_) | refine a_bin (hr:=?_) | refine a_lenS (hr:=?_) | refine a_lenR (hr:=?_) | refine a_pick (hr:=?_) | refine a_store (hr:=?_) | refine a_alloc (hr:=?_) | refine a_idxArr (hr:=?_) | refine a_indexAddr (hr:=?_) | refine a_gT (hr:=?_) | refine a_gF (hr:=?_) | refine a_gU (hr:=?_))
 | (with_reducible refine a_gB (hT := ?_) (hF := ?_) <;> intro hb <;> (try simp at hb) <;> (try contradiction) <;> (try subst hb) <;> (try omega))
 | fail)
        (refine zzr hQ ?_)
        exact zzd
      · rw [decide_eq_false h1, Bool.false_and] at hQ
        repeat' (first
 | (with_reducible refine run_n ?_; with_reducible first | refine hK _ _ (by simp) ?_ | refine hK _ _ ?_; clear hK K)
 | (refine zzc ?_)
 | (with_reducible refine awp_regT (by kernel_rfl) ?_; intro K hK)
 | (with_reducible refine a_cond (ht := ?_) (hf := ?_) <;> intro hb <;> (try simp at hb) <;> (try contradiction) <;> (try subst hb) <;> (try omega))
 | (with_reducible first | refine a_move (hr:=?_) | refine a_assign (hr:=?_) | refine a_load (hr:=?_) | refine a_fieldAddr (hr:=?_) | refine a_bin (hr:=?_) | refine a_lenS (hr:=?_) | refine a_lenR (hr:=?_) | refine a_pick (hr:=?_) | refine a_store (hr:=?_) | refine a_alloc (hr:=?_) | refine a_idxArr (hr:=?_) | refine a_indexAddr (hr:=?_) | refine a_gT (hr:=?_) | refine a_gF (hr:=?_) | refine a_gU (hr:=?_))
 | (with_reducible refine a_gB (hT := ?_) (hF := ?_) <;> intro hb <;> (try simp at hb) <;> (try contradiction) <;> (try subst hb) <;> (try omega))
 | fail)
        (refine zzr hQ ?_)
        exact zzd
structure FewOk (e : List TermV) (l : List VarV) : Prop where
  t : ∀ t ∈ e, wfT t ∧ okV (valT t)
  v : ∀ x ∈ l, okV (x.k, x.v, x.s)
  e : e.length ≤ 100
  l : l.length ≤ 40
theorem few_ok {e : List TermV} {l : List VarV} (h : fewT e l = true) (hi : ∀ t ∈ e, inR t.v) (hv : ∀ x ∈ l, inR x.v) : FewOk e l := by
  unfold fewT at h
  simp only [Bool.and_eq_true, decide_eq_true_eq, List.all_eq_true] at h
  obtain ⟨h1, h2, h3, h4⟩ := h
  refine ⟨fun t ht => ?_, fun x hx => ?_, h3, h4⟩
  · have a := h1 t ht
    unfold smT at a
    simp only [Bool.and_eq_true, decide_eq_true_eq] at a
    have b := hi t ht
    unfold inR at b
    exact ⟨⟨b.1, b.2, by omega, by omega⟩, ⟨hi t ht, by show t.s.size ≤ 1000; omega⟩⟩
  · have a := h2 x hx
    unfold smV at a
    simp only [Bool.and_eq_true, decide_eq_true_eq] at a
    exact ⟨hv x hx, by show x.s.size ≤ 1000; omega⟩
def tof (x : Int × (Int × Int × ByteArray) × ByteArray) : TermV := ⟨x.1, x.2.1.1, x.2.1.2.1, x.2.1.2.2, x.2.2⟩
theorem map_tof (l : List (Int × (Int × Int × ByteArray) × ByteArray)) : (l.map tof).map termAV = l.map fun x => termAV (tof x) := by simp
end Go.Proofs.YtjbbnollidcagaaDoor.Asl

namespace Go.Proofs.YtjbbnollidcagaaDoor.Asl
open Go Go.RowKit
open Go.Proofs.YtjbbnollidcagaaDoor.Errs (EV)
set_option linter.unusedVariables false
set_option linter.unusedSimpArgs false
set_option maxRecDepth 100000
set_option maxHeartbeats 4000000
theorem codeE_ofE (c : Int) : codeE (ofE c) = c := by
  unfold ofE
  split
  · rename_i h; rw [h]; rfl
  · rfl
theorem codeE_code (c : Int) : codeE (E6.code c).ev = c := codeE_ofE c
theorem num_bad {op m n : Int} (h : (numE op m n).2 ≠ 0) : (numE op m n).1 = zV := by
  revert h
  unfold numE outI
  repeat' split
  all_goals simp
theorem two_bad {op : Int} {a b : Val} (h : (twoE op a b).2 ≠ 0) : (twoE op a b).1 = zV := by
  revert h
  unfold twoE
  repeat' split
  all_goals first
    | exact fun h => num_bad h
    | simp
theorem bad_code {c : Int} : (E6.code c).bad = decide (c ≠ 0) := by
  show (ofE c).isSome = _
  unfold ofE
  by_cases h : c = 0 <;> simp [h]
/-- As evL, with all values that are left. -/
def evR (vars : List VarV) : List TermV → Int → List Val → List Val × Int × E6
  | [], f, st => (st, f, .ok)
  | t :: l, f, st => if f = 0 then ([], 0, .code 60) else if (stepE vars t st).2.1.bad = true then ([], f - 1, (stepE vars t st).2.1) else evR vars l (f - 1) ((stepE vars t st).2.2 ++ [(stepE vars t st).1])
theorem evL_R (vars : List VarV) : ∀ (l : List TermV) (f : Int) (st : List Val), evL vars l f st = ((evR vars l f st).1.headD zV, (evR vars l f st).2)
  | [], f, st => rfl
  | t :: l, f, st => by
    rw [evL, evR]
    split
    · rfl
    · split
      · rfl
      · exact evL_R vars l _ _
theorem evR_more (vars : List VarV) (k : Int) (hk : 0 ≤ k) : ∀ (l : List TermV) (f : Int) (st : List Val), (l.length : Int) ≤ f → evR vars l (f + k) st = ((evR vars l f st).1, (evR vars l f st).2.1 + k, (evR vars l f st).2.2)
  | [], f, st, _ => rfl
  | t :: l, f, st, h => by
    rw [List.length_cons] at h
    rw [evR, evR, if_neg (show ¬ f + k = 0 by omega), if_neg (show ¬ f = 0 by omega)]
    split
    · simp only; rw [show f - 1 + k = f + k - 1 by omega]
    · rw [show f + k - 1 = (f - 1) + k by omega]
      exact evR_more vars k hk l (f - 1) _ (by omega)
theorem evR_left (vars : List VarV) : ∀ (l : List TermV) (f : Int) (st : List Val), (l.length : Int) ≤ f → (evR vars l f st).2.2.bad = false → (evR vars l f st).2.1 = f - l.length
  | [], f, st, _, _ => by show f = f - 0; omega
  | t :: l, f, st, h, hb => by
    rw [List.length_cons] at h ⊢
    rw [evR, if_neg (by omega)] at hb ⊢
    split at hb
    · rename_i h1
      rw [h1] at hb; cases hb
    · rename_i h1
      rw [if_neg h1, evR_left vars l (f - 1) _ (by omega) hb]
      omega
theorem evR_range (vars : List VarV) : ∀ (l : List TermV) (f : Int) (st : List Val), 0 ≤ f → 0 ≤ (evR vars l f st).2.1 ∧ (evR vars l f st).2.1 ≤ f
  | [], f, st, h => ⟨h, Int.le_refl _⟩
  | t :: l, f, st, h => by
    rw [evR]
    split
    · exact ⟨Int.le_refl _, h⟩
    · split
      · exact ⟨by simp only; omega, by simp only; omega⟩
      · have := evR_range vars l (f - 1) ((stepE vars t st).2.2 ++ [(stepE vars t st).1]) (by omega)
        exact ⟨this.1, by omega⟩
theorem evR_append (vars : List VarV) : ∀ (a m : List TermV) (f : Int) (st : List Val), (a.length : Int) ≤ f → evR vars (a ++ m) f st = if (evR vars a f st).2.2.bad = true then ([], (evR vars a f st).2) else evR vars m (evR vars a f st).2.1 (evR vars a f st).1
  | [], m, f, st, _ => by
    rw [if_neg (by show ¬ false = true; decide)]; rfl
  | t :: a, m, f, st, h => by
    rw [List.length_cons] at h
    rw [List.cons_append, evR, evR, if_neg (show ¬ f = 0 by omega), if_neg (show ¬ f = 0 by omega)]
    by_cases hb : (stepE vars t st).2.1.bad = true
    · rw [if_pos hb, if_pos hb, if_pos hb]
    · rw [if_neg hb, if_neg hb]
      exact evR_append vars a m (f - 1) _ (by omega)
theorem step_frame (vars : List VarV) (t : TermV) (st0 st : List Val) (ho : ownE t = 0) (hk : takesE t.op ≤ st.length) : stepE vars t (st0 ++ st) = ((stepE vars t st).1, (stepE vars t st).2.1, st0 ++ (stepE vars t st).2.2) := by
  have hop := ownE_op ho
  unfold stepE
  by_cases o0 : t.op = 0
  · rw [if_pos o0, if_pos o0]
  rw [if_neg o0, if_neg o0]
  by_cases o3 : t.op < 3
  · rw [if_pos o3, if_pos o3]
  rw [if_neg o3, if_neg o3]
  have e1 : ∀ i, 1 ≤ i → i ≤ st.length → (st0 ++ st)[(st0 ++ st).length - i]? = st[st.length - i]? := fun i h1 h2 => by
    rw [List.length_append, List.getElem?_append_right (by omega)]
    congr 1; omega
  have e2 : ∀ i, i ≤ st.length → (st0 ++ st).take ((st0 ++ st).length - i) = st0 ++ st.take (st.length - i) := fun i h2 => by
    rw [List.length_append, List.take_append, List.take_of_length_le (by omega)]
    congr 2; omega
  unfold takesE at hk
  rw [if_neg o3] at hk
  by_cases o6 : t.op < 6
  · rw [if_pos o6] at hk
    rw [if_pos o6, if_pos o6, e1 1 (by omega) hk, e2 1 hk]
  · rw [if_neg o6] at hk
    rw [if_neg o6, if_neg o6, e1 1 (by omega) (by omega), e1 2 (by omega) hk, e2 2 hk]
theorem step_len (vars : List VarV) (t : TermV) (st : List Val) (ho : ownE t = 0) : (stepE vars t st).2.2.length = st.length - takesE t.op := by
  have hop := ownE_op ho
  unfold stepE takesE
  by_cases o0 : t.op = 0
  · rw [if_pos o0, if_pos (by omega)]; simp
  rw [if_neg o0]
  by_cases o3 : t.op < 3
  · rw [if_pos o3, if_pos o3]; simp
  rw [if_neg o3, if_neg o3]
  by_cases o6 : t.op < 6
  · rw [if_pos o6, if_pos o6, List.length_take]; omega
  · rw [if_neg o6, if_neg o6, List.length_take]; omega
theorem whole_cons {t : TermV} {l : List TermV} {ps : List Pc} (h : (wholeL (t :: l) ps).1 = 0) : ownE t = 0 ∧ takesE t.op ≤ ps.length ∧ wholeL (t :: l) ps = wholeL l (ps.take (ps.length - takesE t.op) ++ [joinE t (ps.drop (ps.length - takesE t.op))]) := by
  rw [wholeL] at h
  by_cases ho : ownE t ≠ 0
  · rw [if_pos ho] at h; exact absurd h ho
  rw [if_neg ho] at h
  by_cases hk : ps.length < takesE t.op
  · rw [if_pos hk] at h; exact absurd h (by decide)
  exact ⟨by simpa using ho, by omega, by rw [wholeL, if_neg ho, if_neg hk]⟩
theorem step_ln {vars : List VarV} {t : TermV} {st : List Val} {ps : List Pc} (ho : ownE t = 0) (hk : takesE t.op ≤ ps.length) (hl : ps.length = st.length) : (ps.take (ps.length - takesE t.op) ++ [joinE t (ps.drop (ps.length - takesE t.op))]).length = ((stepE vars t st).2.2 ++ [(stepE vars t st).1]).length := by
  rw [List.length_append, List.length_append, List.length_take, step_len vars t st ho, List.length_singleton, List.length_singleton]; omega
theorem evR_frame (vars : List VarV) (st0 : List Val) : ∀ (l : List TermV) (ps : List Pc) (f : Int) (st : List Val), (wholeL l ps).1 = 0 → ps.length = st.length → (l.length : Int) ≤ f → evR vars l f (st0 ++ st) = ((if (evR vars l f st).2.2.bad = true then [] else st0 ++ (evR vars l f st).1), (evR vars l f st).2)
  | [], ps, f, st, _, _, _ => rfl
  | t :: l, ps, f, st, hw, hl, hf => by
    rw [List.length_cons] at hf
    obtain ⟨ho, hk, he⟩ := whole_cons hw
    rw [he] at hw
    rw [evR, evR, if_neg (show ¬ f = 0 by omega), if_neg (show ¬ f = 0 by omega), step_frame vars t st0 st ho (by omega)]
    by_cases hb : (stepE vars t st).2.1.bad = true
    · rw [if_pos hb, if_pos hb, if_pos hb]
    · rw [if_neg hb, if_neg hb]
      simp only
      rw [List.append_assoc]
      exact evR_frame vars st0 l _ (f - 1) _ hw (step_ln ho hk hl) (by omega)
theorem evR_len (vars : List VarV) : ∀ (l : List TermV) (ps : List Pc) (f : Int) (st : List Val), (wholeL l ps).1 = 0 → ps.length = st.length → (l.length : Int) ≤ f → (evR vars l f st).2.2.bad = false → (evR vars l f st).1.length = (wholeL l ps).2.length
  | [], ps, f, st, _, hl, _, _ => by simp only [evR, wholeL]; exact hl.symm
  | t :: l, ps, f, st, hw, hl, hf, hb => by
    rw [List.length_cons] at hf
    obtain ⟨ho, hk, he⟩ := whole_cons hw
    rw [he] at hw ⊢
    rw [evR, if_neg (by omega)] at hb ⊢
    by_cases hb2 : (stepE vars t st).2.1.bad = true
    · rw [if_pos hb2] at hb; rw [hb2] at hb; cases hb
    · rw [if_neg hb2] at hb ⊢
      exact evR_len vars l _ (f - 1) _ hw (step_ln ho hk hl) (by omega) hb
theorem whole_own : ∀ (l : List TermV) (ps : List Pc), (wholeL l ps).1 = 0 → ∀ t ∈ l, ownE t = 0
  | [], _, _, t, ht => by cases ht
  | t :: l, ps, hw, u, hu => by
    obtain ⟨ho, hk, he⟩ := whole_cons hw
    rw [he] at hw
    rcases List.mem_cons.1 hu with rfl | hu
    · exact ho
    · exact whole_own l _ hw u hu
theorem of6_whole {e : List TermV} {vars : List VarV} {f : Int} (h : (wholeE e).2 = 0) (hf : 0 ≤ f) : ofE6 e vars f = evL vars e f [] := by
  unfold ofE6
  rw [if_neg (by rw [h]; decide), show max f 0 = f by omega]
theorem of6_len {e : List TermV} {vars : List VarV} (h : (wholeE e).2 = 0) (hb : (evR vars e e.length []).2.2.bad = false) : ∃ v, (evR vars e e.length []).1 = [v] ∧ ofE6 e vars e.length = (v, 0, (evR vars e e.length []).2.2) := by
  obtain ⟨w1, w2, w3⟩ := wh_len h
  have hl := evR_len vars e [] e.length [] w1 rfl (Int.le_refl _) hb
  rw [w2] at hl
  have hn := evR_left vars e e.length [] (Int.le_refl _) hb
  rcases hq : (evR vars e e.length []).1 with _ | ⟨v, _ | ⟨w, l⟩⟩
  · rw [hq] at hl; cases hl
  · refine ⟨v, rfl, ?_⟩
    rw [of6_whole h (by omega), evL_R, hq]
    show (v, (evR vars e e.length []).2) = _
    rw [show (evR vars e e.length []).2 = ((evR vars e e.length []).2.1, (evR vars e e.length []).2.2) from rfl, hn]
    congr 2; omega
  · rw [hq] at hl; simp at hl
def opT (op : Int) : TermV := ⟨op, 0, 0, ⟨#[]⟩, ⟨#[]⟩⟩
/-- Two parts, alone and within. -/
structure PartsL (x y z : Val × Int × E6) (op m : Int) : Prop where
  fst : x.2.2.bad = true → codeE z.2.2.ev = codeE x.2.2.ev ∧ z.2.1 = m + 1 + x.2.1
  snd : x.2.2.bad = false → y.2.2.bad = true → codeE z.2.2.ev = codeE y.2.2.ev
  both : x.2.2.bad = false → y.2.2.bad = false → z.1 = (twoE op x.1 y.1).1 ∧ codeE z.2.2.ev = (twoE op x.1 y.1).2 ∧ z.2.1 = 0
  xr : 0 ≤ x.2.1
theorem parts {a b : List TermV} {op : Int} {vars : List VarV} (ha : (wholeE a).2 = 0) (hb : (wholeE b).2 = 0) (he : (wholeE (a ++ b ++ [opT op])).2 = 0) (hop : 6 ≤ op ∧ op ≤ 18) : PartsL (ofE6 a vars a.length) (ofE6 b vars b.length) (ofE6 (a ++ b ++ [opT op]) vars ((a ++ b ++ [opT op]).length : Nat)) op b.length := by
  obtain ⟨wb1, wb2, wb3⟩ := wh_len hb
  have hlen : (((a ++ b ++ [opT op]).length : Nat) : Int) = a.length + (b.length + 1) := by simp only [List.length_append, List.length_singleton]; omega
  have e1 := evR_append vars a (b ++ [opT op]) (a.length + (b.length + 1)) [] (by omega)
  rw [evR_more vars (b.length + 1) (by omega) a a.length [] (Int.le_refl _)] at e1
  have hz : ofE6 (a ++ b ++ [opT op]) vars ((a ++ b ++ [opT op]).length : Nat) = ((evR vars (a ++ (b ++ [opT op])) (a.length + (b.length + 1)) []).1.headD zV, (evR vars (a ++ (b ++ [opT op])) (a.length + (b.length + 1)) []).2) := by
    rw [of6_whole he (by omega), evL_R, hlen, List.append_assoc]
  rw [hz, e1]
  simp only
  have hxr := (evR_range vars a a.length [] (by omega)).1
  have hx : ofE6 a vars a.length = ((evR vars a a.length []).1.headD zV, (evR vars a a.length []).2) := by rw [of6_whole ha (by omega), evL_R]
  cases hA : (evR vars a a.length []).2.2.bad with
  | true =>
    rw [hx]
    exact ⟨fun _ => ⟨rfl, by simp only [if_true]; omega⟩, fun h => (by simp only at h; rw [hA] at h; cases h), fun h => (by simp only at h; rw [hA] at h; cases h), hxr⟩
  | false =>
    obtain ⟨v, hv, hxv⟩ := of6_len (vars := vars) ha hA
    have hn := evR_left vars a a.length [] (Int.le_refl _) hA
    rw [if_neg (by decide), hxv, hv, show (evR vars a a.length []).2.1 + (↑b.length + 1) = (b.length : Int) + 1 by omega]
    have e2 := evR_append vars b [opT op] (b.length + 1) [v] (by omega)
    have e3 := evR_frame vars [v] b [] (b.length + 1) [] wb1 rfl (by omega)
    rw [List.append_nil, evR_more vars 1 (by omega) b b.length [] (Int.le_refl _)] at e3
    rw [e3] at e2
    simp only at e2
    rw [e2]
    have hy : ofE6 b vars b.length = ((evR vars b b.length []).1.headD zV, (evR vars b b.length []).2) := by rw [of6_whole hb (by omega), evL_R]
    cases hB : (evR vars b b.length []).2.2.bad with
    | true =>
      rw [hy]
      refine ⟨fun h => ?_, fun _ _ => rfl, fun _ h => ?_, Int.le_refl _⟩
      · simp only at h; rw [hA] at h; cases h
      · simp only at h; rw [hB] at h; cases h
    | false =>
      obtain ⟨w, hw, hyw⟩ := of6_len (vars := vars) hb hB
      have hn2 := evR_left vars b b.length [] (Int.le_refl _) hB
      rw [if_neg (by decide), if_neg (by decide), hyw, hw, show (evR vars b b.length []).2.1 + 1 = 1 by omega]
      refine ⟨fun h => ?_, fun _ h => ?_, fun _ _ => ?_, Int.le_refl _⟩
      · simp only at h; rw [hA] at h; cases h
      · simp only at h; rw [hB] at h; cases h
      · have hs : stepE vars (opT op) ([v] ++ [w]) = ((twoE op v w).1, .code (twoE op v w).2, []) := by
          unfold stepE opT
          simp only
          rw [if_neg (by omega), if_neg (by omega), if_neg (by omega)]
          rfl
        rw [evR, if_neg (by decide), hs]
        simp only
        by_cases h2 : (twoE op v w).2 = 0
        · rw [if_neg (by rw [bad_code, h2]; decide), h2, evR]
          exact ⟨rfl, rfl, rfl⟩
        · rw [if_pos (by rw [bad_code]; simpa using h2), codeE_code]
          exact ⟨(two_bad h2).symm, rfl, rfl⟩
theorem getV_same {l m : List VarV} {n : ByteArray} (h : getV l n = getV m n) (t : TermV) (hn : t.n = n) (st : List Val) : stepE l t st = stepE m t st := by
  subst hn
  unfold stepE namE
  rw [h]
/-- What is wrong is small. -/
def smallE (x : E6) (e : List TermV) : Prop := match x with
  | .ok => True
  | .code c => 0 ≤ c ∧ c ≤ 100
  | .unset n => ∃ t ∈ e, t.n = n
theorem one_small (op : Int) (a : Val) : 0 ≤ (oneE op a).2 ∧ (oneE op a).2 ≤ 100 := by
  unfold oneE
  repeat' split
  all_goals simp
theorem num_small (op m n : Int) : 0 ≤ (numE op m n).2 ∧ (numE op m n).2 ≤ 100 := by
  unfold numE outI
  repeat' split
  all_goals simp
theorem two_small (op : Int) (a b : Val) : 0 ≤ (twoE op a b).2 ∧ (twoE op a b).2 ≤ 100 := by
  unfold twoE
  repeat' split
  all_goals first
    | exact num_small _ _ _
    | simp
theorem step_small (vars : List VarV) (t : TermV) (st : List Val) : smallE (stepE vars t st).2.1 [t] := by
  unfold stepE namE
  repeat' split
  · trivial
  · exact ⟨t, by simp, rfl⟩
  · trivial
  · trivial
  · exact one_small _ _
  · exact two_small _ _ _
theorem small_mono {x : E6} {a b : List TermV} (h : ∀ t ∈ a, t ∈ b) (hs : smallE x a) : smallE x b := by
  cases x with
  | ok => trivial
  | code c => exact hs
  | unset n =>
    obtain ⟨t, ht, e⟩ := hs
    exact ⟨t, h t ht, e⟩
theorem evR_small (vars : List VarV) : ∀ (l : List TermV) (f : Int) (st : List Val), smallE (evR vars l f st).2.2 l
  | [], f, st => trivial
  | t :: l, f, st => by
    rw [evR]
    split
    · exact ⟨by decide, by decide⟩
    · split
      · exact small_mono (fun u hu => by rw [List.mem_singleton.1 hu]; exact List.mem_cons_self) (step_small vars t st)
      · exact small_mono (fun u hu => List.mem_cons_of_mem _ hu) (evR_small vars l _ _)
theorem own_small (t : TermV) : 0 ≤ ownE t ∧ ownE t ≤ 100 := by
  have hr : 0 ≤ rightE t.k t.v t.s ∧ rightE t.k t.v t.s ≤ 100 := by
    unfold rightE
    repeat' split
    all_goals simp
  unfold ownE
  repeat' split
  all_goals first
    | exact hr
    | simp
theorem wholeL_small : ∀ (l : List TermV) (ps : List Pc), 0 ≤ (wholeL l ps).1 ∧ (wholeL l ps).1 ≤ 100
  | [], ps => by simp [wholeL]
  | t :: l, ps => by
    rw [wholeL]
    split
    · exact own_small t
    · split
      · simp
      · exact wholeL_small l _
theorem wholeE_small (e : List TermV) : 0 ≤ (wholeE e).2 ∧ (wholeE e).2 ≤ 100 := by
  unfold wholeE
  split
  · simp
  · have := wholeL_small e []
    unfold outW
    split
    · exact this
    · split
      · simp
      · split <;> simp
      · simp
theorem of6_small (e : List TermV) (vars : List VarV) (f : Int) : smallE (ofE6 e vars f).2.2 e := by
  unfold ofE6
  split
  · exact wholeE_small e
  · rw [evL_R]; exact evR_small vars e _ _
theorem of6_trl {e : List TermV} {vars : List VarV} {f : Int} {r : Val × Int × E6} (hr : r = ofE6 e vars f) : (trailE r.2.2.ev).length ≤ 1000000 := by
  have := of6_small e vars f
  rw [← hr] at this
  obtain ⟨v, n, x⟩ := r
  cases x with
  | ok => simp [E6.ev, trailE]
  | code c =>
    simp only [E6.ev, ofE]
    split <;> simp [trailE, placesE]
  | unset n => simp [E6.ev, trailE, placesE]
theorem of6_trail {e : List TermV} {vars : List VarV} {f : Int} {r : Val × Int × E6} (hr : r = ofE6 e vars f) (hw : ∀ t ∈ e, wfT t ∧ okV (valT t)) : sumP (trailE r.2.2.ev) ≤ 1000000000000000000 := by
  have := of6_small e vars f
  rw [← hr] at this
  obtain ⟨v, n, x⟩ := r
  cases x with
  | ok => simp [E6.ev, trailE, sumP]
  | code c =>
    simp only [E6.ev, ofE]
    split <;> simp [trailE, placesE, sumP]
  | unset n =>
    obtain ⟨t, ht, e1⟩ := this
    have := (hw t ht).1.2.2.2
    subst e1
    simp [E6.ev, trailE, placesE, sumP]; omega
theorem of6_inI {e : List TermV} {vars : List VarV} {f : Int} {r : Val × Int × E6} (hr : r = ofE6 e vars f) (hw : ∀ t ∈ e, wfT t ∧ okV (valT t)) : inI (codeE r.2.2.ev) := by
  have := of6_small e vars f
  rw [← hr] at this
  obtain ⟨v, n, x⟩ := r
  cases x with
  | ok => show inI 0; unfold inI; decide
  | code c =>
    have this : 0 ≤ c ∧ c ≤ 100 := this
    rw [codeE_code]; unfold inI; omega
  | unset n => show inI 61; unfold inI; decide
/-- The variables that are not named make no difference. -/
theorem evL_same {l m : List VarV} : ∀ (e : List TermV) (f : Int) (st : List Val), (∀ t ∈ e, (t.op = 1 ∨ t.op = 2) → getV l t.n = getV m t.n) → (∀ t ∈ e, ownE t = 0) → evL l e f st = evL m e f st
  | [], f, st, _, _ => rfl
  | t :: e, f, st, hg, ho => by
    have hs : stepE l t st = stepE m t st := by
      by_cases ht : t.op = 1 ∨ t.op = 2
      · exact getV_same (hg t List.mem_cons_self ht) t rfl st
      · have hop := ownE_op (ho t List.mem_cons_self)
        unfold stepE
        by_cases o0 : t.op = 0
        · rw [if_pos o0, if_pos o0]
        · have o3 : ¬ t.op < 3 := by omega
          rw [if_neg o0, if_neg o0, if_neg o3, if_neg o3]
    rw [evL, evL, hs]
    split
    · rfl
    · split
      · rfl
      · exact evL_same e _ _ (fun t ht => hg t (List.mem_cons_of_mem _ ht)) fun t ht => ho t (List.mem_cons_of_mem _ ht)
end Go.Proofs.YtjbbnollidcagaaDoor.Asl

namespace Go.Proofs.YtjbbnollidcagaaDoor.Asl
open Go Go.RowKit
set_option linter.unusedVariables false
@[simp] theorem take_map_len {α : Type} (f : α → AV) (l : List α) : (l.map f).take l.length = l.map f := List.take_of_length_le (by simp)
@[simp] theorem take_map_len2 {α β : Type} (f : α → AV) (g : β → AV) (l : List α) (m : List β) : (l.map f ++ m.map g).take (l.length + m.length) = l.map f ++ m.map g := List.take_of_length_le (by simp)
end Go.Proofs.YtjbbnollidcagaaDoor.Asl

