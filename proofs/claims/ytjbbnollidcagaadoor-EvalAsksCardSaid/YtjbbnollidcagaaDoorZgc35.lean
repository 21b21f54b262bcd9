/- Part 35 of what the row leans on: abstract values and states, their rules, and the contracts of the functions. -/
import Derived.Test.YtjbbnollidcagaaDoorZgc34
namespace Go.Proofs.YtjbbnollidcagaaDoor.Asl
open Go Go.RowKit
open Go.Proofs.YtjbbnollidcagaaDoor.Errs (EV)
set_option linter.unusedVariables false
set_option linter.unusedSimpArgs false
set_option maxRecDepth 100000
set_option maxHeartbeats 8000000
def setR (x : VarV) (has : Bool) : List VarV → Bool → List VarV
  | [], done => if done = true then [] else [x]
  | y :: l, done => if done = true then y :: setR x has l true else if has = true ∧ y.n = x.n then x :: setR x has l true else if has = false ∧ sless x.n y.n = true then x :: y :: setR x has l true else y :: setR x has l false
theorem setR_get (x : VarV) (has : Bool) (m : ByteArray) (hm : m ≠ x.n) : ∀ (l : List VarV) (done : Bool), getV (setR x has l done) m = getV l m
  | [], done => by
    unfold setR
    split
    · rfl
    · simp only [getV]; rw [if_neg (fun e => hm e.symm)]
  | y :: l, done => by
    rw [setR]
    split
    · simp only [getV]; rw [setR_get x has m hm l true]
    · split
      · rename_i h1 h2
        simp only [getV]
        rw [if_neg (fun e => hm e.symm), if_neg (fun e => hm (by rw [← e, h2.2])), setR_get x has m hm l true]
      · split
        · simp only [getV]
          rw [if_neg (fun e => hm e.symm), setR_get x has m hm l true]
        · simp only [getV]; rw [setR_get x has m hm l false]
theorem setR_mem (x : VarV) (has : Bool) (p : VarV → Prop) (hx : p x) : ∀ (l : List VarV) (done : Bool), (∀ y ∈ l, p y) → ∀ y ∈ setR x has l done, p y
  | [], done, _, y, hy => by
    unfold setR at hy
    split at hy
    · cases hy
    · rw [List.mem_singleton.1 hy]; exact hx
  | z :: l, done, h, y, hy => by
    have h2 : ∀ y ∈ l, p y := fun y hy => h y (List.mem_cons_of_mem _ hy)
    rw [setR] at hy
    split at hy
    · rcases List.mem_cons.1 hy with rfl | hy
      · exact h _ List.mem_cons_self
      · exact setR_mem x has p hx l true h2 y hy
    · split at hy
      · rcases List.mem_cons.1 hy with rfl | hy
        · exact hx
        · exact setR_mem x has p hx l true h2 y hy
      · split at hy
        · rcases List.mem_cons.1 hy with rfl | hy
          · exact hx
          · rcases List.mem_cons.1 hy with rfl | hy
            · exact h _ List.mem_cons_self
            · exact setR_mem x has p hx l true h2 y hy
        · rcases List.mem_cons.1 hy with rfl | hy
          · exact h _ List.mem_cons_self
          · exact setR_mem x has p hx l false h2 y hy
theorem setR_len (x : VarV) (has : Bool) : ∀ (l : List VarV) (done : Bool), (setR x has l done).length ≤ l.length + 1
  | [], done => by unfold setR; split <;> simp
  | y :: l, done => by
    rw [setR]
    have h1 := setR_len x has l true
    have h2 := setR_len x has l false
    split
    · simp only [List.length_cons]; omega
    · split
      · simp only [List.length_cons]; omega
      · split
        · have h3 : (setR x has l true).length ≤ l.length := by
            have : ∀ l : List VarV, (setR x has l true).length ≤ l.length := by
              intro l
              induction l with
              | nil => simp [setR]
              | cons z l ih => rw [setR, if_pos rfl]; simp only [List.length_cons]; omega
            exact this l
          simp only [List.length_cons]; omega
        · simp only [List.length_cons]; omega
theorem setR_snoc (acc l R : List VarV) (y : VarV) (h : acc ++ y :: l = R) : (acc ++ [y]) ++ l = R := by rw [List.append_assoc]; exact h
theorem c_rSet (l : List VarV) (x : VarV) (hl : l.length ≤ 1000000) : CallD Tryd.prog 31 [.sl 4 (l.map varAV), varAV x] noHeap (.sl 4 ((setR x (getV l x.n).2 l false).map varAV)) noHeap := by
  have q := c_rGet l x.n (by omega)
  obtain ⟨xn, xk, xv, xs⟩ := x
  simp only at q
  generalize getV l xn = r at q ⊢
  obtain ⟨⟨gk, gv, gs⟩, has⟩ := r
  simp only at q ⊢
  obtain ⟨R, hR⟩ : ∃ R, setR ⟨xn, xk, xv, xs⟩ has l false = R := ⟨_, rfl⟩
  have hRl := setR_len ⟨xn, xk, xv, xs⟩ has l false
  rw [hR] at hRl
  rw [hR]
  refine zzg (nt := 63) (rs := [.tmp 4]) Tryd.func31 ?_; intro Q hQ hW
  repeat' (first
 | (with_reducible refine run_n ?_; with_reducible first | refine hK _ _ (by simp) ?_ | refine hK _ _ ?_; clear hK K)
 | (refine zzc ?_)
 | (with_reducible refine awp_regT (by kernel_rfl) ?_; intro K hK)
 | (with_reducible refine a_cond (ht := ?_) (hf := ?_) <;> intro hb <;> (try simp at hb) <;> (try contradiction) <;> (try subst hb) <;> (try omega))
 | (with_reducible first | refine a_move (hr:=?_) | refine a_assign (hr:=?_) | refine a_load (hr:=?_) | refine a_fieldAddr (hr:=?_) | refine a_bin (hr:=?_) | refine a_lenS (hr:=?_) | refine a_lenR (hr:=?_) | refine a_extract (hr:=?_) | refine a_pick (hr:=?_) | refine a_un (hr:=?_) | refine a_store (hr:=?_) | refine a_box (hr:=?_) | refine a_alloc (hr:=?_) | refine a_eqB (hr:=?_) | refine a_idxArr (hr:=?_) | refine a_eqS (hr:=?_) | refine a_indexAddr (hr:=?_) | refine a_buildSlice (hr:=?_) | refine a_append (hr:=?_) | refine a_append0 (hr:=?_) | refine a_appendX (hr:=?_) | refine a_callF (hcall := q) (hr:=?_) | refine a_gT (hr:=?_) | refine a_gF (hr:=?_) | refine a_gU (hr:=?_))
 | (with_reducible refine a_gB (hT := ?_) (hF := ?_) <;> intro hb <;> (try simp at hb) <;> (try contradiction) <;> (try subst hb) <;> (try omega))
 | fail)
  clear q
  refine awp_inv (α := Nat × List VarV × Bool) (fun s => [(3, .ptr 3 0), (5, .ow 70 4 0 s.2.1.length), (7, .raw (.bool has)), (8, .raw (.bool s.2.2)), (19, .sl 4 (l.map varAV)), (20, .raw (.int .i64 l.length)), (21, .raw (.int .i64 s.1))]) (fun s => hpL [(3, .box (varAV ⟨xn, xk, xv, xs⟩)), (70, .arr 4 (s.2.1.map varAV))]) (fun s => s.1 ≤ l.length ∧ s.2.1 ++ setR ⟨xn, xk, xv, xs⟩ has (l.drop s.1) s.2.2 = R) (fun s => l.length - s.1) (0, [], false) ⟨by simp, by simpa using hR⟩ (zzx 70 11) ?_
  rintro ⟨i, acc, done⟩ ⟨g1, g2⟩
  simp only at g1 g2 ⊢
  have hacc : acc.length ≤ R.length := by rw [← g2, List.length_append]; omega
  rcases Nat.lt_or_ge i l.length with hlt | hge
  · have hx := List.getElem?_eq_getElem hlt
    rw [List.drop_eq_getElem_cons hlt, setR] at g2
    generalize l[i] = y at hx g2
    obtain ⟨yn, yk, yv, ys⟩ := y
    simp only at g2
    cases done with
    | true =>
      rw [if_pos rfl] at g2
      repeat' (first
 | (with_reducible refine run_n ?_; with_reducible first | refine hK _ _ (by simp) ?_ | refine hK _ _ ?_; clear hK K)
 | (refine zzc ?_)
 | (with_reducible refine awp_regT (by kernel_rfl) ?_; intro K hK)
 | (with_reducible refine a_cond (ht := ?_) (hf := ?_) <;> intro hb <;> (try simp at hb) <;> (try contradiction) <;> (try subst hb) <;> (try omega))
 | (with_reducible first | refine a_move (hr:=?_) | refine a_assign (hr:=?_) | refine a_load (hr:=?_) | refine a_fieldAddr (hr:=?_) | refine a_bin (hr:=?_) | refine a_lenS (hr:=?_) | refine a_lenR (hr:=?_) | refine a_extract (hr:=?_) | refine a_pick (hr:=?_) | refine a_un (hr:=?_) | refine a_store (hr:=?_) | refine a_box (hr:=?_) | refine a_alloc (hr:=?_) | refine a_eqB (hr:=?_) | refine a_idxArr (hr:=?_) | refine a_eqS (hr:=?_) | refine a_indexAddr (hr:=?_) | refine a_buildSlice (hr:=?_) | refine a_append (hr:=?_) | refine a_append0 (hr:=?_) | refine a_appendX (hr:=?_) | refine a_gT (hr:=?_) | refine a_gF (hr:=?_) | refine a_gU (hr:=?_))
 | (with_reducible refine a_gB (hT := ?_) (hF := ?_) <;> intro hb <;> (try simp at hb) <;> (try contradiction) <;> (try subst hb) <;> (try omega))
 | fail)
      exact ⟨(i + 1, acc ++ [⟨yn, yk, yv, ys⟩], true), by simp only; omega, ⟨by simp only; omega, setR_snoc _ _ _ _ g2⟩, by rw [List.map_append]; exact zzx 70 54⟩
    | false =>
      rw [if_neg (by decide)] at g2
      cases has with
      | true =>
        by_cases h1 : yn = xn
        · subst h1
          rw [if_pos ⟨rfl, rfl⟩] at g2
          repeat' (first
 | (with_reducible refine run_n ?_; with_reducible first | refine hK _ _ (by simp) ?_ | refine hK _ _ ?_; clear hK K)
 | (refine zzc ?_)
 | (with_reducible refine awp_regT (by kernel_rfl) ?_; intro K hK)
 | (with_reducible refine a_cond (ht := ?_) (hf := ?_) <;> intro hb <;> (try simp at hb) <;> (try contradiction) <;> (try subst hb) <;> (try omega))
 | (with_reducible first | refine a_move (hr:=?_) | refine a_assign (hr:=?_) | refine a_load (hr:=?_) | refine a_fieldAddr (hr:=?_) | refine a_bin (hr:=?_) | refine a_lenS (hr:=?_) | refine a_lenR (hr:=?_) | refine a_extract (hr:=?_) | refine a_pick (hr:=?_) | refine a_un (hr:=?_) | refine a_store (hr:=?_) | refine a_box (hr:=?_) | refine a_alloc (hr:=?_) | refine a_eqB (hr:=?_) | refine a_idxArr (hr:=?_) | refine a_eqS (hr:=?_) | refine a_indexAddr (hr:=?_) | refine a_buildSlice (hr:=?_) | refine a_append (hr:=?_) | refine a_append0 (hr:=?_) | refine a_appendX (hr:=?_) | refine a_gT (hr:=?_) | refine a_gF (hr:=?_) | refine a_gU (hr:=?_))
 | (with_reducible refine a_gB (hT := ?_) (hF := ?_) <;> intro hb <;> (try simp at hb) <;> (try contradiction) <;> (try subst hb) <;> (try omega))
 | fail)
          exact ⟨(i + 1, acc ++ [⟨yn, xk, xv, xs⟩], true), by simp only; omega, ⟨by simp only; omega, setR_snoc _ _ _ _ g2⟩, by rw [List.map_append]; exact zzx 70 54⟩
        · rw [if_neg (fun h => h1 h.2), if_neg (fun h => by cases h.1)] at g2
          repeat' (first
 | (with_reducible refine run_n ?_; with_reducible first | refine hK _ _ (by simp) ?_ | refine hK _ _ ?_; clear hK K)
 | (refine zzc ?_)
 | (with_reducible refine awp_regT (by kernel_rfl) ?_; intro K hK)
 | (with_reducible refine a_cond (ht := ?_) (hf := ?_) <;> intro hb <;> (try simp at hb) <;> (try contradiction) <;> (try subst hb) <;> (try omega))
 | (with_reducible first | refine a_move (hr:=?_) | refine a_assign (hr:=?_) | refine a_load (hr:=?_) | refine a_fieldAddr (hr:=?_) | refine a_bin (hr:=?_) | refine a_lenS (hr:=?_) | refine a_lenR (hr:=?_) | refine a_extract (hr:=?_) | refine a_pick (hr:=?_) | refine a_un (hr:=?_) | refine a_store (hr:=?_) | refine a_box (hr:=?_) | refine a_alloc (hr:=?_) | refine a_eqB (hr:=?_) | refine a_idxArr (hr:=?_) | refine a_eqS (hr:=?_) | refine a_indexAddr (hr:=?_) | refine a_buildSlice (hr:=?_) | refine a_append (hr:=?_) | refine a_append0 (hr:=?_) | refine a_appendX (hr:=?_) | refine a_gT (hr:=?_) | refine a_gF (hr:=?_) | refine a_gU (hr:=?_))
 | (with_reducible refine a_gB (hT := ?_) (hF := ?_) <;> intro hb <;> (try simp at hb) <;> (try contradiction) <;> (try subst hb) <;> (try omega))
 | fail)
          exact ⟨(i + 1, acc ++ [⟨yn, yk, yv, ys⟩], false), by simp only; omega, ⟨by simp only; omega, setR_snoc _ _ _ _ g2⟩, by rw [List.map_append]; exact zzx 70 54⟩
      | false =>
        rw [if_neg (fun h => by cases h.1)] at g2
        generalize hss : sless xn yn = bl at g2
        cases bl with
        | true =>
          rw [if_pos ⟨rfl, rfl⟩] at g2
          repeat' (first
 | (with_reducible refine run_n ?_; with_reducible first | refine hK _ _ (by simp) ?_ | refine hK _ _ ?_; clear hK K)
 | (refine zzc ?_)
 | (with_reducible refine awp_regT (by kernel_rfl) ?_; intro K hK)
 | (with_reducible refine a_cond (ht := ?_) (hf := ?_) <;> intro hb <;> (try simp at hb) <;> (try contradiction) <;> (try subst hb) <;> (try omega))
 | (with_reducible first | refine a_move (hr:=?_) | refine a_assign (hr:=?_) | refine a_load (hr:=?_) | refine a_fieldAddr (hr:=?_) | refine a_bin (hr:=?_) | refine a_lenS (hr:=?_) | refine a_lenR (hr:=?_) | refine a_extract (hr:=?_) | refine a_pick (hr:=?_) | refine a_un (hr:=?_) | refine a_store (hr:=?_) | refine a_box (hr:=?_) | refine a_alloc (hr:=?_) | refine a_eqB (hr:=?_) | refine a_idxArr (hr:=?_) | refine a_eqS (hr:=?_) | refine a_indexAddr (hr:=?_) | refine a_buildSlice (hr:=?_) | refine a_append (hr:=?_) | refine a_append0 (hr:=?_) | refine a_appendX (hr:=?_) | refine a_gT (hr:=?_) | refine a_gF (hr:=?_) | refine a_gU (hr:=?_))
 | (with_reducible refine a_gB (hT := ?_) (hF := ?_) <;> intro hb <;> (try simp at hb) <;> (try contradiction) <;> (try subst hb) <;> (try omega))
 | fail)
          exact ⟨(i + 1, acc ++ [⟨xn, xk, xv, xs⟩] ++ [⟨yn, yk, yv, ys⟩], true), by simp only; omega, ⟨by simp only; omega, setR_snoc _ _ _ _ (setR_snoc _ _ _ _ g2)⟩, by rw [List.map_append, List.map_append]; exact zzx 70 54⟩
        | false =>
          rw [if_neg (fun h => by cases h.2)] at g2
          repeat' (first
 | (with_reducible refine run_n ?_; with_reducible first | refine hK _ _ (by simp) ?_ | refine hK _ _ ?_; clear hK K)
 | (refine zzc ?_)
 | (with_reducible refine awp_regT (by kernel_rfl) ?_; intro K hK)
 | (with_reducible refine a_cond (ht := ?_) (hf := ?_) <;> intro hb <;> (try simp at hb) <;> (try contradiction) <;> (try subst hb) <;> (try omega))
 | (with_reducible first | refine a_move (hr:=?_) | refine a_assign (hr:=?_) | refine a_load (hr:=?_) | refine a_fieldAddr (hr:=?_) | refine a_bin (hr:=?_) | refine a_lenS (hr:=?_) | refine a_lenR (hr:=?_) | refine a_extract (hr:=?_) | refine a_pick (hr:=?_) | refine a_un (hr:=?_) | refine a_store (hr:=?_) | refine a_box (hr:=?_) | refine a_alloc (hr:=?_) | refine a_eqB (hr:=?_) | refine a_idxArr (hr:=?_) | refine a_eqS (hr:=?_) | refine a_indexAddr (hr:=?_) | refine a_buildSlice (hr:=?_) | refine a_append (hr:=?_) | refine a_append0 (hr:=?_) | refine a_appendX (hr:=?_) | refine a_gT (hr:=?_) | refine a_gF (hr:=?_) | refine a_gU (hr:=?_))
 | (with_reducible refine a_gB (hT := ?_) (hF := ?_) <;> intro hb <;> (try simp at hb) <;> (try contradiction) <;> (try subst hb) <;> (try omega))
 | fail)
          exact ⟨(i + 1, acc ++ [⟨yn, yk, yv, ys⟩], false), by simp only; omega, ⟨by simp only; omega, setR_snoc _ _ _ _ g2⟩, by rw [List.map_append]; exact zzx 70 54⟩
  · obtain rfl : i = l.length := by omega
    rw [List.drop_length, setR] at g2
    cases done with
    | true =>
      rw [if_pos rfl, List.append_nil] at g2
      subst g2
      repeat' (first
 | (with_reducible refine run_n ?_; with_reducible first | refine hK _ _ (by simp) ?_ | refine hK _ _ ?_; clear hK K)
 | (refine zzc ?_)
 | (with_reducible refine awp_regT (by kernel_rfl) ?_; intro K hK)
 | (with_reducible refine a_cond (ht := ?_) (hf := ?_) <;> intro hb <;> (try simp at hb) <;> (try contradiction) <;> (try subst hb) <;> (try omega))
 | (with_reducible first | refine a_move (hr:=?_) | refine a_assign (hr:=?_) | refine a_load (hr:=?_) | refine a_fieldAddr (hr:=?_) | refine a_bin (hr:=?_) | refine a_lenS (hr:=?_) | refine a_lenR (hr:=?_) | refine a_extract (hr:=?_) | refine a_pick (hr:=?_) | refine a_un (hr:=?_) | refine a_store (hr:=?_) | refine a_box (hr:=?_) | refine a_alloc (hr:=?_) | refine a_eqB (hr:=?_) | refine a_idxArr (hr:=?_) | refine a_eqS (hr:=?_) | refine a_indexAddr (hr:=?_) | refine a_buildSlice (hr:=?_) | refine a_append (hr:=?_) | refine a_append0 (hr:=?_) | refine a_appendX (hr:=?_) | refine a_gT (hr:=?_) | refine a_gF (hr:=?_) | refine a_gU (hr:=?_))
 | (with_reducible refine a_gB (hT := ?_) (hF := ?_) <;> intro hb <;> (try simp at hb) <;> (try contradiction) <;> (try subst hb) <;> (try omega))
 | fail)
      (refine zzr hQ ?_)
      exact Fin.frzR (by simp; exact .r) (by simp [List.take_of_length_le]; exact .r) (by simp; exact .r) (by simp)
    | false =>
      rw [if_neg (by decide)] at g2
      subst g2
      repeat' (first
 | (with_reducible refine run_n ?_; with_reducible first | refine hK _ _ (by simp) ?_ | refine hK _ _ ?_; clear hK K)
 | (refine zzc ?_)
 | (with_reducible refine awp_regT (by kernel_rfl) ?_; intro K hK)
 | (with_reducible refine a_cond (ht := ?_) (hf := ?_) <;> intro hb <;> (try simp at hb) <;> (try contradiction) <;> (try subst hb) <;> (try omega))
 | (with_reducible first | refine a_move (hr:=?_) | refine a_assign (hr:=?_) | refine a_load (hr:=?_) | refine a_fieldAddr (hr:=?_) | refine a_bin (hr:=?_) | refine a_lenS (hr:=?_) | refine a_lenR (hr:=?_) | refine a_extract (hr:=?_) | refine a_pick (hr:=?_) | refine a_un (hr:=?_) | refine a_store (hr:=?_) | refine a_box (hr:=?_) | refine a_alloc (hr:=?_) | refine a_eqB (hr:=?_) | refine a_idxArr (hr:=?_) | refine a_eqS (hr:=?_) | refine a_indexAddr (hr:=?_) | refine a_buildSlice (hr:=?_) | refine a_append (hr:=?_) | refine a_append0 (hr:=?_) | refine a_appendX (hr:=?_) | refine a_gT (hr:=?_) | refine a_gF (hr:=?_) | refine a_gU (hr:=?_))
 | (with_reducible refine a_gB (hT := ?_) (hF := ?_) <;> intro hb <;> (try simp at hb) <;> (try contradiction) <;> (try subst hb) <;> (try omega))
 | fail)
      (refine zzr hQ ?_)
      show Fin _ _ _ (.sl 4 ((acc ++ [(⟨xn, xk, xv, xs⟩ : VarV)]).map varAV))
      exact Fin.frzR (by simp; exact .r) (by simp [List.take_of_length_le]; exact .r) (by simp; exact .r) (by simp)
end Go.Proofs.YtjbbnollidcagaaDoor.Asl

namespace Go.Proofs.YtjbbnollidcagaaDoor.Asl
open Go Go.RowKit
open Go.Proofs.YtjbbnollidcagaaDoor.Errs (EV)
set_option linter.unusedVariables false
set_option linter.unusedSimpArgs false
set_option maxRecDepth 100000
set_option maxHeartbeats 8000000
def insN (m : ByteArray) (l : List ByteArray) : List ByteArray := l.filter (fun s => sless s m) ++ [m] ++ l.filter (fun s => sless m s)
def namesL : List TermV → List ByteArray → List ByteArray
  | [], out => out
  | t :: l, out => if t.op ≠ 1 ∧ t.op ≠ 2 then namesL l out else namesL l (insN t.n out)
theorem sless_asym {a b : ByteArray} (h : sless a b = true) : sless b a = false := by
  unfold sless at *
  rw [less_bytes] at *
  cases h2 : ltb (bytesOf b) (bytesOf a) with
  | false => rfl
  | true =>
    have := ltb_trans _ _ _ h h2
    rw [ltb_irr] at this; cases this
theorem sless_tot {a b : ByteArray} (h : sless a b = false) (hne : a ≠ b) : sless b a = true := by
  unfold sless at *
  rw [less_bytes] at *
  cases h2 : ltb (bytesOf b) (bytesOf a) with
  | true => rfl
  | false => exact absurd (bytes_inj (ltb_total _ _ h h2)) hne
theorem flt_two (m : ByteArray) : ∀ l : List ByteArray, (l.filter (fun s => sless s m)).length + (l.filter (fun s => sless m s)).length ≤ l.length
  | [] => by simp
  | s :: l => by
    have ih := flt_two m l
    simp only [List.filter_cons]
    cases h1 : sless s m with
    | true =>
      rw [sless_asym h1]
      simp only [if_true, Bool.false_eq_true, if_false, List.length_cons]; omega
    | false =>
      simp only [Bool.false_eq_true, if_false, List.length_cons]
      split
      · simp only [List.length_cons]; omega
      · omega
theorem insN_len (m : ByteArray) (l : List ByteArray) : (insN m l).length ≤ l.length + 1 := by
  have := flt_two m l
  unfold insN
  simp only [List.length_append, List.length_singleton]; omega
theorem insN_ne (m : ByteArray) (l : List ByteArray) : insN m l ≠ [] := by unfold insN; simp
theorem strs_app (a b : List ByteArray) : strs (a ++ b) = strs a ++ strs b := by simp [strs]
theorem c_rNames (e : List TermV) (hl : e.length ≤ 1000000) : CallD Tryd.prog 30 [.sl 5 (e.map termAV)] noHeap (plAV (namesL e [])) noHeap := by
  generalize hR : namesL e [] = R
  refine zzg (nt := 63) (rs := [.tmp 2]) Tryd.func30 ?_; intro Q hQ hW
  repeat' (first
 | (with_reducible refine run_n ?_; with_reducible first | refine hK _ _ (by simp) ?_ | refine hK _ _ ?_; clear hK K)
 | (refine zzc ?_)
 | (with_reducible refine awp_regT (by kernel_rfl) ?_; intro K hK)
 | (with_reducible refine a_cond (ht := ?_) (hf := ?_) <;> intro hb <;> (try simp at hb) <;> (try contradiction) <;> (try subst hb) <;> (try omega))
 | (with_reducible first | refine a_move (hr:=?_) | refine a_assign (hr:=?_) | refine a_load (hr:=?_) | refine a_fieldAddr (hr:=?_) | refine a_bin (hr:=?_) | refine a_lenS (hr:=?_) | refine a_lenR (hr:=?_) | refine a_pick (hr:=?_) | refine a_store (hr:=?_) | refine a_alloc (hr:=?_) | refine a_neB (hr:=?_) | refine a_idxArr (hr:=?_) | refine a_neS (hr:=?_) | refine a_indexAddr (hr:=?_) | refine a_buildSlice (hr:=?_) | refine a_append (hr:=?_) | refine a_append0 (hr:=?_) | refine a_appendX (hr:=?_) | refine a_gT (hr:=?_) | refine a_gF (hr:=?_) | refine a_gU (hr:=?_))
 | (with_reducible refine a_gB (hT := ?_) (hF := ?_) <;> intro hb <;> (try simp at hb) <;> (try contradiction) <;> (try subst hb) <;> (try omega))
 | fail)
  refine awp_inv (α := Nat × List ByteArray) (fun s => [(3, orow 60 1 (strs s.2)), (11, .sl 5 (e.map termAV)), (12, .raw (.int .i64 e.length)), (13, .raw (.int .i64 s.1))]) (fun s => ohp 60 1 (strs s.2) (hpL [])) (fun s => s.1 ≤ e.length ∧ s.2.length ≤ s.1 ∧ namesL (e.drop s.1) s.2 = R) (fun s => e.length - s.1) (0, []) ⟨by simp, by simp, by simpa using hR⟩ (zzw) ?_
  rintro ⟨i, out⟩ ⟨g1, g3, g2⟩
  simp only at g1 g2 g3 ⊢
  rcases Nat.lt_or_ge i e.length with hlt | hge
  · have hx := List.getElem?_eq_getElem hlt
    rw [List.drop_eq_getElem_cons hlt, namesL] at g2
    generalize e[i] = y at hx g2
    obtain ⟨op, k, v, z, m⟩ := y
    simp only at g2
    by_cases ho : op ≠ 1 ∧ op ≠ 2
    · rw [if_pos ho] at g2
      obtain ⟨o1, o2⟩ := ho
      repeat' (first
 | (with_reducible refine run_n ?_; with_reducible first | refine hK _ _ (by simp) ?_ | refine hK _ _ ?_; clear hK K)
 | (refine zzc ?_)
 | (with_reducible refine awp_regT (by kernel_rfl) ?_; intro K hK)
 | (with_reducible refine a_cond (ht := ?_) (hf := ?_) <;> intro hb <;> (try simp at hb) <;> (try contradiction) <;> (try subst hb) <;> (try omega))
 | (with_reducible first | refine a_move (hr:=?_) | refine a_assign (hr:=?_) | refine a_load (hr:=?_) | refine a_fieldAddr (hr:=?_) | refine a_bin (hr:=?_) | refine a_lenS (hr:=?_) | refine a_lenR (hr:=?_) | refine a_pick (hr:=?_) | refine a_store (hr:=?_) | refine a_alloc (hr:=?_) | refine a_neB (hr:=?_) | refine a_idxArr (hr:=?_) | refine a_neS (hr:=?_) | refine a_indexAddr (hr:=?_) | refine a_buildSlice (hr:=?_) | refine a_append (hr:=?_) | refine a_append0 (hr:=?_) | refine a_appendX (hr:=?_) | refine a_gT (hr:=?_) | refine a_gF (hr:=?_) | refine a_gU (hr:=?_))
 | (with_reducible refine a_gB (hT := ?_) (hF := ?_) <;> intro hb <;> (try simp at hb) <;> (try contradiction) <;> (try subst hb) <;> (try omega))
 | fail)
      exact ⟨(i + 1, out), by simp only; omega, ⟨by simp only; omega, by simp only; omega, g2⟩, zzw⟩
    rw [if_neg ho] at g2
    have o1 : op = 1 ∨ op = 2 := by omega
    clear ho
    have hIL := insN_len m out
    have hIN := insN_ne m out
    have ft := flt_two m out
    obtain ⟨A, hA⟩ : ∃ A, out.filter (fun s => sless s m) = A := ⟨_, rfl⟩
    obtain ⟨B, hB⟩ : ∃ B, out.filter (fun s => sless m s) = B := ⟨_, rfl⟩
    have hI : insN m out = A ++ [m] ++ B := by rw [insN, hA, hB]
    rw [hI] at g2 hIL hIN
    rw [hA, hB] at ft
    clear hI
    have hout : out.length ≤ 1000000 := by omega
    obtain ⟨o, ho⟩ : ∃ o : Int, o = op := ⟨_, rfl⟩
    rcases o1 with rfl | rfl
    all_goals
      repeat' (first
 | (with_reducible refine run_n ?_; with_reducible first | refine hK _ _ (by simp) ?_ | refine hK _ _ ?_; clear hK K)
 | (refine zzc ?_)
 | (with_reducible refine awp_regT (by kernel_rfl) ?_; intro K hK)
 | (with_reducible refine a_cond (ht := ?_) (hf := ?_) <;> intro hb <;> (try simp at hb) <;> (try contradiction) <;> (try subst hb) <;> (try omega))
 | (with_reducible first | refine a_move (hr:=?_) | refine a_assign (hr:=?_) | refine a_load (hr:=?_) | refine a_fieldAddr (hr:=?_) | refine a_bin (hr:=?_) | refine a_lenS (hr:=?_) | refine a_lenR (hr:=?_) | refine a_pick (hr:=?_) | refine a_store (hr:=?_) | refine a_alloc (hr:=?_) | refine a_neB (hr:=?_) | refine a_idxArr (hr:=?_) | refine a_neS (hr:=?_) | refine a_indexAddr (hr:=?_) | refine a_buildSlice (hr:=?_) | refine a_append (hr:=?_) | refine a_append0 (hr:=?_) | refine a_appendX (hr:=?_) | refine a_gT (hr:=?_) | refine a_gF (hr:=?_) | refine a_gU (hr:=?_))
 | (with_reducible refine a_gB (hT := ?_) (hF := ?_) <;> intro hb <;> (try simp at hb) <;> (try contradiction) <;> (try subst hb) <;> (try omega))
 | fail)
      refine awp_inv (α := Nat × List ByteArray) (fun s => [(3, orow 60 1 (strs out)), (5, .ptr 5 0), (6, orow 61 1 (strs s.2)), (11, .sl 5 (e.map termAV)), (12, .raw (.int .i64 e.length)), (13, .raw (.int .i64 i)), (25, orow 60 1 (strs out)), (26, .raw (.int .i64 out.length)), (27, .raw (.int .i64 s.1))]) (fun s => ohp 61 1 (strs s.2) (ohp 60 1 (strs out) (hpL [(5, .box (termAV ⟨o, k, v, z, m⟩))]))) (fun s => s.1 ≤ out.length ∧ s.2 ++ (out.drop s.1).filter (fun s => sless s m) = A) (fun s => out.length - s.1) (0, []) ⟨by simp, by simpa using hA⟩ (by subst ho; exact zzw) ?_
      rintro ⟨j, acc⟩ ⟨k1, k2⟩
      simp only at k1 k2 ⊢
      have hacc : acc.length ≤ A.length := by rw [← k2, List.length_append]; omega
      rcases Nat.lt_or_ge j out.length with hjl | hjg
      · have hx := List.getElem?_eq_getElem hjl
        rw [List.drop_eq_getElem_cons hjl, List.filter_cons] at k2
        generalize out[j] = y at hx k2
        have hne : strs out ≠ [] := by intro h; rw [strs_ne] at h; subst h; simp at hjl
        generalize hss : sless y m = bl at k2
        cases bl with
        | true =>
          rw [if_pos rfl] at k2
          rw [orow_ne hne, ohp_ne hne]
          repeat' (first
 | (with_reducible refine run_n ?_; with_reducible first | refine hK _ _ (by simp) ?_ | refine hK _ _ ?_; clear hK K)
 | (refine zzc ?_)
 | (with_reducible refine awp_regT (by kernel_rfl) ?_; intro K hK)
 | (with_reducible refine a_cond (ht := ?_) (hf := ?_) <;> intro hb <;> (try simp at hb) <;> (try contradiction) <;> (try subst hb) <;> (try omega))
 | (with_reducible first | refine a_move (hr:=?_) | refine a_assign (hr:=?_) | refine a_load (hr:=?_) | refine a_fieldAddr (hr:=?_) | refine a_bin (hr:=?_) | refine a_lenS (hr:=?_) | refine a_lenR (hr:=?_) | refine a_pick (hr:=?_) | refine a_store (hr:=?_) | refine a_alloc (hr:=?_) | refine a_neB (hr:=?_) | refine a_idxArr (hr:=?_) | refine a_neS (hr:=?_) | refine a_indexAddr (hr:=?_) | refine a_buildSlice (hr:=?_) | refine a_append (hr:=?_) | refine a_append0 (hr:=?_) | refine a_appendX (hr:=?_) | refine a_gT (hr:=?_) | refine a_gF (hr:=?_) | refine a_gU (hr:=?_))
 | (with_reducible refine a_gB (hT := ?_) (hF := ?_) <;> intro hb <;> (try simp at hb) <;> (try contradiction) <;> (try subst hb) <;> (try omega))
 | fail)
          exact ⟨(j + 1, acc ++ [y]), by simp only; omega, ⟨by simp only; omega, by rw [List.append_assoc]; exact k2⟩, by rw [strs_app]; exact zzx 61 38⟩
        | false =>
          rw [if_neg (by decide)] at k2
          rw [orow_ne hne, ohp_ne hne]
          repeat' (first
 | (with_reducible refine run_n ?_; with_reducible first | refine hK _ _ (by simp) ?_ | refine hK _ _ ?_; clear hK K)
 | (refine zzc ?_)
 | (with_reducible refine awp_regT (by kernel_rfl) ?_; intro K hK)
 | (with_reducible refine a_cond (ht := ?_) (hf := ?_) <;> intro hb <;> (try simp at hb) <;> (try contradiction) <;> (try subst hb) <;> (try omega))
 | (with_reducible first | refine a_move (hr:=?_) | refine a_assign (hr:=?_) | refine a_load (hr:=?_) | refine a_fieldAddr (hr:=?_) | refine a_bin (hr:=?_) | refine a_lenS (hr:=?_) | refine a_lenR (hr:=?_) | refine a_pick (hr:=?_) | refine a_store (hr:=?_) | refine a_alloc (hr:=?_) | refine a_neB (hr:=?_) | refine a_idxArr (hr:=?_) | refine a_neS (hr:=?_) | refine a_indexAddr (hr:=?_) | refine a_buildSlice (hr:=?_) | refine a_append (hr:=?_) | refine a_append0 (hr:=?_) | refine a_appendX (hr:=?_) | refine a_gT (hr:=?_) | refine a_gF (hr:=?_) | refine a_gU (hr:=?_))
 | (with_reducible refine a_gB (hT := ?_) (hF := ?_) <;> intro hb <;> (try simp at hb) <;> (try contradiction) <;> (try subst hb) <;> (try omega))
 | fail)
          exact ⟨(j + 1, acc), by simp only; omega, ⟨by simp only; omega, k2⟩, zzw⟩
      · obtain rfl : j = out.length := by omega
        rw [List.drop_length, List.filter_nil, List.append_nil] at k2
        subst k2
        repeat' (first
 | (with_reducible refine run_n ?_; with_reducible first | refine hK _ _ (by simp) ?_ | refine hK _ _ ?_; clear hK K)
 | (refine zzc ?_)
 | (with_reducible refine awp_regT (by kernel_rfl) ?_; intro K hK)
 | (with_reducible refine a_cond (ht := ?_) (hf := ?_) <;> intro hb <;> (try simp at hb) <;> (try contradiction) <;> (try subst hb) <;> (try omega))
 | (with_reducible first | refine a_move (hr:=?_) | refine a_assign (hr:=?_) | refine a_load (hr:=?_) | refine a_fieldAddr (hr:=?_) | refine a_bin (hr:=?_) | refine a_lenS (hr:=?_) | refine a_lenR (hr:=?_) | refine a_pick (hr:=?_) | refine a_store (hr:=?_) | refine a_alloc (hr:=?_) | refine a_neB (hr:=?_) | refine a_idxArr (hr:=?_) | refine a_neS (hr:=?_) | refine a_indexAddr (hr:=?_) | refine a_buildSlice (hr:=?_) | refine a_append (hr:=?_) | refine a_append0 (hr:=?_) | refine a_appendX (hr:=?_) | refine a_gT (hr:=?_) | refine a_gF (hr:=?_) | refine a_gU (hr:=?_))
 | (with_reducible refine a_gB (hT := ?_) (hF := ?_) <;> intro hb <;> (try simp at hb) <;> (try contradiction) <;> (try subst hb) <;> (try omega))
 | fail)
        refine awp_inv (α := Nat × List ByteArray) (fun s => [(5, .ptr 5 0), (6, .ow 62 1 0 s.2.length), (11, .sl 5 (e.map termAV)), (12, .raw (.int .i64 e.length)), (13, .raw (.int .i64 i)), (45, orow 60 1 (strs out)), (46, .raw (.int .i64 out.length)), (47, .raw (.int .i64 s.1))]) (fun s => ohp 60 1 (strs out) (hpL [(5, .box (termAV ⟨o, k, v, z, m⟩)), (62, .arr 1 (strs s.2))])) (fun s => s.1 ≤ out.length ∧ s.2 ++ (out.drop s.1).filter (fun s => sless m s) = acc ++ [m] ++ B) (fun s => out.length - s.1) (0, acc ++ [m]) ⟨by simp, by simpa using hB⟩ (by rw [strs_app]; exact zzx 62 44) ?_
        rintro ⟨j, acc2⟩ ⟨k1, k2⟩
        simp only at k1 k2 ⊢
        have hacc2 : acc2.length ≤ acc.length + 1 + B.length := by
          have := congrArg List.length k2
          simp only [List.length_append, List.length_singleton] at this
          omega
        rcases Nat.lt_or_ge j out.length with hjl | hjg
        · have hx := List.getElem?_eq_getElem hjl
          rw [List.drop_eq_getElem_cons hjl, List.filter_cons] at k2
          generalize out[j] = y at hx k2
          have hne : strs out ≠ [] := by intro h; rw [strs_ne] at h; subst h; simp at hjl
          generalize hss : sless m y = bl at k2
          cases bl with
          | true =>
            rw [if_pos rfl] at k2
            rw [orow_ne hne, ohp_ne hne]
            repeat' (first
 | (with_reducible refine run_n ?_; with_reducible first | refine hK _ _ (by simp) ?_ | refine hK _ _ ?_; clear hK K)
 | (refine zzc ?_)
 | (with_reducible refine awp_regT (by kernel_rfl) ?_; intro K hK)
 | (with_reducible refine a_cond (ht := ?_) (hf := ?_) <;> intro hb <;> (try simp at hb) <;> (try contradiction) <;> (try subst hb) <;> (try omega))
 | (with_reducible first | refine a_move (hr:=?_) | refine a_assign (hr:=?_) | refine a_load (hr:=?_) | refine a_fieldAddr (hr:=?_) | refine a_bin (hr:=?_) | refine a_lenS (hr:=?_) | refine a_lenR (hr:=?_) | refine a_pick (hr:=?_) | refine a_store (hr:=?_) | refine a_alloc (hr:=?_) | refine a_neB (hr:=?_) | refine a_idxArr (hr:=?_) | refine a_neS (hr:=?_) | refine a_indexAddr (hr:=?_) | refine a_buildSlice (hr:=?_) | refine a_append (hr:=?_) | refine a_append0 (hr:=?_) | refine a_appendX (hr:=?_) | refine a_gT (hr:=?_) | refine a_gF (hr:=?_) | refine a_gU (hr:=?_))
 | (with_reducible refine a_gB (hT := ?_) (hF := ?_) <;> intro hb <;> (try simp at hb) <;> (try contradiction) <;> (try subst hb) <;> (try omega))
 | fail)
            exact ⟨(j + 1, acc2 ++ [y]), by simp only; omega, ⟨by simp only; omega, by rw [List.append_assoc]; exact k2⟩, by rw [strs_app, ohp_ne hne]; exact zzx 62 58⟩
          | false =>
            rw [if_neg (by decide)] at k2
            rw [orow_ne hne, ohp_ne hne]
            repeat' (first
 | (with_reducible refine run_n ?_; with_reducible first | refine hK _ _ (by simp) ?_ | refine hK _ _ ?_; clear hK K)
 | (refine zzc ?_)
 | (with_reducible refine awp_regT (by kernel_rfl) ?_; intro K hK)
 | (with_reducible refine a_cond (ht := ?_) (hf := ?_) <;> intro hb <;> (try simp at hb) <;> (try contradiction) <;> (try subst hb) <;> (try omega))
 | (with_reducible first | refine a_move (hr:=?_) | refine a_assign (hr:=?_) | refine a_load (hr:=?_) | refine a_fieldAddr (hr:=?_) | refine a_bin (hr:=?_) | refine a_lenS (hr:=?_) | refine a_lenR (hr:=?_) | refine a_pick (hr:=?_) | refine a_store (hr:=?_) | refine a_alloc (hr:=?_) | refine a_neB (hr:=?_) | refine a_idxArr (hr:=?_) | refine a_neS (hr:=?_) | refine a_indexAddr (hr:=?_) | refine a_buildSlice (hr:=?_) | refine a_append (hr:=?_) | refine a_append0 (hr:=?_) | refine a_appendX (hr:=?_) | refine a_gT (hr:=?_) | refine a_gF (hr:=?_) | refine a_gU (hr:=?_))
 | (with_reducible refine a_gB (hT := ?_) (hF := ?_) <;> intro hb <;> (try simp at hb) <;> (try contradiction) <;> (try subst hb) <;> (try omega))
 | fail)
            exact ⟨(j + 1, acc2), by simp only; omega, ⟨by simp only; omega, k2⟩, by rw [ohp_ne hne]; exact zzw⟩
        · obtain rfl : j = out.length := by omega
          rw [List.drop_length, List.filter_nil, List.append_nil] at k2
          rw [← k2] at g2 hIL hIN
          repeat' (first
 | (with_reducible refine run_n ?_; with_reducible first | refine hK _ _ (by simp) ?_ | refine hK _ _ ?_; clear hK K)
 | (refine zzc ?_)
 | (with_reducible refine awp_regT (by kernel_rfl) ?_; intro K hK)
 | (with_reducible refine a_cond (ht := ?_) (hf := ?_) <;> intro hb <;> (try simp at hb) <;> (try contradiction) <;> (try subst hb) <;> (try omega))
 | (with_reducible first | refine a_move (hr:=?_) | refine a_assign (hr:=?_) | refine a_load (hr:=?_) | refine a_fieldAddr (hr:=?_) | refine a_bin (hr:=?_) | refine a_lenS (hr:=?_) | refine a_lenR (hr:=?_) | refine a_pick (hr:=?_) | refine a_store (hr:=?_) | refine a_alloc (hr:=?_) | refine a_neB (hr:=?_) | refine a_idxArr (hr:=?_) | refine a_neS (hr:=?_) | refine a_indexAddr (hr:=?_) | refine a_buildSlice (hr:=?_) | refine a_append (hr:=?_) | refine a_append0 (hr:=?_) | refine a_appendX (hr:=?_) | refine a_gT (hr:=?_) | refine a_gF (hr:=?_) | refine a_gU (hr:=?_))
 | (with_reducible refine a_gB (hT := ?_) (hF := ?_) <;> intro hb <;> (try simp at hb) <;> (try contradiction) <;> (try subst hb) <;> (try omega))
 | fail)
          exact ⟨(i + 1, acc2), by simp only; omega, ⟨by simp only; omega, by simp only; omega, g2⟩, by rw [orow_ne (show ¬ strs acc2 = [] by rw [strs_ne]; exact hIN)]; exact zzx 60 62⟩
  · obtain rfl : i = e.length := by omega
    rw [List.drop_length, namesL] at g2
    subst g2
    by_cases ho : out = []
    · subst ho
      repeat' (first
 | (with_reducible refine run_n ?_; with_reducible first | refine hK _ _ (by simp) ?_ | refine hK _ _ ?_; clear hK K)
 | (refine zzc ?_)
 | (with_reducible refine awp_regT (by kernel_rfl) ?_; intro K hK)
 | (with_reducible refine a_cond (ht := ?_) (hf := ?_) <;> intro hb <;> (try simp at hb) <;> (try contradiction) <;> (try subst hb) <;> (try omega))
 | (with_reducible first | refine a_move (hr:=?_) | refine a_assign (hr:=?_) | refine a_load (hr:=?_) | refine a_fieldAddr (hr:=?_) | refine a_bin (hr:=?_) | refine a_lenS (hr:=?_) | refine a_lenR (hr:=?_) | refine a_pick (hr:=?_) | refine a_store (hr:=?_) | refine a_alloc (hr:=?_) | refine a_neB (hr:=?_) | refine a_idxArr (hr:=?_) | refine a_neS (hr:=?_) | refine a_indexAddr (hr:=?_) | refine a_buildSlice (hr:=?_) | refine a_append (hr:=?_) | refine a_append0 (hr:=?_) | refine a_appendX (hr:=?_) | refine a_gT (hr:=?_) | refine a_gF (hr:=?_) | refine a_gU (hr:=?_))
 | (with_reducible refine a_gB (hT := ?_) (hF := ?_) <;> intro hb <;> (try simp at hb) <;> (try contradiction) <;> (try subst hb) <;> (try omega))
 | fail)
      (refine zzr hQ ?_)
      exact zzd
    · have h60 : orow 60 1 (strs out) = .ow 60 1 0 out.length := by rw [orow_ne (show ¬ strs out = [] by rw [strs_ne]; exact ho)]; simp [strs]
      rw [show plAV out = .sl 1 (strs out) from if_neg ho] at hQ
      repeat' (first
 | (with_reducible refine run_n ?_; with_reducible first | refine hK _ _ (by simp) ?_ | refine hK _ _ ?_; clear hK K)
 | (refine zzc ?_)
 | (with_reducible refine awp_regT (by kernel_rfl) ?_; intro K hK)
 | (with_reducible refine a_cond (ht := ?_) (hf := ?_) <;> intro hb <;> (try simp at hb) <;> (try contradiction) <;> (try subst hb) <;> (try omega))
 | (with_reducible first | refine a_move (hr:=?_) | refine a_assign (hr:=?_) | refine a_load (hr:=?_) | refine a_fieldAddr (hr:=?_) | refine a_bin (hr:=?_) | refine a_lenS (hr:=?_) | refine a_lenR (hr:=?_) | refine a_pick (hr:=?_) | refine a_store (hr:=?_) | refine a_alloc (hr:=?_) | refine a_neB (hr:=?_) | refine a_idxArr (hr:=?_) | refine a_neS (hr:=?_) | refine a_indexAddr (hr:=?_) | refine a_buildSlice (hr:=?_) | refine a_append (hr:=?_) | refine a_append0 (hr:=?_) | refine a_appendX (hr:=?_) | refine a_gT (hr:=?_) | refine a_gF (hr:=?_) | refine a_gU (hr:=?_))
 | (with_reducible refine a_gB (hT := ?_) (hF := ?_) <;> intro hb <;> (try simp at hb) <;> (try contradiction) <;> (try subst hb) <;> (try omega))
 | fail)
      (refine zzr hQ ?_)
      rw [h60]
      exact Fin.frzR (by simp [ho, strs_ne]; exact .r) (by simp [ho, strs_ne, List.take_of_length_le]; exact .r) (by simp; exact .r) (by simp)
theorem names_mem {s : ByteArray} : ∀ (e : List TermV) (out : List ByteArray), (s ∈ out ∨ ∃ t ∈ e, (t.op = 1 ∨ t.op = 2) ∧ t.n = s) → s ∈ namesL e out
  | [], out, h => by
    rcases h with h | ⟨t, ht, _⟩
    · exact h
    · cases ht
  | t :: e, out, h => by
    rw [namesL]
    split
    · rename_i ho
      refine names_mem e out ?_
      rcases h with h | ⟨u, hu, h1, h2⟩
      · exact .inl h
      · rcases List.mem_cons.1 hu with rfl | hu
        · rcases h1 with h1 | h1
          · exact absurd h1 ho.1
          · exact absurd h1 ho.2
        · exact .inr ⟨u, hu, h1, h2⟩
    · refine names_mem e _ ?_
      have hin : ∀ x, x = t.n ∨ x ∈ out → x ∈ insN t.n out := by
        intro x hx
        unfold insN
        simp only [List.mem_append, List.mem_filter, List.mem_singleton]
        by_cases e1 : x = t.n
        · exact .inl (.inr e1)
        · have hx : x ∈ out := hx.resolve_left e1
          cases h1 : sless x t.n with
          | true => exact .inl (.inl ⟨hx, rfl⟩)
          | false => exact .inr ⟨hx, sless_tot h1 e1⟩
      rcases h with h | ⟨u, hu, h1, h2⟩
      · exact .inl (hin s (.inr h))
      · rcases List.mem_cons.1 hu with rfl | hu
        · exact .inl (hin s (.inl h2.symm))
        · exact .inr ⟨u, hu, h1, h2⟩
end Go.Proofs.YtjbbnollidcagaaDoor.Asl

