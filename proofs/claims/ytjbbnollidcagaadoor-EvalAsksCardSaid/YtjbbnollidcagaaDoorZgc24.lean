/- Part 24 of what the row leans on: abstract values and states, their rules, and the contracts of the functions. -/
import Derived.Test.YtjbbnollidcagaaDoorZgc23
namespace Go.Proofs.YtjbbnollidcagaaDoor.Asl
open Go Go.RowKit
set_option linter.unusedVariables false
set_option linter.unusedSimpArgs false
def strs (ps : List ByteArray) : List AV := ps.map fun s => .raw (.string s)
@[simp] theorem strs_len (l : List ByteArray) : (strs l).length = l.length := by simp [strs]
@[simp] theorem strs_get (l : List ByteArray) (i : Nat) : (strs l)[i]? = (l[i]?).map fun p => AV.raw (.string p) := by simp [strs]
@[simp] theorem strs_noids (l : List ByteArray) : AV.noids (strs l) = true := by
  rw [AV.noids_iff]; intro x hx
  obtain ⟨n, _, rfl⟩ := List.mem_map.1 hx
  rfl
@[simp] theorem strs_rows (l : List ByteArray) : AV.rowsOfs (strs l) = [] := noid_rows.2 _ (strs_noids l)
@[simp] theorem strs_deeps (h : Hp) (l : List ByteArray) : AV.deeps h (strs l) = strs l := noid_deep.2 _ (strs_noids l) h
@[simp] theorem strs_withins (h : Hp) (l : List ByteArray) : AV.withins h (strs l) = true := (noid_withins h).2 _ (strs_noids l)
@[simp] theorem strs_rens (π : Nat → Nat) (l : List ByteArray) : AV.rens π (strs l) = strs l := noid_ren.2 _ (strs_noids l) π
@[simp] theorem strs_app1 (l : List ByteArray) (s : ByteArray) : strs l ++ [.raw (.string s)] = strs (l ++ [s]) := by simp [strs]
@[simp] theorem strs_nil : strs [] = [] := rfl
@[simp] theorem strs_cons (s : ByteArray) (l : List ByteArray) : strs (s :: l) = AV.raw (.string s) :: strs l := rfl
@[simp] theorem strs_take (l : List ByteArray) (n : Nat) : (strs l).take n = strs (l.take n) := by simp [strs, List.map_take]
@[simp] theorem strs_drop (l : List ByteArray) (n : Nat) : (strs l).drop n = strs (l.drop n) := by simp [strs, List.map_drop]
end Go.Proofs.YtjbbnollidcagaaDoor.Asl

namespace Go.Proofs.YtjbbnollidcagaaDoor.Asl
open Go Go.RowKit
set_option linter.unusedVariables false
set_option linter.unusedSimpArgs false
/-- A kind of values that lead to no object. -/
class FlatF {α : Type} (f : α → AV) : Prop where
  noid : ∀ x, (f x).noid = true
section
variable {α : Type} {f : α → AV} [hf : FlatF f]
@[simp] theorem map_noids (l : List α) : AV.noids (l.map f) = true := by
  rw [AV.noids_iff]; intro x hx
  obtain ⟨n, _, rfl⟩ := List.mem_map.1 hx
  exact hf.noid n
@[simp] theorem map_rows (l : List α) : AV.rowsOfs (l.map f) = [] := noid_rows.2 _ (map_noids l)
@[simp] theorem map_deeps (h : Hp) (l : List α) : AV.deeps h (l.map f) = l.map f := noid_deep.2 _ (map_noids l) h
@[simp] theorem map_withins (h : Hp) (l : List α) : AV.withins h (l.map f) = true := (noid_withins h).2 _ (map_noids l)
@[simp] theorem map_rens (π : Nat → Nat) (l : List α) : AV.rens π (l.map f) = l.map f := noid_ren.2 _ (map_noids l) π
theorem nds_app (a b : List AV) : AV.noids (a ++ b) = (AV.noids a && AV.noids b) := by
  induction a with
  | nil => rfl
  | cons x a ih => simp only [List.cons_append, AV.noids, ih, Bool.and_assoc]
theorem rws_app (a b : List AV) : AV.rowsOfs (a ++ b) = AV.rowsOfs a ++ AV.rowsOfs b := by
  induction a with
  | nil => rfl
  | cons x a ih => simp only [List.cons_append, AV.rowsOfs, ih, List.append_assoc]
theorem dps_app (h : Hp) (a b : List AV) : AV.deeps h (a ++ b) = AV.deeps h a ++ AV.deeps h b := by
  induction a with
  | nil => rfl
  | cons x a ih => simp only [List.cons_append, AV.deeps, ih]
theorem wth_app (h : Hp) (a b : List AV) : AV.withins h (a ++ b) = (AV.withins h a && AV.withins h b) := by
  induction a with
  | nil => rfl
  | cons x a ih => simp only [List.cons_append, AV.withins, ih, Bool.and_assoc]
theorem rns_app (π : Nat → Nat) (a b : List AV) : AV.rens π (a ++ b) = AV.rens π a ++ AV.rens π b := by
  induction a with
  | nil => rfl
  | cons x a ih => simp only [List.cons_append, AV.rens, ih]
@[simp] theorem mapp_noids (l : List α) (m : List AV) : AV.noids (l.map f ++ m) = AV.noids m := by rw [nds_app, map_noids, Bool.true_and]
@[simp] theorem mapp_rows (l : List α) (m : List AV) : AV.rowsOfs (l.map f ++ m) = AV.rowsOfs m := by rw [rws_app, map_rows, List.nil_append]
@[simp] theorem mapp_deeps (h : Hp) (l : List α) (m : List AV) : AV.deeps h (l.map f ++ m) = l.map f ++ AV.deeps h m := by rw [dps_app, map_deeps]
@[simp] theorem mapp_withins (h : Hp) (l : List α) (m : List AV) : AV.withins h (l.map f ++ m) = AV.withins h m := by rw [wth_app, map_withins, Bool.true_and]
@[simp] theorem mapp_rens (π : Nat → Nat) (l : List α) (m : List AV) : AV.rens π (l.map f ++ m) = l.map f ++ AV.rens π m := by rw [rns_app, map_rens]
end
end Go.Proofs.YtjbbnollidcagaaDoor.Asl

namespace Go.Proofs.YtjbbnollidcagaaDoor.Asl
open Go Go.RowKit
open Go.Proofs.YtjbbnollidcagaaDoor.Errs (EV)
set_option linter.unusedVariables false
set_option linter.unusedSimpArgs false
set_option maxRecDepth 100000
set_option maxHeartbeats 4000000
def ofE (c : Int) : Option EV := if c = 0 then none else some (.code c)
theorem c_FOf (c : Int) : CallD Tryd.prog 54 [.raw (.int .i64 c)] noHeap (errO (ofE c)) noHeap := by
  unfold ofE
  by_cases h : c = 0
  · subst h
    rw [if_pos rfl]
    refine zzg (nt := 7) (rs := [.tmp 2]) Tryd.func54 ?_; intro Q hQ hW
    repeat' (first
 | (with_reducible refine run_n ?_; with_reducible first | refine hK _ _ (by simp) ?_ | refine hK _ _ ?_; clear hK K)
 | (refine zzc ?_)
 | (with_reducible refine awp_regT (by kernel_rfl) ?_; intro K hK)
 | (with_reducible refine a_cond (ht := ?_) (hf := ?_) <;> intro hb <;> (try simp at hb) <;> (try contradiction) <;> (try subst hb) <;> (try omega))
 | (with_reducible first | refine a_move (hr:=?_) | refine a_assign (hr:=?_) | refine a_bin (hr:=?_) | refine a_makeIf (hr:=?_) | refine a_eqI (hr:=?_) | refine a_neI (hr:=?_) | refine a_eqB (hr:=?_) | refine a_eqS (hr:=?_))
 | fail)
    all_goals ((refine zzr hQ ?_))
    all_goals (exact zzd)
  · rw [if_neg h]
    refine zzg (nt := 7) (rs := [.tmp 2]) Tryd.func54 ?_; intro Q hQ hW
    repeat' (first
 | (with_reducible refine run_n ?_; with_reducible first | refine hK _ _ (by simp) ?_ | refine hK _ _ ?_; clear hK K)
 | (refine zzc ?_)
 | (with_reducible refine awp_regT (by kernel_rfl) ?_; intro K hK)
 | (with_reducible refine a_cond (ht := ?_) (hf := ?_) <;> intro hb <;> (try simp at hb) <;> (try contradiction) <;> (try subst hb) <;> (try omega))
 | (with_reducible first | refine a_move (hr:=?_) | refine a_assign (hr:=?_) | refine a_bin (hr:=?_) | refine a_makeIf (hr:=?_) | refine a_eqI (hr:=?_) | refine a_neI (hr:=?_) | refine a_eqB (hr:=?_) | refine a_eqS (hr:=?_))
 | fail)
    all_goals ((refine zzr hQ ?_))
    all_goals (exact zzd)
theorem c_FAsk (lo hi : ByteArray) : CallD Tryd.prog 27 [.raw (.string lo), .raw (.string hi)] noHeap (errAV (.need lo hi)) noHeap := by
  refine zzg (nt := 9) (rs := [.tmp 4]) Tryd.func27 ?_; intro Q hQ hW
  repeat' (first
 | (with_reducible refine run_n ?_; with_reducible first | refine hK _ _ (by simp) ?_ | refine hK _ _ ?_; clear hK K)
 | (refine zzc ?_)
 | (with_reducible refine awp_regT (by kernel_rfl) ?_; intro K hK)
 | (with_reducible refine a_cond (ht := ?_) (hf := ?_) <;> intro hb <;> (try simp at hb) <;> (try contradiction) <;> (try subst hb) <;> (try omega))
 | (with_reducible first | refine a_move (hr:=?_) | refine a_assign (hr:=?_) | refine a_makeIf (hr:=?_) | refine a_eqI (hr:=?_) | refine a_neI (hr:=?_) | refine a_build (hr:=?_))
 | fail)
  all_goals ((refine zzr hQ ?_))
  all_goals (exact zzd)
theorem c_FWrap (p : ByteArray) (e : Option EV) : CallD Tryd.prog 76 [.raw (.string p), errO e] noHeap (errO (e.map (.wrap p))) noHeap := by
  cases e with
  | none =>
    refine zzg (nt := 12) (rs := [.tmp 4]) Tryd.func76 ?_; intro Q hQ hW
    repeat' (first
 | (with_reducible refine run_n ?_; with_reducible first | refine hK _ _ (by simp) ?_ | refine hK _ _ ?_; clear hK K)
 | (refine zzc ?_)
 | (with_reducible refine awp_regT (by kernel_rfl) ?_; intro K hK)
 | (with_reducible refine a_cond (ht := ?_) (hf := ?_) <;> intro hb <;> (try simp at hb) <;> (try contradiction) <;> (try subst hb) <;> (try omega))
 | (with_reducible first | refine a_move (hr:=?_) | refine a_assign (hr:=?_) | refine a_bin (hr:=?_) | refine a_box (hr:=?_) | refine a_makeIf (hr:=?_) | refine a_eqI (hr:=?_) | refine a_neI (hr:=?_) | refine a_eqB (hr:=?_) | refine a_eqS (hr:=?_) | refine a_build (hr:=?_))
 | fail)
    all_goals ((refine zzr hQ ?_))
    all_goals (exact zzd)
  | some e =>
    simp only [errO_some, Option.map_some]
    refine zzg (nt := 12) (rs := [.tmp 4]) Tryd.func76 ?_; intro Q hQ hW
    repeat' (first
 | (with_reducible refine run_n ?_; with_reducible first | refine hK _ _ (by simp) ?_ | refine hK _ _ ?_; clear hK K)
 | (refine zzc ?_)
 | (with_reducible refine awp_regT (by kernel_rfl) ?_; intro K hK)
 | (with_reducible refine a_cond (ht := ?_) (hf := ?_) <;> intro hb <;> (try simp at hb) <;> (try contradiction) <;> (try subst hb) <;> (try omega))
 | (with_reducible first | refine a_move (hr:=?_) | refine a_assign (hr:=?_) | refine a_bin (hr:=?_) | refine a_box (hr:=?_) | refine a_makeIf (hr:=?_) | refine a_eqI (hr:=?_) | refine a_neI (hr:=?_) | refine a_eqB (hr:=?_) | refine a_eqS (hr:=?_) | refine a_build (hr:=?_))
 | fail)
    (refine zzr hQ ?_)
    exact Fin.fzb (k := 10) (X := .agg [.raw (.string p), errAV e]) (by simp) (by simp) (by simp [errAV]; exact .r) (by simp [errAV]; exact .r) (by simp) (by decide)
def codeE : Option EV → Int
  | none => 0
  | some e => e.num.getD 20
theorem c_FCode (e : Option EV) : CallD Tryd.prog 19 [errO e] noHeap (.raw (.int .i64 (codeE e))) noHeap := by
  cases e with
  | none =>
    refine zzg (nt := 10) (rs := [.tmp 2]) Tryd.func19 ?_; intro Q hQ hW
    repeat' (first
 | (with_reducible refine run_n ?_; with_reducible first | refine hK _ _ (by simp) ?_ | refine hK _ _ ?_; clear hK K)
 | (refine zzc ?_)
 | (with_reducible refine awp_regT (by kernel_rfl) ?_; intro K hK)
 | (with_reducible refine a_cond (ht := ?_) (hf := ?_) <;> intro hb <;> (try simp at hb) <;> (try contradiction) <;> (try subst hb) <;> (try omega))
 | (with_reducible first | refine a_move (hr:=?_) | refine a_assign (hr:=?_) | refine a_load (hr:=?_) | refine a_bin (hr:=?_) | refine a_alloc (hr:=?_) | refine a_makeIf (hr:=?_) | refine a_eqI (hr:=?_) | refine a_neI (hr:=?_) | refine a_eqB (hr:=?_) | refine a_eqS (hr:=?_))
 | fail)
    all_goals ((refine zzr hQ ?_))
    all_goals (exact zzd)
  | some e =>
    have ha := c_AsCode e 0
    simp only [errO_some, codeE]
    generalize e.num = n at ha ⊢
    cases n with
    | none =>
      refine zzg (nt := 10) (rs := [.tmp 2]) Tryd.func19 ?_; intro Q hQ hW
      repeat' (first
 | (with_reducible refine run_n ?_; with_reducible first | refine hK _ _ (by simp) ?_ | refine hK _ _ ?_; clear hK K)
 | (refine zzc ?_)
 | (with_reducible refine awp_regT (by kernel_rfl) ?_; intro K hK)
 | (with_reducible refine a_cond (ht := ?_) (hf := ?_) <;> intro hb <;> (try simp at hb) <;> (try contradiction) <;> (try subst hb) <;> (try omega))
 | (with_reducible first | refine a_move (hr:=?_) | refine a_assign (hr:=?_) | refine a_load (hr:=?_) | refine a_bin (hr:=?_) | refine a_alloc (hr:=?_) | refine a_makeIf (hr:=?_) | refine a_eqI (hr:=?_) | refine a_neI (hr:=?_) | refine a_eqB (hr:=?_) | refine a_eqS (hr:=?_) | refine a_callP (p := 3) (hcall := ha) (hr:=?_))
 | fail)
      all_goals ((refine zzr hQ ?_))
      all_goals (exact zzd)
    | some c =>
      refine zzg (nt := 10) (rs := [.tmp 2]) Tryd.func19 ?_; intro Q hQ hW
      repeat' (first
 | (with_reducible refine run_n ?_; with_reducible first | refine hK _ _ (by simp) ?_ | refine hK _ _ ?_; clear hK K)
 | (refine zzc ?_)
 | (with_reducible refine awp_regT (by kernel_rfl) ?_; intro K hK)
 | (with_reducible refine a_cond (ht := ?_) (hf := ?_) <;> intro hb <;> (try simp at hb) <;> (try contradiction) <;> (try subst hb) <;> (try omega))
 | (with_reducible first | refine a_move (hr:=?_) | refine a_assign (hr:=?_) | refine a_load (hr:=?_) | refine a_bin (hr:=?_) | refine a_alloc (hr:=?_) | refine a_makeIf (hr:=?_) | refine a_eqI (hr:=?_) | refine a_neI (hr:=?_) | refine a_eqB (hr:=?_) | refine a_eqS (hr:=?_) | refine a_callP (p := 3) (hcall := ha) (hr:=?_))
 | fail)
      all_goals ((refine zzr hQ ?_))
      all_goals (exact zzd)
def needE : Option EV → (ByteArray × ByteArray) × Bool
  | none => ((⟨#[]⟩, ⟨#[]⟩), false)
  | some e => ((EV.need? e).getD (⟨#[]⟩, ⟨#[]⟩), (EV.need? e).isSome)
theorem c_FNeeded (e : Option EV) : CallD Tryd.prog 28 [errO e] noHeap (.tup [needAV (needE e).1, .raw (.bool (needE e).2)]) noHeap := by
  cases e with
  | none =>
    refine zzg (nt := 14) (rs := [.cell 2 48, .tmp 3]) Tryd.func28 ?_; intro Q hQ hW
    repeat' (first
 | (with_reducible refine run_n ?_; with_reducible first | refine hK _ _ (by simp) ?_ | refine hK _ _ ?_; clear hK K)
 | (refine zzc ?_)
 | (with_reducible refine awp_regT (by kernel_rfl) ?_; intro K hK)
 | (with_reducible refine a_cond (ht := ?_) (hf := ?_) <;> intro hb <;> (try simp at hb) <;> (try contradiction) <;> (try subst hb) <;> (try omega))
 | (with_reducible first | refine a_move (hr:=?_) | refine a_assign (hr:=?_) | refine a_load (hr:=?_) | refine a_bin (hr:=?_) | refine a_pick (hr:=?_) | refine a_store (hr:=?_) | refine a_alloc (hr:=?_) | refine a_makeIf (hr:=?_) | refine a_eqI (hr:=?_) | refine a_neI (hr:=?_) | refine a_neB (hr:=?_) | refine a_neS (hr:=?_) | refine a_build (hr:=?_) | refine a_gT (hr:=?_) | refine a_gF (hr:=?_) | refine a_gU (hr:=?_))
 | (with_reducible refine a_gB (hT := ?_) (hF := ?_) <;> intro hb <;> (try simp at hb) <;> (try contradiction) <;> (try subst hb) <;> (try omega))
 | fail)
    all_goals ((refine zzr hQ ?_))
    all_goals (exact zzd)
  | some e =>
    have ha := c_AsNeed e (⟨#[]⟩, ⟨#[]⟩)
    simp only [errO_some, needE]
    generalize EV.need? e = n at ha ⊢
    cases n with
    | none =>
      refine zzg (nt := 14) (rs := [.cell 2 48, .tmp 3]) Tryd.func28 ?_; intro Q hQ hW
      repeat' (first
 | (with_reducible refine run_n ?_; with_reducible first | refine hK _ _ (by simp) ?_ | refine hK _ _ ?_; clear hK K)
 | (refine zzc ?_)
 | (with_reducible refine awp_regT (by kernel_rfl) ?_; intro K hK)
 | (with_reducible refine a_cond (ht := ?_) (hf := ?_) <;> intro hb <;> (try simp at hb) <;> (try contradiction) <;> (try subst hb) <;> (try omega))
 | (with_reducible first | refine a_move (hr:=?_) | refine a_assign (hr:=?_) | refine a_load (hr:=?_) | refine a_bin (hr:=?_) | refine a_pick (hr:=?_) | refine a_store (hr:=?_) | refine a_alloc (hr:=?_) | refine a_makeIf (hr:=?_) | refine a_eqI (hr:=?_) | refine a_neI (hr:=?_) | refine a_neB (hr:=?_) | refine a_neS (hr:=?_) | refine a_build (hr:=?_) | refine a_callP (p := 4) (hcall := ha) (hr:=?_) | refine a_gT (hr:=?_) | refine a_gF (hr:=?_) | refine a_gU (hr:=?_))
 | (with_reducible refine a_gB (hT := ?_) (hF := ?_) <;> intro hb <;> (try simp at hb) <;> (try contradiction) <;> (try subst hb) <;> (try omega))
 | fail)
      all_goals ((refine zzr hQ ?_))
      all_goals (exact zzd)
    | some c =>
      obtain ⟨lo, hi⟩ := c
      refine zzg (nt := 14) (rs := [.cell 2 48, .tmp 3]) Tryd.func28 ?_; intro Q hQ hW
      repeat' (first
 | (with_reducible refine run_n ?_; with_reducible first | refine hK _ _ (by simp) ?_ | refine hK _ _ ?_; clear hK K)
 | (refine zzc ?_)
 | (with_reducible refine awp_regT (by kernel_rfl) ?_; intro K hK)
 | (with_reducible refine a_cond (ht := ?_) (hf := ?_) <;> intro hb <;> (try simp at hb) <;> (try contradiction) <;> (try subst hb) <;> (try omega))
 | (with_reducible first | refine a_move (hr:=?_) | refine a_assign (hr:=?_) | refine a_load (hr:=?_) | refine a_bin (hr:=?_) | refine a_pick (hr:=?_) | refine a_store (hr:=?_) | refine a_alloc (hr:=?_) | refine a_makeIf (hr:=?_) | refine a_eqI (hr:=?_) | refine a_neI (hr:=?_) | refine a_neB (hr:=?_) | refine a_neS (hr:=?_) | refine a_build (hr:=?_) | refine a_callP (p := 4) (hcall := ha) (hr:=?_) | refine a_gT (hr:=?_) | refine a_gF (hr:=?_) | refine a_gU (hr:=?_))
 | (with_reducible refine a_gB (hT := ?_) (hF := ?_) <;> intro hb <;> (try simp at hb) <;> (try contradiction) <;> (try subst hb) <;> (try omega))
 | fail)
      all_goals ((refine zzr hQ ?_))
      all_goals (exact zzd)
/-- The places. -/
def placesE : EV → List ByteArray
  | .wrap p e => p :: placesE e
  | _ => []
def trailE : Option EV → List ByteArray
  | none => []
  | some e => placesE e
def fX : Option (ByteArray × EV) → AV
  | none => .raw (.pointer none)
  | some (p, e) => .fp (.agg [.raw (.string p), errAV e])
@[simp ↓ high] theorem fX_noid (x : Option (ByteArray × EV)) : (fX x).noid = true := by
  cases x with
  | none => rfl
  | some x => obtain ⟨p, e⟩ := x; simp [fX]
@[simp ↓ high] theorem fX_size (x : Option (ByteArray × EV)) : (fX x).size = 1 := by
  cases x with
  | none => rfl
  | some x => obtain ⟨p, e⟩ := x; simp [fX]
@[simp ↓ high] theorem fX_isAgg (x : Option (ByteArray × EV)) : (fX x).isAgg = false := by
  cases x with
  | none => rfl
  | some x => rfl
@[simp ↓ high] theorem fX_get (e : Option (ByteArray × EV)) (n : Nat) (ag : Bool) (off : Nat) : AV.get n ag (fX e) off = if off = 0 ∧ n = 1 ∧ ag = false then some (fX e) else none := get_leaf (fX_isAgg e) n ag off
@[simp ↓ high] theorem fX_set (e : Option (ByteArray × EV)) (n : Nat) (y : AV) (off : Nat) : AV.set n y (fX e) off = if off = 0 ∧ n = 1 ∧ y.one = true then some y else none := set_leaf (fX_isAgg e) n y off
@[simp] theorem fX_none : fX none = .raw (.pointer none) := rfl
@[simp] theorem fX_some (p : ByteArray) (e : EV) : fX (some (p, e)) = .fp (.agg [.raw (.string p), errAV e]) := rfl
@[simp] theorem fX_deep (h : Hp) (x : Option (ByteArray × EV)) : (fX x).deep h = fX x := noid_deep.1 _ (fX_noid x) h
@[simp] theorem fX_within (h : Hp) (x : Option (ByteArray × EV)) : (fX x).within h = true := (noid_withins h).1 _ (fX_noid x)
@[simp] theorem fX_ren (π : Nat → Nat) (x : Option (ByteArray × EV)) : (fX x).ren π = fX x := noid_ren.1 _ (fX_noid x) π
def lenE : EV → Nat
  | .wrap _ e => lenE e + 1
  | _ => 0
@[simp] theorem strs_ne {l : List ByteArray} : strs l = [] ↔ l = [] := by simp [strs]
theorem c_FTrail (e : Option EV) (hl : (trailE e).length ≤ 1000000) : CallD Tryd.prog 24 [errO e] noHeap (.sl 1 (strs (trailE e))) noHeap := by
  cases e with
  | none =>
    have ha := c_AsNil 58 (.raw (.pointer none))
    refine zzg (nt := 28) (rs := [.tmp 2]) Tryd.func24 ?_; intro Q hQ hW
    repeat' (first
 | (with_reducible refine run_n ?_; with_reducible first | refine hK _ _ (by simp) ?_ | refine hK _ _ ?_; clear hK K)
 | (refine zzc ?_)
 | (with_reducible refine awp_regT (by kernel_rfl) ?_; intro K hK)
 | (with_reducible refine a_cond (ht := ?_) (hf := ?_) <;> intro hb <;> (try simp at hb) <;> (try contradiction) <;> (try subst hb) <;> (try omega))
 | (with_reducible first | refine a_move (hr:=?_) | refine a_assign (hr:=?_) | refine a_load (hr:=?_) | refine a_fieldAddr (hr:=?_) | refine a_nilCheck (hr:=?_) | refine a_bin (hr:=?_) | refine a_pick (hr:=?_) | refine a_alloc (hr:=?_) | refine a_makeIf (hr:=?_) | refine a_eqI (hr:=?_) | refine a_neI (hr:=?_) | refine a_eqP (hr:=?_) | refine a_neP (hr:=?_) | refine a_neB (hr:=?_) | refine a_neS (hr:=?_) | refine a_buildSlice (hr:=?_) | refine a_append (hr:=?_) | refine a_append0 (hr:=?_) | refine a_appendX (hr:=?_) | refine a_gT (hr:=?_) | refine a_gF (hr:=?_) | refine a_gU (hr:=?_))
 | (with_reducible refine a_gB (hT := ?_) (hF := ?_) <;> intro hb <;> (try simp at hb) <;> (try contradiction) <;> (try subst hb) <;> (try omega))
 | fail)
    refine awp_inv (α := Unit) (fun _ => [(0, .raw .nilIface), (3, .raw (.slice none 0 0)), (4, .ptr 4 0)]) (fun _ => hpL [(4, .box (.raw (.pointer none)))]) (fun _ => True) (fun _ => 0) () trivial (zzw) ?_
    intro _ _
    repeat' (first
 | (with_reducible refine run_n ?_; with_reducible first | refine hK _ _ (by simp) ?_ | refine hK _ _ ?_; clear hK K)
 | (refine zzc ?_)
 | (with_reducible refine awp_regT (by kernel_rfl) ?_; intro K hK)
 | (with_reducible refine a_cond (ht := ?_) (hf := ?_) <;> intro hb <;> (try simp at hb) <;> (try contradiction) <;> (try subst hb) <;> (try omega))
 | (with_reducible first | refine a_move (hr:=?_) | refine a_assign (hr:=?_) | refine a_load (hr:=?_) | refine a_fieldAddr (hr:=?_) | refine a_nilCheck (hr:=?_) | refine a_bin (hr:=?_) | refine a_pick (hr:=?_) | refine a_alloc (hr:=?_) | refine a_makeIf (hr:=?_) | refine a_eqI (hr:=?_) | refine a_neI (hr:=?_) | refine a_eqP (hr:=?_) | refine a_neP (hr:=?_) | refine a_neB (hr:=?_) | refine a_neS (hr:=?_) | refine a_buildSlice (hr:=?_) | refine a_append (hr:=?_) | refine a_append0 (hr:=?_) | refine a_appendX (hr:=?_) | refine a_gT (hr:=?_) | refine a_gF (hr:=?_) | refine a_gU (hr:=?_))
 | (with_reducible refine a_gB (hT := ?_) (hF := ?_) <;> intro hb <;> (try simp at hb) <;> (try contradiction) <;> (try subst hb) <;> (try omega))
 | fail)
    (refine zzr hQ ?_)
    exact Fin.nil (by simp)
  | some e =>
    simp only [trailE] at hl ⊢
    simp only [errO_some]
    generalize hp : placesE e = ps at hl ⊢
    refine zzg (nt := 28) (rs := [.tmp 2]) Tryd.func24 ?_; intro Q hQ hW
    repeat' (first
 | (with_reducible refine run_n ?_; with_reducible first | refine hK _ _ (by simp) ?_ | refine hK _ _ ?_; clear hK K)
 | (refine zzc ?_)
 | (with_reducible refine awp_regT (by kernel_rfl) ?_; intro K hK)
 | (with_reducible refine a_cond (ht := ?_) (hf := ?_) <;> intro hb <;> (try simp at hb) <;> (try contradiction) <;> (try subst hb) <;> (try omega))
 | (with_reducible first | refine a_move (hr:=?_) | refine a_assign (hr:=?_) | refine a_load (hr:=?_) | refine a_fieldAddr (hr:=?_) | refine a_nilCheck (hr:=?_) | refine a_bin (hr:=?_) | refine a_pick (hr:=?_) | refine a_alloc (hr:=?_) | refine a_makeIf (hr:=?_) | refine a_eqI (hr:=?_) | refine a_neI (hr:=?_) | refine a_eqP (hr:=?_) | refine a_neP (hr:=?_) | refine a_neB (hr:=?_) | refine a_neS (hr:=?_) | refine a_buildSlice (hr:=?_) | refine a_append (hr:=?_) | refine a_append0 (hr:=?_) | refine a_appendX (hr:=?_) | refine a_gT (hr:=?_) | refine a_gF (hr:=?_) | refine a_gU (hr:=?_))
 | (with_reducible refine a_gB (hT := ?_) (hF := ?_) <;> intro hb <;> (try simp at hb) <;> (try contradiction) <;> (try subst hb) <;> (try omega))
 | fail)
    refine awp_inv (α := EV × List ByteArray × Option (ByteArray × EV)) (fun a => [(0, errAV a.1), (3, orow 60 1 (strs a.2.1)), (4, .ptr 4 0)]) (fun a => ohp 60 1 (strs a.2.1) (hpL [(4, .box (fX a.2.2))])) (fun a => a.2.1 ++ placesE a.1 = ps) (fun a => lenE a.1) (e, [], none) (by simpa using hp) (zzw) ?_
    rintro ⟨e1, l, x⟩ h1
    simp only at h1 ⊢
    have ha := c_AsFault e1 (fX x) (by simp)
    cases e1 with
    | code c =>
      simp only [EV.link, Option.isSome, Option.getD_none, placesE, List.append_nil] at ha h1
      subst h1
      by_cases hl0 : l = []
      · subst hl0
        repeat' (first
 | (with_reducible refine run_n ?_; with_reducible first | refine hK _ _ (by simp) ?_ | refine hK _ _ ?_; clear hK K)
 | (refine zzc ?_)
 | (with_reducible refine awp_regT (by kernel_rfl) ?_; intro K hK)
 | (with_reducible refine a_cond (ht := ?_) (hf := ?_) <;> intro hb <;> (try simp at hb) <;> (try contradiction) <;> (try subst hb) <;> (try omega))
 | (with_reducible first | refine a_move (hr:=?_) | refine a_assign (hr:=?_) | refine a_load (hr:=?_) | refine a_fieldAddr (hr:=?_) | refine a_nilCheck (hr:=?_) | refine a_bin (hr:=?_) | refine a_pick (hr:=?_) | refine a_alloc (hr:=?_) | refine a_makeIf (hr:=?_) | refine a_eqI (hr:=?_) | refine a_neI (hr:=?_) | refine a_eqP (hr:=?_) | refine a_neP (hr:=?_) | refine a_neB (hr:=?_) | refine a_neS (hr:=?_) | refine a_buildSlice (hr:=?_) | refine a_append (hr:=?_) | refine a_append0 (hr:=?_) | refine a_appendX (hr:=?_) | refine a_callP (p := 4) (hcall := ha) (hr:=?_) | refine a_gT (hr:=?_) | refine a_gF (hr:=?_) | refine a_gU (hr:=?_))
 | (with_reducible refine a_gB (hT := ?_) (hF := ?_) <;> intro hb <;> (try simp at hb) <;> (try contradiction) <;> (try subst hb) <;> (try omega))
 | fail)
        (refine zzr hQ ?_)
        exact Fin.nil (by simp)
      · have h60 : orow 60 1 (strs l) = .ow 60 1 0 l.length := by rw [orow_ne (by simpa [strs] using hl0)]; simp
        repeat' (first
 | (with_reducible refine run_n ?_; with_reducible first | refine hK _ _ (by simp) ?_ | refine hK _ _ ?_; clear hK K)
 | (refine zzc ?_)
 | (with_reducible refine awp_regT (by kernel_rfl) ?_; intro K hK)
 | (with_reducible refine a_cond (ht := ?_) (hf := ?_) <;> intro hb <;> (try simp at hb) <;> (try contradiction) <;> (try subst hb) <;> (try omega))
 | (with_reducible first | refine a_move (hr:=?_) | refine a_assign (hr:=?_) | refine a_load (hr:=?_) | refine a_fieldAddr (hr:=?_) | refine a_nilCheck (hr:=?_) | refine a_bin (hr:=?_) | refine a_pick (hr:=?_) | refine a_alloc (hr:=?_) | refine a_makeIf (hr:=?_) | refine a_eqI (hr:=?_) | refine a_neI (hr:=?_) | refine a_eqP (hr:=?_) | refine a_neP (hr:=?_) | refine a_neB (hr:=?_) | refine a_neS (hr:=?_) | refine a_buildSlice (hr:=?_) | refine a_append (hr:=?_) | refine a_append0 (hr:=?_) | refine a_appendX (hr:=?_) | refine a_callP (p := 4) (hcall := ha) (hr:=?_) | refine a_gT (hr:=?_) | refine a_gF (hr:=?_) | refine a_gU (hr:=?_))
 | (with_reducible refine a_gB (hT := ?_) (hF := ?_) <;> intro hb <;> (try simp at hb) <;> (try contradiction) <;> (try subst hb) <;> (try omega))
 | fail)
        (refine zzr hQ ?_)
        rw [h60]
        exact Fin.frzR (by simp [hl0, strs_ne]; exact .r) (by simp [hl0, strs_ne, List.take_of_length_le]; exact .r) (by simp; exact .r) (by simp)
    | need lo hi =>
      simp only [EV.link, Option.isSome, Option.getD_none, placesE, List.append_nil] at ha h1
      subst h1
      by_cases hl0 : l = []
      · subst hl0
        repeat' (first
 | (with_reducible refine run_n ?_; with_reducible first | refine hK _ _ (by simp) ?_ | refine hK _ _ ?_; clear hK K)
 | (refine zzc ?_)
 | (with_reducible refine awp_regT (by kernel_rfl) ?_; intro K hK)
 | (with_reducible refine a_cond (ht := ?_) (hf := ?_) <;> intro hb <;> (try simp at hb) <;> (try contradiction) <;> (try subst hb) <;> (try omega))
 | (with_reducible first | refine a_move (hr:=?_) | refine a_assign (hr:=?_) | refine a_load (hr:=?_) | refine a_fieldAddr (hr:=?_) | refine a_nilCheck (hr:=?_) | refine a_bin (hr:=?_) | refine a_pick (hr:=?_) | refine a_alloc (hr:=?_) | refine a_makeIf (hr:=?_) | refine a_eqI (hr:=?_) | refine a_neI (hr:=?_) | refine a_eqP (hr:=?_) | refine a_neP (hr:=?_) | refine a_neB (hr:=?_) | refine a_neS (hr:=?_) | refine a_buildSlice (hr:=?_) | refine a_append (hr:=?_) | refine a_append0 (hr:=?_) | refine a_appendX (hr:=?_) | refine a_callP (p := 4) (hcall := ha) (hr:=?_) | refine a_gT (hr:=?_) | refine a_gF (hr:=?_) | refine a_gU (hr:=?_))
 | (with_reducible refine a_gB (hT := ?_) (hF := ?_) <;> intro hb <;> (try simp at hb) <;> (try contradiction) <;> (try subst hb) <;> (try omega))
 | fail)
        (refine zzr hQ ?_)
        exact Fin.nil (by simp)
      · have h60 : orow 60 1 (strs l) = .ow 60 1 0 l.length := by rw [orow_ne (by simpa [strs] using hl0)]; simp
        repeat' (first
 | (with_reducible refine run_n ?_; with_reducible first | refine hK _ _ (by simp) ?_ | refine hK _ _ ?_; clear hK K)
 | (refine zzc ?_)
 | (with_reducible refine awp_regT (by kernel_rfl) ?_; intro K hK)
 | (with_reducible refine a_cond (ht := ?_) (hf := ?_) <;> intro hb <;> (try simp at hb) <;> (try contradiction) <;> (try subst hb) <;> (try omega))
 | (with_reducible first | refine a_move (hr:=?_) | refine a_assign (hr:=?_) | refine a_load (hr:=?_) | refine a_fieldAddr (hr:=?_) | refine a_nilCheck (hr:=?_) | refine a_bin (hr:=?_) | refine a_pick (hr:=?_) | refine a_alloc (hr:=?_) | refine a_makeIf (hr:=?_) | refine a_eqI (hr:=?_) | refine a_neI (hr:=?_) | refine a_eqP (hr:=?_) | refine a_neP (hr:=?_) | refine a_neB (hr:=?_) | refine a_neS (hr:=?_) | refine a_buildSlice (hr:=?_) | refine a_append (hr:=?_) | refine a_append0 (hr:=?_) | refine a_appendX (hr:=?_) | refine a_callP (p := 4) (hcall := ha) (hr:=?_) | refine a_gT (hr:=?_) | refine a_gF (hr:=?_) | refine a_gU (hr:=?_))
 | (with_reducible refine a_gB (hT := ?_) (hF := ?_) <;> intro hb <;> (try simp at hb) <;> (try contradiction) <;> (try subst hb) <;> (try omega))
 | fail)
        (refine zzr hQ ?_)
        rw [h60]
        exact Fin.frzR (by simp [hl0, strs_ne]; exact .r) (by simp [hl0, strs_ne, List.take_of_length_le]; exact .r) (by simp; exact .r) (by simp)
    | wrap p e2 =>
      simp only [EV.link, Option.isSome, Option.getD_some, placesE] at ha h1
      have hll : l.length ≤ 1000000 := by rw [← h1] at hl; simp at hl; omega
      repeat' (first
 | (with_reducible refine run_n ?_; with_reducible first | refine hK _ _ (by simp) ?_ | refine hK _ _ ?_; clear hK K)
 | (refine zzc ?_)
 | (with_reducible refine awp_regT (by kernel_rfl) ?_; intro K hK)
 | (with_reducible refine a_cond (ht := ?_) (hf := ?_) <;> intro hb <;> (try simp at hb) <;> (try contradiction) <;> (try subst hb) <;> (try omega))
 | (with_reducible first | refine a_move (hr:=?_) | refine a_assign (hr:=?_) | refine a_load (hr:=?_) | refine a_fieldAddr (hr:=?_) | refine a_nilCheck (hr:=?_) | refine a_bin (hr:=?_) | refine a_pick (hr:=?_) | refine a_alloc (hr:=?_) | refine a_makeIf (hr:=?_) | refine a_eqI (hr:=?_) | refine a_neI (hr:=?_) | refine a_eqP (hr:=?_) | refine a_neP (hr:=?_) | refine a_neB (hr:=?_) | refine a_neS (hr:=?_) | refine a_buildSlice (hr:=?_) | refine a_append (hr:=?_) | refine a_append0 (hr:=?_) | refine a_appendX (hr:=?_) | refine a_callP (p := 4) (hcall := ha) (hr:=?_) | refine a_gT (hr:=?_) | refine a_gF (hr:=?_) | refine a_gU (hr:=?_))
 | (with_reducible refine a_gB (hT := ?_) (hF := ?_) <;> intro hb <;> (try simp at hb) <;> (try contradiction) <;> (try subst hb) <;> (try omega))
 | fail)
      exact ⟨(e2, l ++ [p], some (p, e2)), by simp [lenE], by simpa using h1, zzx 60 22⟩
end Go.Proofs.YtjbbnollidcagaaDoor.Asl

namespace Go.Proofs.YtjbbnollidcagaaDoor.Asl
open Go Go.RowKit
open Go.Proofs.YtjbbnollidcagaaDoor.Errs (EV)
set_option linter.unusedVariables false
set_option linter.unusedSimpArgs false
set_option maxRecDepth 100000
set_option maxHeartbeats 4000000
/-- A number that is not below 0, in digits. -/
def nat10 : Nat → Int → List Int
  | 0, _ => []
  | f + 1, n => if n < 10 then [48 + n] else nat10 f (n / 10) ++ [48 + n % 10]
def digs10 (n : Int) : List Int := if n < 0 then 45 :: nat10 20 (-n) else nat10 20 n
theorem nat10_fuel : ∀ (f : Nat) (n : Int), 0 ≤ n → n < 10 ^ (f + 1) → nat10 (f + 1) n = nat10 (f + 2) n
  | 0, n, h0, h1 => by
    have : n < 10 := by simpa using h1
    simp [nat10, this]
  | f + 1, n, h0, h1 => by
    by_cases h : n < 10
    · simp [nat10, h]
    · have h2 : n / 10 < 10 ^ (f + 1) := by
        rw [Int.pow_succ] at h1
        exact Int.ediv_lt_of_lt_mul (by decide) h1
      have ih := nat10_fuel f (n / 10) (by omega) h2
      rw [nat10, if_neg h, ih]
      conv => rhs; rw [nat10]
      rw [if_neg h]
theorem nat10_len : ∀ (f : Nat) (n : Int), (nat10 f n).length ≤ f
  | 0, _ => by simp [nat10]
  | f + 1, n => by
    have := nat10_len f (n / 10)
    simp only [nat10]; split <;> simp <;> omega
theorem nat10_isB : ∀ (f : Nat) (n : Int), 0 ≤ n → IsB (nat10 f n)
  | 0, _, _ => isB_nil
  | f + 1, n, h => by
    simp only [nat10]; split
    · exact isB_cons.2 ⟨by omega, isB_nil⟩
    · exact isB_app.2 ⟨nat10_isB f _ (by omega), isB_cons.2 ⟨by omega, isB_nil⟩⟩
theorem pow10 : (10 : Int) ^ 19 = 10000000000000000000 := by decide
/-- The array, filled from behind. -/
def fill (s : List Int) : List Int := List.replicate (20 - s.length) 0 ++ s
theorem fill_len {s : List Int} (h : s.length ≤ 20) : (fill s).length = 20 := by simp [fill]; omega
theorem fill_set {s : List Int} (h : s.length < 20) (x : Int) : (fill s).set (19 - s.length) x = fill (x :: s) := by
  have e1 : 20 - s.length = (19 - s.length) + 1 := by omega
  have e2 : 20 - (x :: s).length = 19 - s.length := by rw [List.length_cons]; omega
  unfold fill
  rw [e2, e1, List.replicate_succ', List.append_assoc]
  have h1 : (List.replicate (19 - s.length) (0 : Int)).length = 19 - s.length := by simp
  generalize List.replicate (19 - s.length) (0 : Int) = r at h1 ⊢
  rw [← h1, List.set_append_right _ _ (Nat.le_refl _)]; simp
theorem fill_drop {s : List Int} (h : s.length ≤ 20) : (fill s).drop (20 - s.length) = s := by
  unfold fill
  rw [List.drop_append_of_le_length (by simp)]; simp
theorem c_FDigits (n : Int) (h0 : -9223372036854775808 < n) (h1 : n < 9223372036854775808) : CallD Tryd.prog 58 [.raw (.int .i64 n)] noHeap (.raw (.string (strOfNums (digs10 n)))) noHeap := by
  obtain ⟨N, hN⟩ : ∃ N : Int, N = if n < 0 then -n else n := ⟨_, rfl⟩
  have hN0 : 0 ≤ N ∧ N < 9223372036854775808 := by split at hN <;> omega
  have hd : digs10 n = if n < 0 then 45 :: nat10 20 N else nat10 20 N := by
    unfold digs10
    split
    · rename_i h; rw [if_pos h] at hN; rw [hN]
    · rename_i h; rw [if_neg h] at hN; rw [hN]
  rw [hd]
  clear hd
  obtain ⟨neg, hneg⟩ : ∃ neg : Bool, neg = decide (n < 0) := ⟨_, rfl⟩
  have hn : n = if neg then -N else N := by
    subst hneg
    by_cases h : n < 0
    · rw [if_pos h] at hN; simp [h]; omega
    · rw [if_neg h] at hN; simp [h]; omega
  have hlt : (n < 0) = (neg = true) := by rw [hneg]; simp
  simp only [hlt]
  refine zzg (nt := 38) (rs := [.tmp 2]) Tryd.func58 ?_; intro Q hQ hW
  repeat' (first
 | (with_reducible refine run_n ?_; with_reducible first | refine hK _ _ (by simp) ?_ | refine hK _ _ ?_; clear hK K)
 | (refine zzc ?_)
 | (with_reducible refine awp_regT (by kernel_rfl) ?_; intro K hK)
 | (with_reducible refine a_cond (ht := ?_) (hf := ?_) <;> intro hb <;> (try simp at hb) <;> (try contradiction) <;> (try subst hb) <;> (try omega))
 | (with_reducible first | refine a_move (hr:=?_) | refine a_assign (hr:=?_) | refine a_remU (hr:=?_) | refine a_quoU (hr:=?_) | refine a_bin (hr:=?_) | refine a_pick (hr:=?_) | refine a_un (hr:=?_) | refine a_store (hr:=?_) | refine a_alloc (hr:=?_) | refine a_eqB (hr:=?_) | refine a_neB (hr:=?_) | refine a_conv (hr:=?_) | refine a_bytesStr (hr:=?_) | refine a_strBytes (hr:=?_) | refine a_idxArr (hr:=?_) | refine a_sliceArr (hr:=?_) | refine a_eqS (hr:=?_) | refine a_neS (hr:=?_) | refine a_sliceS (hr:=?_) | refine a_sliceR (hr:=?_) | refine a_indexAddr (hr:=?_) | refine a_gT (hr:=?_) | refine a_gF (hr:=?_) | refine a_gU (hr:=?_))
 | (with_reducible refine a_gB (hT := ?_) (hF := ?_) <;> intro hb <;> (try simp at hb) <;> (try contradiction) <;> (try subst hb) <;> (try omega))
 | fail)
  have hz : (u8s (fill [])) = [AV.raw (.int .u8 0), AV.raw (.int .u8 0), AV.raw (.int .u8 0), AV.raw (.int .u8 0), AV.raw (.int .u8 0), AV.raw (.int .u8 0), AV.raw (.int .u8 0), AV.raw (.int .u8 0), AV.raw (.int .u8 0), AV.raw (.int .u8 0), AV.raw (.int .u8 0), AV.raw (.int .u8 0), AV.raw (.int .u8 0), AV.raw (.int .u8 0), AV.raw (.int .u8 0), AV.raw (.int .u8 0), AV.raw (.int .u8 0), AV.raw (.int .u8 0), AV.raw (.int .u8 0), AV.raw (.int .u8 0)] := rfl
  refine awp_inv (α := Int × List Int) (fun a => [(0, .raw (.int .i64 (if neg then -a.1 else a.1))), (3, .ptr 3 0), (4, .raw (.int .i64 (20 - a.2.length))), (5, .raw (.bool neg))]) (fun a => hpL [(3, .box (.agg (u8s (fill a.2))))])
    (fun a => 0 ≤ a.1 ∧ a.1 * 10 ^ a.2.length ≤ N ∧ a.2.length ≤ 19 ∧ (if a.2 ≠ [] ∧ a.1 = 0 then a.2 else nat10 (20 - a.2.length) a.1 ++ a.2) = nat10 20 N) (fun a => 20 - a.2.length) (N, []) ⟨hN0.1, by simp, by simp, by simp⟩ (by
      have e1 : (if neg = true then -N else N) = n := hn.symm
      simp only [e1]
      rw [← hz, ← hneg]
      exact zzw) ?_
  rintro ⟨M, s⟩ ⟨g1, g2, g3, g4⟩
  simp only at g1 g2 g3 g4 ⊢
  have hM : M < 9223372036854775808 := by
    have h1 : (1 : Int) ≤ 10 ^ s.length := by
      have := Int.pow_pos (n := 10) (m := s.length) (by decide)
      omega
    have : M * 1 ≤ M * 10 ^ s.length := Int.mul_le_mul_of_nonneg_left h1 g1
    omega
  have hla := fill_len (s := s) (by omega)
  by_cases hst : s ≠ [] ∧ M = 0
  · rw [if_pos hst] at g4
    obtain ⟨hs0, rfl⟩ := hst
    have hsl : s.length ≠ 0 := by simpa using hs0
    rw [← g4] at hQ
    cases neg with
    | false =>
      have hdr := fill_drop (s := s) (by omega)
      have htn : (20 - (s.length : Int)).toNat = 20 - s.length := by omega
      have htl : 20 - (20 - s.length) = s.length := by omega
      generalize fill s = F at hla hdr ⊢
      have hdl : F.drop (20 - s.length) = s := hdr
      have hml : (20 - s.length) + s.length ≤ 20 := by omega
      clear hlt hn hneg hN hz g2 hM g4
      repeat' (first
 | (with_reducible refine run_n ?_; with_reducible first | refine hK _ _ (by simp) ?_ | refine hK _ _ ?_; clear hK K)
 | (refine zzc ?_)
 | (with_reducible refine awp_regT (by kernel_rfl) ?_; intro K hK)
 | (with_reducible refine a_cond (ht := ?_) (hf := ?_) <;> intro hb <;> (try simp at hb) <;> (try contradiction) <;> (try subst hb) <;> (try omega))
 | (with_reducible first | refine a_move (hr:=?_) | refine a_assign (hr:=?_) | refine a_remU (hr:=?_) | refine a_quoU (hr:=?_) | refine a_bin (hr:=?_) | refine a_pick (hr:=?_) | refine a_un (hr:=?_) | refine a_store (hr:=?_) | refine a_alloc (hr:=?_) | refine a_eqB (hr:=?_) | refine a_neB (hr:=?_) | refine a_conv (hr:=?_) | refine a_bytesStr (hr:=?_) | refine a_strBytes (hr:=?_) | refine a_idxArr (hr:=?_) | refine a_sliceArr (hr:=?_) | refine a_eqS (hr:=?_) | refine a_neS (hr:=?_) | refine a_sliceS (hr:=?_) | refine a_sliceR (hr:=?_) | refine a_indexAddr (hr:=?_) | refine a_gT (hr:=?_) | refine a_gF (hr:=?_) | refine a_gU (hr:=?_))
 | (with_reducible refine a_gB (hT := ?_) (hF := ?_) <;> intro hb <;> (try simp at hb) <;> (try contradiction) <;> (try subst hb) <;> (try omega))
 | fail)
      (refine zzr hQ ?_)
      exact zzd
    | true =>
      have hdr := fill_drop (s := 45 :: s) (by simp; omega)
      have hset := fill_set (s := s) (by omega) 45
      rw [show 19 - s.length = 20 - s.length - 1 by omega] at hset
      have hla0 := fill_len (s := 45 :: s) (by simp; omega)
      have hla : ((fill s).set (20 - s.length - 1) 45).length = 20 := by rw [hset]; exact hla0
      have htn : (20 - (s.length : Int) - 1).toNat = 20 - s.length - 1 := by omega
      clear hlt hn hneg hN hz g2 hM g4
      repeat' (first
 | (with_reducible refine run_n ?_; with_reducible first | refine hK _ _ (by simp) ?_ | refine hK _ _ ?_; clear hK K)
 | (refine zzc ?_)
 | (with_reducible refine awp_regT (by kernel_rfl) ?_; intro K hK)
 | (with_reducible refine a_cond (ht := ?_) (hf := ?_) <;> intro hb <;> (try simp at hb) <;> (try contradiction) <;> (try subst hb) <;> (try omega))
 | (with_reducible first | refine a_move (hr:=?_) | refine a_assign (hr:=?_) | refine a_remU (hr:=?_) | refine a_quoU (hr:=?_) | refine a_bin (hr:=?_) | refine a_pick (hr:=?_) | refine a_un (hr:=?_) | refine a_store (hr:=?_) | refine a_alloc (hr:=?_) | refine a_eqB (hr:=?_) | refine a_neB (hr:=?_) | refine a_conv (hr:=?_) | refine a_bytesStr (hr:=?_) | refine a_strBytes (hr:=?_) | refine a_idxArr (hr:=?_) | refine a_sliceArr (hr:=?_) | refine a_eqS (hr:=?_) | refine a_neS (hr:=?_) | refine a_sliceS (hr:=?_) | refine a_sliceR (hr:=?_) | refine a_indexAddr (hr:=?_) | refine a_gT (hr:=?_) | refine a_gF (hr:=?_) | refine a_gU (hr:=?_))
 | (with_reducible refine a_gB (hT := ?_) (hF := ?_) <;> intro hb <;> (try simp at hb) <;> (try contradiction) <;> (try subst hb) <;> (try omega))
 | fail)
      simp only [hset]
      rw [List.length_cons, show 20 - (s.length + 1) = 20 - s.length - 1 by omega] at hdr
      generalize fill (45 :: s) = F at hla0 hdr ⊢
      have htl : 20 - (20 - s.length - 1) = s.length + 1 := by omega
      have hml : 20 - s.length - 1 + (s.length + 1) ≤ 20 := by omega
      clear hset hla
      repeat' (first
 | (with_reducible refine run_n ?_; with_reducible first | refine hK _ _ (by simp) ?_ | refine hK _ _ ?_; clear hK K)
 | (refine zzc ?_)
 | (with_reducible refine awp_regT (by kernel_rfl) ?_; intro K hK)
 | (with_reducible refine a_cond (ht := ?_) (hf := ?_) <;> intro hb <;> (try simp at hb) <;> (try contradiction) <;> (try subst hb) <;> (try omega))
 | (with_reducible first | refine a_move (hr:=?_) | refine a_assign (hr:=?_) | refine a_remU (hr:=?_) | refine a_quoU (hr:=?_) | refine a_bin (hr:=?_) | refine a_pick (hr:=?_) | refine a_un (hr:=?_) | refine a_store (hr:=?_) | refine a_alloc (hr:=?_) | refine a_eqB (hr:=?_) | refine a_neB (hr:=?_) | refine a_conv (hr:=?_) | refine a_bytesStr (hr:=?_) | refine a_strBytes (hr:=?_) | refine a_idxArr (hr:=?_) | refine a_sliceArr (hr:=?_) | refine a_eqS (hr:=?_) | refine a_neS (hr:=?_) | refine a_sliceS (hr:=?_) | refine a_sliceR (hr:=?_) | refine a_indexAddr (hr:=?_) | refine a_gT (hr:=?_) | refine a_gF (hr:=?_) | refine a_gU (hr:=?_))
 | (with_reducible refine a_gB (hT := ?_) (hF := ?_) <;> intro hb <;> (try simp at hb) <;> (try contradiction) <;> (try subst hb) <;> (try omega))
 | fail)
      (refine zzr hQ ?_)
      exact zzd
  · rw [if_neg hst] at g4
    obtain ⟨q, hq⟩ : ∃ q, M / 10 = q := ⟨_, rfl⟩
    obtain ⟨d, hd⟩ : ∃ d, M % 10 = d := ⟨_, rfl⟩
    have hss2 : M.tdiv 10 = q := by rw [Int.tdiv_eq_ediv_of_nonneg g1]; exact hq
    have hss : M.tmod 10 = d := by rw [Int.tmod_eq_emod_of_nonneg g1]; exact hd
    have hM2 : M = 10 * q + d := by omega
    have hd2 : 0 ≤ d ∧ d < 10 := by omega
    have hq2 : 0 ≤ q := by omega
    have hset := fill_set (s := s) (by omega) (48 + d)
    rw [show 19 - s.length = 20 - s.length - 1 by omega] at hset
    have hlen : s.length ≤ 18 := by
      rcases Nat.lt_or_ge s.length 19 with h | h
      · omega
      · have h19 : s.length = 19 := by omega
        rw [h19, pow10] at g2
        exact absurd ⟨fun e => by simp [e] at h19, by omega⟩ hst
    have hnx : (if (48 + d) :: s ≠ [] ∧ q = 0 then (48 + d) :: s else nat10 (20 - ((48 + d) :: s).length) q ++ (48 + d) :: s) = nat10 20 N := by
      rw [← g4, show 20 - s.length = (19 - s.length) + 1 by omega, nat10]
      by_cases hq0 : q = 0
      · rw [if_pos ⟨by simp, hq0⟩, if_pos (by omega), show M = d by omega]; simp
      · rw [if_neg (fun h => hq0 h.2), if_neg (by omega), hq, hd, List.length_cons, show 20 - (s.length + 1) = 19 - s.length by omega]; simp
    have hpw : q * 10 ^ (s.length + 1) ≤ N := by
      rw [Int.pow_succ, Int.mul_comm (10 ^ s.length) 10, ← Int.mul_assoc]
      have h1 : (0 : Int) ≤ 10 ^ s.length := Int.le_of_lt (Int.pow_pos (by decide))
      have : q * 10 * 10 ^ s.length ≤ M * 10 ^ s.length := Int.mul_le_mul_of_nonneg_right (by omega) h1
      omega
    have hgo : (s.length : Int) = 0 ∨ ¬ M = 0 := by
      by_cases e : s = []
      · left; simp [e]
      · right; exact fun h => hst ⟨e, h⟩
    clear g4 hst g2
    cases neg with
    | false =>
      repeat' (first
 | (with_reducible refine run_n ?_; with_reducible first | refine hK _ _ (by simp) ?_ | refine hK _ _ ?_; clear hK K)
 | (refine zzc ?_)
 | (with_reducible refine awp_regT (by kernel_rfl) ?_; intro K hK)
 | (with_reducible refine a_cond (ht := ?_) (hf := ?_) <;> intro hb <;> (try simp at hb) <;> (try contradiction) <;> (try subst hb) <;> (try omega))
 | (with_reducible first | refine a_move (hr:=?_) | refine a_assign (hr:=?_) | refine a_remU (hr:=?_) | refine a_quoU (hr:=?_) | refine a_bin (hr:=?_) | refine a_pick (hr:=?_) | refine a_un (hr:=?_) | refine a_store (hr:=?_) | refine a_alloc (hr:=?_) | refine a_eqB (hr:=?_) | refine a_neB (hr:=?_) | refine a_conv (hr:=?_) | refine a_bytesStr (hr:=?_) | refine a_strBytes (hr:=?_) | refine a_idxArr (hr:=?_) | refine a_sliceArr (hr:=?_) | refine a_eqS (hr:=?_) | refine a_neS (hr:=?_) | refine a_sliceS (hr:=?_) | refine a_sliceR (hr:=?_) | refine a_indexAddr (hr:=?_) | refine a_gT (hr:=?_) | refine a_gF (hr:=?_) | refine a_gU (hr:=?_))
 | (with_reducible refine a_gB (hT := ?_) (hF := ?_) <;> intro hb <;> (try simp at hb) <;> (try contradiction) <;> (try subst hb) <;> (try omega))
 | fail)
      all_goals first
        | (exfalso; omega)
        | exact ⟨(q, (48 + d) :: s), by simp; omega, ⟨hq2, hpw, by simp; omega, hnx⟩, weak_o (by rw [hd, hset]; repeat' (first | refine sub_ohp (by first | (simp; done) | (intro hne; simp at hne; simp [hne])) (by simp) ?_ | exact sub_hpL (by simp))) (by simp) (by simp [hd, hq]; omega)⟩
    | true =>
      have e9 : d ≤ 0 → (48 : Int) + -d = 48 + d := fun h => by omega
      repeat' (first
 | (with_reducible refine run_n ?_; with_reducible first | refine hK _ _ (by simp) ?_ | refine hK _ _ ?_; clear hK K)
 | (refine zzc ?_)
 | (with_reducible refine awp_regT (by kernel_rfl) ?_; intro K hK)
 | (with_reducible refine a_cond (ht := ?_) (hf := ?_) <;> intro hb <;> (try simp at hb) <;> (try contradiction) <;> (try subst hb) <;> (try omega))
 | (with_reducible first | refine a_move (hr:=?_) | refine a_assign (hr:=?_) | refine a_remU (hr:=?_) | refine a_quoU (hr:=?_) | refine a_bin (hr:=?_) | refine a_pick (hr:=?_) | refine a_un (hr:=?_) | refine a_store (hr:=?_) | refine a_alloc (hr:=?_) | refine a_eqB (hr:=?_) | refine a_neB (hr:=?_) | refine a_conv (hr:=?_) | refine a_bytesStr (hr:=?_) | refine a_strBytes (hr:=?_) | refine a_idxArr (hr:=?_) | refine a_sliceArr (hr:=?_) | refine a_eqS (hr:=?_) | refine a_neS (hr:=?_) | refine a_sliceS (hr:=?_) | refine a_sliceR (hr:=?_) | refine a_indexAddr (hr:=?_) | refine a_gT (hr:=?_) | refine a_gF (hr:=?_) | refine a_gU (hr:=?_))
 | (with_reducible refine a_gB (hT := ?_) (hF := ?_) <;> intro hb <;> (try simp at hb) <;> (try contradiction) <;> (try subst hb) <;> (try omega))
 | fail)
      all_goals first
        | (exfalso; omega)
        | exact ⟨(q, (48 + d) :: s), by simp; omega, ⟨hq2, hpw, by simp; omega, hnx⟩, weak_o (by rw [hset]; repeat' (first | refine sub_ohp (by first | (simp; done) | (intro hne; simp at hne; simp [hne])) (by simp) ?_ | exact sub_hpL (by simp))) (by simp) (by simp; omega)⟩
        | exact ⟨(q, (48 + d) :: s), by simp; omega, ⟨hq2, hpw, by simp; omega, hnx⟩, weak_o (by rw [e9 (by assumption), hset]; repeat' (first | refine sub_ohp (by first | (simp; done) | (intro hne; simp at hne; simp [hne])) (by simp) ?_ | exact sub_hpL (by simp))) (by simp) (by simp; omega)⟩
end Go.Proofs.YtjbbnollidcagaaDoor.Asl

