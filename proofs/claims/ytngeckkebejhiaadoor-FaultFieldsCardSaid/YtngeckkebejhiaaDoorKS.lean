/- Rows of texts. -/
import Derived.Test.YtngeckkebejhiaaDoorAY
namespace Go.Proofs.YtngeckkebejhiaaDoor.Asl
open Go Go.RowKit
set_option linter.unusedVariables false
set_option linter.unusedSimpArgs false
def strs (ps : List ByteArray) : List AV := ps.map fun s => .raw (.string s)
@[simp] theorem strs_len (l : List ByteArray) : (strs l).length = l.length := by simp [strs]
@[simp] theorem strs_get (l : List ByteArray) (i : Nat) : (strs l)[i]? = (l[i]?).map fun p => AV.raw (.string p) := by simp [strs]
@[simp] theorem strs_noids (l : List ByteArray) : AV.noids (strs l) = true := by
  rw [AV.noids_iff]; intro x hx
  obtain ⟨n, _, rfl⟩ := List.mem_map.1 hx
  rfl
@[simp] theorem strs_rows (l : List ByteArray) : AV.rowsOfs (strs l) = [] := noid_rows.2 _ (strs_noids l)
@[simp] theorem strs_deeps (h : Hp) (l : List ByteArray) : AV.deeps h (strs l) = strs l := noid_deep.2 _ (strs_noids l) h
@[simp] theorem strs_withins (h : Hp) (l : List ByteArray) : AV.withins h (strs l) = true := (noid_withins h).2 _ (strs_noids l)
@[simp] theorem strs_rens (π : Nat → Nat) (l : List ByteArray) : AV.rens π (strs l) = strs l := noid_ren.2 _ (strs_noids l) π
@[simp] theorem strs_app1 (l : List ByteArray) (s : ByteArray) : strs l ++ [.raw (.string s)] = strs (l ++ [s]) := by simp [strs]
@[simp] theorem strs_nil : strs [] = [] := rfl
@[simp] theorem strs_cons (s : ByteArray) (l : List ByteArray) : strs (s :: l) = AV.raw (.string s) :: strs l := rfl
@[simp] theorem strs_take (l : List ByteArray) (n : Nat) : (strs l).take n = strs (l.take n) := by simp [strs, List.map_take]
@[simp] theorem strs_drop (l : List ByteArray) (n : Nat) : (strs l).drop n = strs (l.drop n) := by simp [strs, List.map_drop]
end Go.Proofs.YtngeckkebejhiaaDoor.Asl
