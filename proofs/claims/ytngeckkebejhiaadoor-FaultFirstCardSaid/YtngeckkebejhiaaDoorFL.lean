/- Rows of structs without slices. -/
import Derived.Test.YtngeckkebejhiaaDoorAZ
namespace Go.Proofs.YtngeckkebejhiaaDoor.Asl
open Go Go.RowKit
set_option linter.unusedVariables false
set_option linter.unusedSimpArgs false
/-- A kind of values that lead to no object. -/
class FlatF {α : Type} (f : α → AV) : Prop where
  noid : ∀ x, (f x).noid = true
section
variable {α : Type} {f : α → AV} [hf : FlatF f]
@[simp] theorem map_noids (l : List α) : AV.noids (l.map f) = true := by
  rw [AV.noids_iff]; intro x hx
  obtain ⟨n, _, rfl⟩ := List.mem_map.1 hx
  exact hf.noid n
@[simp] theorem map_rows (l : List α) : AV.rowsOfs (l.map f) = [] := noid_rows.2 _ (map_noids l)
@[simp] theorem map_deeps (h : Hp) (l : List α) : AV.deeps h (l.map f) = l.map f := noid_deep.2 _ (map_noids l) h
@[simp] theorem map_withins (h : Hp) (l : List α) : AV.withins h (l.map f) = true := (noid_withins h).2 _ (map_noids l)
@[simp] theorem map_rens (π : Nat → Nat) (l : List α) : AV.rens π (l.map f) = l.map f := noid_ren.2 _ (map_noids l) π
end
theorem noids_app {a b : List AV} (ha : AV.noids a = true) (hb : AV.noids b = true) : AV.noids (a ++ b) = true := by
  rw [AV.noids_iff] at *
  intro x hx
  rcases List.mem_append.1 hx with h | h
  · exact ha x h
  · exact hb x h
theorem noids_take {a : List AV} (ha : AV.noids a = true) (n : Nat) : AV.noids (a.take n) = true := by
  rw [AV.noids_iff] at *
  exact fun x hx => ha x (List.mem_of_mem_take hx)
theorem noids_drop {a : List AV} (ha : AV.noids a = true) (n : Nat) : AV.noids (a.drop n) = true := by
  rw [AV.noids_iff] at *
  exact fun x hx => ha x (List.mem_of_mem_drop hx)
theorem noids_set {a : List AV} {x : AV} (ha : AV.noids a = true) (hx : x.noid = true) (n : Nat) : AV.noids (a.set n x) = true := by
  rw [AV.noids_iff] at *
  intro y hy
  rcases List.mem_or_eq_of_mem_set hy with h | rfl
  · exact ha y h
  · exact hx
theorem deeps_of {a : List AV} (ha : AV.noids a = true) (h : Hp) : AV.deeps h a = a := noid_deep.2 _ ha h
theorem rows_of {a : List AV} (ha : AV.noids a = true) : AV.rowsOfs a = [] := noid_rows.2 _ ha
theorem withins_of {a : List AV} (ha : AV.noids a = true) (h : Hp) : AV.withins h a = true := (noid_withins h).2 _ ha
theorem rens_of {a : List AV} (ha : AV.noids a = true) (π : Nat → Nat) : AV.rens π a = a := noid_ren.2 _ ha π
end Go.Proofs.YtngeckkebejhiaaDoor.Asl
