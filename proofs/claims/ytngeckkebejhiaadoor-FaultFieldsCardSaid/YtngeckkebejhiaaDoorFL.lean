/- Rows of structs without slices. -/
import Derived.Test.YtngeckkebejhiaaDoorAZ
namespace Go.Proofs.YtngeckkebejhiaaDoor.Asl
open Go Go.RowKit
set_option linter.unusedVariables false
set_option linter.unusedSimpArgs false
/-- A kind of values that lead to no object. -/
class FlatF {α : Type} (f : α → AV) : Prop where
  noid : ∀ x, (f x).noid = true
section
variable {α : Type} {f : α → AV} [hf : FlatF f]
@[simp] theorem map_noids (l : List α) : AV.noids (l.map f) = true := by
  rw [AV.noids_iff]; intro x hx
  obtain ⟨n, _, rfl⟩ := List.mem_map.1 hx
  exact hf.noid n
@[simp] theorem map_rows (l : List α) : AV.rowsOfs (l.map f) = [] := noid_rows.2 _ (map_noids l)
@[simp] theorem map_deeps (h : Hp) (l : List α) : AV.deeps h (l.map f) = l.map f := noid_deep.2 _ (map_noids l) h
@[simp] theorem map_withins (h : Hp) (l : List α) : AV.withins h (l.map f) = true := (noid_withins h).2 _ (map_noids l)
@[simp] theorem map_rens (π : Nat → Nat) (l : List α) : AV.rens π (l.map f) = l.map f := noid_ren.2 _ (map_noids l) π
theorem nds_app (a b : List AV) : AV.noids (a ++ b) = (AV.noids a && AV.noids b) := by
  induction a with
  | nil => rfl
  | cons x a ih => simp only [List.cons_append, AV.noids, ih, Bool.and_assoc]
theorem rws_app (a b : List AV) : AV.rowsOfs (a ++ b) = AV.rowsOfs a ++ AV.rowsOfs b := by
  induction a with
  | nil => rfl
  | cons x a ih => simp only [List.cons_append, AV.rowsOfs, ih, List.append_assoc]
theorem dps_app (h : Hp) (a b : List AV) : AV.deeps h (a ++ b) = AV.deeps h a ++ AV.deeps h b := by
  induction a with
  | nil => rfl
  | cons x a ih => simp only [List.cons_append, AV.deeps, ih]
theorem wth_app (h : Hp) (a b : List AV) : AV.withins h (a ++ b) = (AV.withins h a && AV.withins h b) := by
  induction a with
  | nil => rfl
  | cons x a ih => simp only [List.cons_append, AV.withins, ih, Bool.and_assoc]
theorem rns_app (π : Nat → Nat) (a b : List AV) : AV.rens π (a ++ b) = AV.rens π a ++ AV.rens π b := by
  induction a with
  | nil => rfl
  | cons x a ih => simp only [List.cons_append, AV.rens, ih]
@[simp] theorem mapp_noids (l : List α) (m : List AV) : AV.noids (l.map f ++ m) = AV.noids m := by rw [nds_app, map_noids, Bool.true_and]
@[simp] theorem mapp_rows (l : List α) (m : List AV) : AV.rowsOfs (l.map f ++ m) = AV.rowsOfs m := by rw [rws_app, map_rows, List.nil_append]
@[simp] theorem mapp_deeps (h : Hp) (l : List α) (m : List AV) : AV.deeps h (l.map f ++ m) = l.map f ++ AV.deeps h m := by rw [dps_app, map_deeps]
@[simp] theorem mapp_withins (h : Hp) (l : List α) (m : List AV) : AV.withins h (l.map f ++ m) = AV.withins h m := by rw [wth_app, map_withins, Bool.true_and]
@[simp] theorem mapp_rens (π : Nat → Nat) (l : List α) (m : List AV) : AV.rens π (l.map f ++ m) = l.map f ++ AV.rens π m := by rw [rns_app, map_rens]
end
theorem noids_app {a b : List AV} (ha : AV.noids a = true) (hb : AV.noids b = true) : AV.noids (a ++ b) = true := by
  rw [AV.noids_iff] at *
  intro x hx
  rcases List.mem_append.1 hx with h | h
  · exact ha x h
  · exact hb x h
theorem noids_take {a : List AV} (ha : AV.noids a = true) (n : Nat) : AV.noids (a.take n) = true := by
  rw [AV.noids_iff] at *
  exact fun x hx => ha x (List.mem_of_mem_take hx)
theorem noids_drop {a : List AV} (ha : AV.noids a = true) (n : Nat) : AV.noids (a.drop n) = true := by
  rw [AV.noids_iff] at *
  exact fun x hx => ha x (List.mem_of_mem_drop hx)
theorem noids_set {a : List AV} {x : AV} (ha : AV.noids a = true) (hx : x.noid = true) (n : Nat) : AV.noids (a.set n x) = true := by
  rw [AV.noids_iff] at *
  intro y hy
  rcases List.mem_or_eq_of_mem_set hy with h | rfl
  · exact ha y h
  · exact hx
theorem deeps_of {a : List AV} (ha : AV.noids a = true) (h : Hp) : AV.deeps h a = a := noid_deep.2 _ ha h
theorem rows_of {a : List AV} (ha : AV.noids a = true) : AV.rowsOfs a = [] := noid_rows.2 _ ha
theorem withins_of {a : List AV} (ha : AV.noids a = true) (h : Hp) : AV.withins h a = true := (noid_withins h).2 _ ha
theorem rens_of {a : List AV} (ha : AV.noids a = true) (π : Nat → Nat) : AV.rens π a = a := noid_ren.2 _ ha π
end Go.Proofs.YtngeckkebejhiaaDoor.Asl
