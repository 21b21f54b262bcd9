/- Rows of bytes, and texts. -/
import Derived.Test.YtngeckkebejhiaaDoorTT
import Derived.Test.YtngeckkebejhiaaDoorAS
import Derived.Test.YtngeckkebejhiaaDoorBB
namespace Go.Proofs.YtngeckkebejhiaaDoor.Asl
open Go Go.RowKit
set_option linter.unusedVariables false
set_option linter.unusedSimpArgs false
def u8 (n : Int) : AV := .raw (.int .u8 n)
def u8s (l : List Int) : List AV := l.map fun n => .raw (.int .u8 n)
@[simp] theorem u8s_len (l : List Int) : (u8s l).length = l.length := by simp [u8s]
@[simp] theorem u8s_app (l m : List Int) : u8s l ++ u8s m = u8s (l ++ m) := by simp [u8s]
@[simp] theorem u8s_app1 (l : List Int) (x : Int) : u8s l ++ [.raw (.int .u8 x)] = u8s (l ++ [x]) := by simp [u8s]
@[simp] theorem u8s_app2 (l : List Int) (x y : Int) : u8s l ++ [.raw (.int .u8 x), .raw (.int .u8 y)] = u8s (l ++ [x, y]) := by simp [u8s]
@[simp] theorem u8s_take (l : List Int) (n : Nat) : (u8s l).take n = u8s (l.take n) := by simp [u8s, List.map_take]
@[simp] theorem u8s_drop (l : List Int) (n : Nat) : (u8s l).drop n = u8s (l.drop n) := by simp [u8s, List.map_drop]
@[simp] theorem u8s_get (l : List Int) (i : Nat) : (u8s l)[i]? = (l[i]?).map fun n => AV.raw (.int .u8 n) := by simp [u8s]
@[simp] theorem u8s_set (l : List Int) (i : Nat) (x : Int) : (u8s l).set i (.raw (.int .u8 x)) = u8s (l.set i x) := by simp [u8s, List.map_set]
@[simp] theorem u8s_noids (l : List Int) : AV.noids (u8s l) = true := by
  rw [AV.noids_iff]; intro x hx
  obtain ⟨n, _, rfl⟩ := List.mem_map.1 hx
  rfl
@[simp] theorem u8s_withins (h : Hp) (l : List Int) : AV.withins h (u8s l) = true := by
  induction l with
  | nil => rfl
  | cons x l ih => simpa [u8s, AV.withins, AV.within] using ih
@[simp] theorem u8s_rens (π : Nat → Nat) (l : List Int) : AV.rens π (u8s l) = u8s l := by
  induction l with
  | nil => rfl
  | cons x l ih => simpa [u8s, AV.rens, AV.ren] using ih
@[simp] theorem u8s_deeps (h : Hp) (l : List Int) : AV.deeps h (u8s l) = u8s l := by
  induction l with
  | nil => rfl
  | cons x l ih => simpa [u8s, AV.deeps, AV.deep] using ih
theorem noid_deep : (∀ x : AV, x.noid = true → ∀ g, x.deep g = x) ∧ ∀ l : List AV, AV.noids l = true → ∀ g, AV.deeps g l = l := by
  refine ⟨fun x => ?_, fun l => ?_⟩
  · refine AV.rec (motive_1 := fun x => x.noid = true → ∀ g, x.deep g = x) (motive_2 := fun l => AV.noids l = true → ∀ g, AV.deeps g l = l) ?_ ?_ ?_ ?_ ?_ ?_ ?_ ?_ ?_ ?_ ?_ ?_ ?_ x <;> intros <;> simp_all [AV.noid, AV.deep, AV.noids, AV.deeps]
  · refine AV.rec_1 (motive_1 := fun x => x.noid = true → ∀ g, x.deep g = x) (motive_2 := fun l => AV.noids l = true → ∀ g, AV.deeps g l = l) ?_ ?_ ?_ ?_ ?_ ?_ ?_ ?_ ?_ ?_ ?_ ?_ ?_ l <;> intros <;> simp_all [AV.noid, AV.deep, AV.noids, AV.deeps]
theorem noid_withins (h : Hp) : (∀ x : AV, x.noid = true → x.within h = true) ∧ ∀ l : List AV, AV.noids l = true → AV.withins h l = true := by
  refine ⟨fun x => ?_, fun l => ?_⟩
  · refine AV.rec (motive_1 := fun x => x.noid = true → x.within h = true) (motive_2 := fun l => AV.noids l = true → AV.withins h l = true) ?_ ?_ ?_ ?_ ?_ ?_ ?_ ?_ ?_ ?_ ?_ ?_ ?_ x <;> intros <;> simp_all [AV.noid, AV.within, AV.noids, AV.withins]
  · refine AV.rec_1 (motive_1 := fun x => x.noid = true → x.within h = true) (motive_2 := fun l => AV.noids l = true → AV.withins h l = true) ?_ ?_ ?_ ?_ ?_ ?_ ?_ ?_ ?_ ?_ ?_ ?_ ?_ l <;> intros <;> simp_all [AV.noid, AV.within, AV.noids, AV.withins]
@[simp] theorem u8s_rows (l : List Int) : AV.rowsOfs (u8s l) = [] := noid_rows.2 _ (u8s_noids l)
@[simp] theorem u8s_sizes (l : List Int) : AV.sizes (u8s l) = l.length := by
  induction l with
  | nil => rfl
  | cons x l ih => simp only [u8s, List.map_cons, AV.sizes, AV.size, List.length_cons] at ih ⊢; omega
@[simp] theorem cells_u8s (b : ByteArray) : strCellsAV b = u8s (bytesOf b) := by simp [strCellsAV, u8s, bytesOf]
theorem u8s_size1 (l : List Int) : ∀ x ∈ u8s l, x.size = 1 := by
  intro x hx
  obtain ⟨n, _, rfl⟩ := List.mem_map.1 hx
  simp
theorem setL_u8s {x : Int} : ∀ (l : List Int) (i : Nat), i < l.length → AV.setL 1 (.raw (.int .u8 x)) (u8s l) i = some (u8s (l.set i x))
  | [], i, h => by simp at h
  | y :: l, 0, h => by simp [u8s, AV.setL, AV.set]
  | y :: l, i + 1, h => by
    have := setL_u8s (x := x) l i (by simpa using h)
    show AV.setL 1 _ (AV.raw (.int .u8 y) :: u8s l) (i + 1) = _
    rw [AV.setL, if_neg (by simp [AV.size]), show i + 1 - (AV.raw (.int .u8 y)).size = i by simp [AV.size], this]
    rfl
theorem getL_u8s : ∀ (l : List Int) (i : Nat), AV.getL 1 false (u8s l) i = (l[i]?).map fun n => AV.raw (.int .u8 n)
  | [], i => by simp [u8s]
  | y :: l, 0 => by simp [u8s]
  | y :: l, i + 1 => by
    have := getL_u8s l i
    show AV.getL 1 false (AV.raw (.int .u8 y) :: u8s l) (i + 1) = _
    rw [AV.getL, if_neg (by simp [AV.size]), show i + 1 - (AV.raw (.int .u8 y)).size = i by simp [AV.size], this]
    rfl
@[simp] theorem strOf_u8s : ∀ l : List Int, Asl.strOf (u8s l) = some (l.map fun n => UInt8.ofNat n.toNat)
  | [] => rfl
  | x :: l => by
    have := strOf_u8s l
    simp only [u8s, List.map_cons, Asl.strOf, byteOf] at this ⊢
    rw [this]
@[simp] theorem take_snoc {α : Type} (l : List α) (x : α) : List.take (l.length + 1) (l ++ [x]) = l ++ [x] := List.take_of_length_le (by simp)
theorem Fin.imp {h : Hp} {r r' : AV} (hi : ∀ C v, RV C r v → RV C r' v) : Fin h r h r' := fun nt C a s =>
  ⟨C, rfl, .refl C, s.defers, s.size, fun t => by
    have h2 : RV C (E1 r t) (a.tmps.getD t undef) := s.env t
    show RV C (E1 r' t) _
    unfold E1 at h2 ⊢
    split
    · rename_i e; rw [if_pos e] at h2; exact hi C _ h2
    · rename_i e; rw [if_neg e] at h2; exact h2, s.heap⟩
theorem Fin.tupNil {h : Hp} {sz : Nat} {xs : List AV} : Fin h (.tup (.raw (.slice none 0 0) :: xs)) h (.tup (.sl sz [] :: xs)) := Fin.imp fun C v hv => by
  cases hv with
  | tup hv =>
    cases hv with
    | cons h1 h2 =>
      rw [RV.raw_eq h1]
      exact .tup (.cons .sl0 h2)
theorem nums_eq (l : List Int) : (⟨(l.map fun n => UInt8.ofNat n.toNat).toArray⟩ : ByteArray) = strOfNums l := rfl
end Go.Proofs.YtngeckkebejhiaaDoor.Asl
