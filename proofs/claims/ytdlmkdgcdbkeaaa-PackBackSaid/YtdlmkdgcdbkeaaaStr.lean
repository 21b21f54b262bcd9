/- Strings in order, as the printed functions tell it: 'a > b' by 'b < a'. -/
import Derived.WalkKit
import Derived.KernelRfl
namespace Go.Proofs.Ytdlmkdgcdbkeaaa.Str
theorem less_irr : ∀ a : List UInt8, Op.bytesLess a a = false
  | [] => rfl
  | x :: a => by simp [Op.bytesLess, less_irr a]
theorem less_flip : ∀ a b : List UInt8, (!(Op.bytesLess a b || a == b)) = Op.bytesLess b a
  | [], [] => rfl
  | [], y :: b => by simp [Op.bytesLess]
  | x :: a, [] => by simp [Op.bytesLess]
  | x :: a, y :: b => by
    have ih := less_flip a b
    simp only [Op.bytesLess]
    by_cases h : x = y
    · subst h
      rw [← ih]
      simp
    · have h1 : (x == y) = false := by simp [h]
      have h2 : (y == x) = false := by simp [Ne.symm h]
      have h3 : (x :: a == y :: b) = false := by simp [h]
      rw [h1, h2, h3]
      simp only [Bool.false_and, Bool.or_false]
      rcases UInt8.lt_or_lt_of_ne h with h4 | h4
      · have h5 : ¬ y < x := fun h6 => UInt8.lt_asymm h4 h6
        simp [h4, h5]
      · have h5 : ¬ x < y := fun h6 => UInt8.lt_asymm h4 h6
        simp [h4, h5]
theorem isE (l : List UInt8) : (l != []) = !l.isEmpty := by cases l <;> rfl
theorem isE' (l : List UInt8) : (l == []) = l.isEmpty := by cases l <;> rfl
theorem gtr_str (t : TypeId) (a b : ByteArray) : binOp .gtr t (.string a) (.string b) = pure (.bool (Op.bytesLess b.toList a.toList)) := by
  rw [← less_flip a.toList b.toList]; simp [binOp, Op.stringOp]
theorem leq_str (t : TypeId) (a b : ByteArray) : binOp .leq t (.string a) (.string b) = pure (.bool (!Op.bytesLess b.toList a.toList)) := by
  rw [← less_flip a.toList b.toList]; simp [binOp, Op.stringOp]
theorem geq_str (t : TypeId) (a b : ByteArray) : binOp .geq t (.string a) (.string b) = pure (.bool (!Op.bytesLess a.toList b.toList)) := by
  simp [binOp, Op.stringOp]
end Go.Proofs.Ytdlmkdgcdbkeaaa.Str
