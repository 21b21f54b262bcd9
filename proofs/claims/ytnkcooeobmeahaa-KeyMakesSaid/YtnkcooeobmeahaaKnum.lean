/- Sixteen digits: their order is that of the numbers. -/
import Derived.Test.YtnkcooeobmeahaaZ1
import Derived.Test.YtnkcooeobmeahaaPB
namespace Go.Proofs.Ytnkcooeobmeahaa.K3
open Go.RowKit Go.Proofs.Ytnkcooeobmeahaa.Z Go.Proofs.YtnkcooeobmeahaaW.PrintWords Go.Proofs.YtnkcooeobmeahaaW.PrintLast Go.Proofs.YtnkcooeobmeahaaW.PrintMore Go.Proofs.Ytnkcooeobmeahaa.PB
set_option linter.unusedVariables false
/-- A digit's byte. -/
def dg (x : Int) : Int := if x < 10 then 48 + x else 87 + x
/-- A number in k digits, the highest first. -/
def hx (a : Int) : Nat → List Int
  | 0 => []
  | k + 1 => hx (a / 16) k ++ [dg (a % 16)]
theorem hx_len (a : Int) : ∀ k, (hx a k).length = k := by
  intro k
  induction k generalizing a with
  | zero => rfl
  | succ k ih => simp [hx, ih]
theorem dg_bound {x : Int} (h0 : 0 ≤ x) (h1 : x < 16) : 48 ≤ dg x ∧ dg x ≤ 102 := by unfold dg; split <;> omega
theorem dg_lt {x y : Int} (hx : 0 ≤ x ∧ x < 16) (hy : 0 ≤ y ∧ y < 16) : dg x < dg y ↔ x < y := by unfold dg; split <;> split <;> omega
theorem dg_inj {x y : Int} (hx : 0 ≤ x ∧ x < 16) (hy : 0 ≤ y ∧ y < 16) : dg x = dg y ↔ x = y := by unfold dg; split <;> split <;> omega
theorem hx_isB (a : Int) : ∀ k, IsB (hx a k) := by
  intro k
  induction k generalizing a with
  | zero => exact isB_nil
  | succ k ih =>
    have := dg_bound (x := a % 16) (by omega) (by omega)
    exact isB_app.2 ⟨ih _, isB_cons.2 ⟨by omega, isB_nil⟩⟩
theorem ltb_snoc : ∀ (x y : List Int) (c d : Int), x.length = y.length → ltb (x ++ [c]) (y ++ [d]) = (ltb x y || (decide (x = y) && decide (c < d)))
  | [], [], c, d, _ => by simp [ltb]
  | [], _ :: _, _, _, h => by simp at h
  | _ :: _, [], _, _, h => by simp at h
  | a :: x, b :: y, c, d, h => by
    have ih := ltb_snoc x y c d (by simpa using h)
    simp only [List.cons_append, ltb, ih]
    by_cases e : a = b
    · subst e; simp
    · have e' : (a == b) = false := by simpa using e
      simp [e, e']
theorem hx_inj : ∀ (k : Nat) (a b : Int), 0 ≤ a → a < 16 ^ k → 0 ≤ b → b < 16 ^ k → hx a k = hx b k → a = b
  | 0, a, b, h0, h1, h2, h3, _ => by simp at h1 h3; omega
  | k + 1, a, b, h0, h1, h2, h3, h => by
    have e := List.append_inj' h rfl
    rw [Int.pow_succ] at h1 h3
    have h4 := hx_inj k (a / 16) (b / 16) (by omega) (by omega) (by omega) (by omega) e.1
    have h5 := (dg_inj (x := a % 16) (y := b % 16) (by omega) (by omega)).1 (by simpa using e.2)
    omega
theorem hx_ltb : ∀ (k : Nat) (a b : Int), 0 ≤ a → a < 16 ^ k → 0 ≤ b → b < 16 ^ k → ltb (hx a k) (hx b k) = decide (a < b)
  | 0, a, b, h0, h1, h2, h3 => by simp at h1 h3; simp [hx, ltb]; omega
  | k + 1, a, b, h0, h1, h2, h3 => by
    rw [Int.pow_succ] at h1 h3
    simp only [hx]
    rw [ltb_snoc _ _ _ _ (by rw [hx_len, hx_len]), hx_ltb k (a / 16) (b / 16) (by omega) (by omega) (by omega) (by omega)]
    have e1 : decide (hx (a / 16) k = hx (b / 16) k) = decide (a / 16 = b / 16) := by
      apply decide_eq_decide.2
      exact ⟨hx_inj k _ _ (by omega) (by omega) (by omega) (by omega), fun h => by rw [h]⟩
    have e2 : decide (dg (a % 16) < dg (b % 16)) = decide (a % 16 < b % 16) := decide_eq_decide.2 (dg_lt (by omega) (by omega))
    rw [e1, e2, Bool.eq_iff_iff]
    simp
    omega
theorem hx_range (a : Int) : ∀ k, (List.range k).map (fun i => dg (a / 16 ^ (k - 1 - i) % 16)) = hx a k := by
  intro k
  induction k generalizing a with
  | zero => rfl
  | succ k ih =>
    rw [List.range_succ, List.map_append]
    simp only [hx, List.map_cons, List.map_nil]
    rw [← ih (a / 16)]
    congr 1
    · apply List.map_congr_left
      intro i hi
      have hi' := List.mem_range.1 hi
      rw [show k + 1 - 1 - i = (k - 1 - i) + 1 by omega, Int.pow_succ, Int.mul_comm, ← Int.ediv_ediv_of_nonneg (by decide)]
    · simp
theorem digits_eq (a : Int) : (List.range 16).map (key_Number.digit a) = hx a 16 := by
  rw [← hx_range a 16]
  apply List.map_congr_left
  intro i hi
  have hi' := List.mem_range.1 hi
  have e : (2 : Int) ^ (60 - 4 * i) = 16 ^ (16 - 1 - i) := by
    rw [show (16 : Int) = 2 ^ 4 by decide, ← Int.pow_mul, show 60 - 4 * i = 4 * (16 - 1 - i) by omega]
  simp only [key_Number.digit, dg, e]
theorem number_f {a : Int} (h0 : 0 ≤ a) (h1 : a < 18446744073709551616) : key_Number.f a = some (strOfNums (hx a 16)) := by
  unfold key_Number.f
  rw [if_pos h0, if_pos h1, digits_eq]
end Go.Proofs.Ytnkcooeobmeahaa.K3
