/- Numbers in seven bits a byte: what is written, and what is read of any bytes: no Go here. -/
import Derived.Test.YtdbdajmgfajcpaaAY
import Derived.Laws.BitsLemmas
import Derived.Laws.BitsAllLaws
namespace Go.Proofs.Ytdbdajmgfajcpaa.Asl
open Go Go.RowKit
set_option linter.unusedVariables false
set_option linter.unusedSimpArgs false

def enc : Nat → Int → List Int
  | 0, n => [n]
  | f + 1, n => if 128 ≤ n then (n % 128 + 128) :: enc f (n / 128) else [n]
def dec : List Int → Nat → Int → Int × Int × Int
  | [], _, _ => (0, 0, 6)
  | c :: l, i, a => if i = 9 ∧ 1 < c then (0, 0, 9) else if c = 0 ∧ 0 < i then (0, 0, 8) else if c < 128 then (a + c * 128 ^ i, (i : Int) + 1, 0) else dec l (i + 1) (a + (c % 128) * 128 ^ i)

theorem enc_len : ∀ (f : Nat) (n : Int), (enc f n).length ≤ f + 1 ∧ 1 ≤ (enc f n).length
  | 0, n => by simp [enc]
  | f + 1, n => by
    rw [enc]
    by_cases h : 128 ≤ n
    · rw [if_pos h, List.length_cons]; have := enc_len f (n / 128); omega
    · rw [if_neg h]; simp
theorem enc_isB : ∀ (f : Nat) (n : Int), 0 ≤ n → n < 128 ^ (f + 1) → IsB (enc f n)
  | 0, n, h0, h1 => by rw [enc, isB_cons]; exact ⟨by simp at h1; omega, isB_nil⟩
  | f + 1, n, h0, h1 => by
    rw [enc]
    by_cases h : 128 ≤ n
    · rw [if_pos h, isB_cons]
      refine ⟨by omega, enc_isB f (n / 128) (by omega) ?_⟩
      rw [Int.pow_succ] at h1
      exact Int.ediv_lt_of_lt_mul (by decide) h1
    · rw [if_neg h, isB_cons]; exact ⟨by omega, isB_nil⟩
theorem pow_pos128 (i : Nat) : (0 : Int) < 128 ^ i := Int.pow_pos (by decide)
theorem pow_128_succ (i : Nat) : (128 : Int) ^ (i + 1) = 128 * 128 ^ i := by rw [Int.pow_succ, Int.mul_comm]
/-- What is written is read again, whatever follows. -/
theorem dec_enc : ∀ (f i : Nat) (n a : Int) (r : List Int), f + i = 9 → 0 ≤ n → (0 < i → 1 ≤ n) → n * 128 ^ i < 18446744073709551616 → dec (enc f n ++ r) i a = (a + n * 128 ^ i, (i : Int) + (enc f n).length, 0)
  | 0, i, n, a, r, hi, h0, h1, h2 => by
    obtain rfl : i = 9 := by omega
    have hn : n ≤ 1 := by simp at h2; omega
    rw [enc, List.singleton_append, dec, if_neg (by omega), if_neg (by omega), if_pos (by omega)]
    simp
  | f + 1, i, n, a, r, hi, h0, h1, h2 => by
    rw [enc]
    by_cases h : 128 ≤ n
    · have hp := pow_pos128 i
      have hs : n / 128 * 128 ^ (i + 1) ≤ n * 128 ^ i := by
        rw [pow_128_succ, ← Int.mul_assoc]
        exact Int.mul_le_mul_of_nonneg_right (by omega) (Int.le_of_lt hp)
      rw [if_pos h, List.cons_append, dec, if_neg (by omega), if_neg (by omega), if_neg (by omega), dec_enc f (i + 1) (n / 128) _ r (by omega) (by omega) (fun _ => by omega) (by omega), List.length_cons]
      have e : (n % 128 + 128) % 128 = n % 128 := by omega
      rw [e, pow_128_succ]
      have e2 : n * 128 ^ i = n % 128 * 128 ^ i + n / 128 * (128 * 128 ^ i) := by
        rw [← Int.mul_assoc, ← Int.add_mul]; congr 1; omega
      refine Prod.ext ?_ (Prod.ext ?_ rfl)
      · show a + n % 128 * 128 ^ i + n / 128 * (128 * 128 ^ i) = a + n * 128 ^ i
        rw [e2, Int.add_assoc]
      · show ((i + 1 : Nat) : Int) + ((enc f (n / 128)).length : Int) = (i : Int) + (((enc f (n / 128)).length + 1 : Nat) : Int)
        omega
    · rw [if_neg h, List.singleton_append, dec, if_neg (by omega), if_neg (by omega), if_pos (by omega)]
      simp
/-- Cut off anywhere it is not whole. -/
theorem dec_cut : ∀ (f i : Nat) (n a : Int) (m : Nat), f + i = 9 → 0 ≤ n → (0 < i → 1 ≤ n) → n * 128 ^ i < 18446744073709551616 → m < (enc f n).length → dec ((enc f n).take m) i a = (0, 0, 6)
  | 0, i, n, a, m, hi, h0, h1, h2, hm => by
    obtain rfl : m = 0 := by simp [enc] at hm; omega
    rfl
  | f + 1, i, n, a, m, hi, h0, h1, h2, hm => by
    rw [enc] at hm ⊢
    cases m with
    | zero => rfl
    | succ m =>
      by_cases h : 128 ≤ n
      · have hp := pow_pos128 i
        have hs : n / 128 * 128 ^ (i + 1) ≤ n * 128 ^ i := by
          rw [pow_128_succ, ← Int.mul_assoc]
          exact Int.mul_le_mul_of_nonneg_right (by omega) (Int.le_of_lt hp)
        rw [if_pos h] at hm ⊢
        rw [List.take_succ_cons, dec, if_neg (by omega), if_neg (by omega), if_neg (by omega)]
        exact dec_cut f (i + 1) (n / 128) _ m (by omega) (by omega) (fun _ => by omega) (by omega) (by simp only [List.length_cons] at hm; omega)
      · rw [if_neg h] at hm; simp at hm
/-- Bytes that are read are those that are written. -/
theorem dec_form : ∀ (f i : Nat) (l : List Int) (a N K : Int), f + i = 9 → IsB l → dec l i a = (N, K, 0) → ∃ n : Int, 0 ≤ n ∧ (0 < i → 1 ≤ n) ∧ n * 128 ^ i < 18446744073709551616 ∧ N = a + n * 128 ^ i ∧ K = (i : Int) + (enc f n).length ∧ l = enc f n ++ l.drop (enc f n).length
  | f, i, [], a, N, K, hi, hb, h => by simp [dec] at h
  | f, i, c :: l, a, N, K, hi, hb, h => by
    have hc := (isB_cons.1 hb).1
    rw [dec] at h
    by_cases h1 : i = 9 ∧ 1 < c
    · rw [if_pos h1] at h; simp at h
    rw [if_neg h1] at h
    by_cases h2 : c = 0 ∧ 0 < i
    · rw [if_pos h2] at h; simp at h
    rw [if_neg h2] at h
    by_cases h3 : c < 128
    · rw [if_pos h3] at h
      simp only [Prod.mk.injEq] at h
      have e : enc f c = [c] := by
        cases f with
        | zero => rfl
        | succ f => rw [enc, if_neg (by omega)]
      refine ⟨c, hc.1, fun hi0 => by omega, ?_, h.1.symm, by rw [e]; simpa using h.2.1.symm, by rw [e]; simp⟩
      by_cases h9 : i = 9
      · subst h9; simp; omega
      · have h8 : (128 : Int) ^ i ≤ 128 ^ 8 := by
          have : (128 : Nat) ^ i ≤ 128 ^ 8 := Nat.pow_le_pow_right (by decide) (by omega)
          exact_mod_cast this
        have : c * 128 ^ i ≤ 127 * 128 ^ 8 := Int.mul_le_mul (by omega) h8 (Int.le_of_lt (pow_pos128 i)) (by decide)
        have e8 : (127 : Int) * 128 ^ 8 < 18446744073709551616 := by decide
        omega
    · rw [if_neg h3] at h
      cases f with
      | zero => omega
      | succ f =>
        obtain ⟨n, p1, p2, p3, p4, p5, p6⟩ := dec_form f (i + 1) l _ N K (by omega) (isB_cons.1 hb).2 h
        have hn := p2 (by omega)
        have hp := pow_pos128 i
        have e : enc (f + 1) (c % 128 + 128 * n) = c :: enc f n := by
          rw [enc, if_pos (by omega)]
          congr 1
          · omega
          · congr 1; omega
        have e2 : (c % 128 + 128 * n) * 128 ^ i = c % 128 * 128 ^ i + n * 128 ^ (i + 1) := by
          rw [pow_128_succ, Int.add_mul, ← Int.mul_assoc n, Int.mul_comm n 128]
        refine ⟨c % 128 + 128 * n, by omega, fun _ => by omega, ?_, ?_, ?_, ?_⟩
        · by_cases h9 : i = 9
          · omega
          rw [e2]
          have : c % 128 * 128 ^ i < 128 ^ (i + 1) := by
            rw [pow_128_succ]; exact Int.mul_lt_mul_of_pos_right (by omega) hp
          -- n * 128^(i+1) is a multiple of 128^(i+1), below 2^64, and so is 2^64 itself where i + 1 ≤ 9
          have hmul : (18446744073709551616 : Int) = 2 * 128 ^ 9 := by decide
          have h9' : (128 : Int) ^ 9 = 128 ^ (i + 1) * 128 ^ (8 - i) := by rw [← Int.pow_add]; congr 1; omega
          have hlt : n < 2 * 128 ^ (8 - i) := by
            have : n * 128 ^ (i + 1) < (2 * 128 ^ (8 - i)) * 128 ^ (i + 1) := by
              have : (2 * (128 : Int) ^ (8 - i)) * 128 ^ (i + 1) = 18446744073709551616 := by
                rw [hmul, h9', Int.mul_assoc, Int.mul_comm (128 ^ (8 - i))]
              omega
            exact Int.lt_of_mul_lt_mul_right this (Int.le_of_lt (pow_pos128 (i + 1)))
          have h5 : (n + 1) * 128 ^ (i + 1) ≤ (2 * 128 ^ (8 - i)) * 128 ^ (i + 1) := Int.mul_le_mul_of_nonneg_right (by omega) (Int.le_of_lt (pow_pos128 (i + 1)))
          have h6 : (2 * (128 : Int) ^ (8 - i)) * 128 ^ (i + 1) = 18446744073709551616 := by
            rw [hmul, h9', Int.mul_assoc, Int.mul_comm (128 ^ (8 - i))]
          rw [Int.add_mul, Int.one_mul] at h5
          omega
        · rw [p4, e2, Int.add_assoc]
        · rw [p5, e, List.length_cons]; omega
        · rw [e, List.cons_append, List.length_cons, List.drop_succ_cons, ← p6]
end Go.Proofs.Ytdbdajmgfajcpaa.Asl
