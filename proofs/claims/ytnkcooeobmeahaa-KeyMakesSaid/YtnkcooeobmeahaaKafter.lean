/- After: what the loops come to, and what stands from a text on up to its After. -/
import Derived.Test.YtnkcooeobmeahaaZ2
import Derived.Test.YtnkcooeobmeahaaPB
namespace Go.Proofs.Ytnkcooeobmeahaa.K3
open Go.RowKit Go.Proofs.Ytnkcooeobmeahaa.Z Go.Proofs.YtnkcooeobmeahaaW.PrintWords Go.Proofs.YtnkcooeobmeahaaW.PrintLast Go.Proofs.YtnkcooeobmeahaaW.PrintMore Go.Proofs.Ytnkcooeobmeahaa.PB
set_option linter.unusedVariables false

/-- The least text above all that begin with one. -/
def after : List Int → List Int
  | [] => []
  | c :: r => if after r = [] then (if c < 255 then [c + 1] else []) else c :: after r
theorem after_snoc : ∀ (l : List Int) (c : Int), after (l ++ [c]) = if c < 255 then l ++ [c + 1] else after l
  | [], c => by simp [after]
  | d :: l, c => by
    simp only [List.cons_append, after]
    rw [after_snoc l c]
    by_cases h : c < 255
    · rw [if_pos h, if_neg (by simp)]; simp [h]
    · rw [if_neg h]; simp [h]
theorem after_isB : ∀ {l : List Int}, IsB l → IsB (after l)
  | [], h => h
  | c :: r, h => by
    have h1 := isB_cons.1 h
    simp only [after]
    split
    · split
      · exact isB_cons.2 ⟨by omega, isB_nil⟩
      · exact isB_nil
    · exact isB_cons.2 ⟨h1.1, after_isB h1.2⟩
theorem after_len : ∀ l : List Int, (after l).length ≤ l.length
  | [] => Nat.le_refl _
  | c :: r => by
    have := after_len r
    simp only [after]
    split
    · split <;> simp
    · simp; exact this
/-- From p on, up to ahead of its After, lie just those that begin with it. -/
theorem after_law : ∀ (p s : List Int), IsB p → IsB s → ((!ltb s p) && ((after p == []) || ltb s (after p))) = p.isPrefixOf s
  | [], s, _, _ => by simp [after, ltb_nil]
  | c :: r, [], _, _ => by simp [ltb]
  | c :: r, d :: s, hp, hs => by
    have hp1 := isB_cons.1 hp
    have hs1 := isB_cons.1 hs
    have ih := after_law r s hp1.2 hs1.2
    rcases Int.lt_trichotomy d c with h | h | h
    · have hne : (c == d) = false := by simp; omega
      rw [ltb_lt h]; simp [List.isPrefixOf, hne]
    · subst h
      simp only [List.isPrefixOf, beq_self_eq_true, Bool.true_and]
      rw [← ih, ltb_cons]
      simp only [after]
      by_cases h1 : after r = []
      · rw [if_pos h1, h1]
        by_cases h2 : d < 255
        · rw [if_pos h2, ltb_lt (by omega)]; simp
        · rw [if_neg h2]; simp
      · have h1' : (after r == []) = false := by simpa using h1
        rw [if_neg h1, ltb_cons, h1']; rfl
    · have hne : (c == d) = false := by simp; omega
      have h0 : ltb (d :: s) (c :: r) = false := ltb_gt h _ _
      rw [h0]
      simp only [List.isPrefixOf, hne, Bool.false_and, Bool.not_false, Bool.true_and, after]
      by_cases h1 : after r = []
      · rw [if_pos h1]
        have h2 : c < 255 := by omega
        rw [if_pos h2]
        have h3 : ltb (d :: s) [c + 1] = false := by
          rcases Int.lt_trichotomy d (c + 1) with h4 | h4 | h4
          · omega
          · subst h4; rw [ltb_cons, ltb_nil]
          · exact ltb_gt h4 _ _
        rw [h3]; simp
      · rw [if_neg h1, ltb_gt h]; simp

theorem ev_after_l0 (s : ByteArray) (hs : s.size ≤ 4611686018427387904) : ∀ n : Nat, n ≤ s.size → Ev (fun k => key_After.l0 k s (n : Int)) (strOfNums (after ((bytesOf s).take n)))
  | 0, _ => ev_none (fun k => by simp only [key_After.l0]; rw [if_neg (by omega)]; rfl)
  | n + 1, hn => by
    have e1 : wrap64 (((n + 1 : Nat) : Int) - 1) = (n : Int) := by rw [w64 (by omega) (by omega)]; omega
    have hb := bt_bound s (n : Int)
    have ih := ev_after_l0 s hs n (by omega)
    rw [take_succ_bt s n (by omega), after_snoc]
    by_cases h : bt s (n : Int) < 255
    · refine ev_none (fun k => ?_)
      simp only [key_After.l0, e1]
      rw [if_pos (by omega), if_pos (by omega), if_pos (by omega), if_pos h, if_pos (by omega)]
      simp only [Option.bind_some, Int.toNat_natCast]
      have e2 : (s.extract 0 n).size = n := by rw [← len_bytes, bytes_extract, List.drop_zero, Nat.sub_zero, List.length_take, len_bytes]; omega
      rw [if_pos (by rw [e2, size_of_nums, List.length_singleton]; omega), if_pos h]
      congr 1
      apply bytes_inj
      rw [bytes_app, bytes_extract, List.drop_zero, Nat.sub_zero, bytes_of_nums, bytes_of_nums]
      · rw [show (bt s (n : Int) + 1) % 256 = bt s (n : Int) + 1 by omega]
      · exact isB_app.2 ⟨isB_take (isB_bytes s) n, isB_cons.2 ⟨by omega, isB_nil⟩⟩
      · exact isB_cons.2 ⟨by omega, isB_nil⟩
    · rw [if_neg h]
      refine ev_step (fun k => key_After.l0 k s (n : Int)) (fun k => ?_) ih
      simp only [key_After.l0, e1]
      rw [if_pos (by omega), if_pos (by omega), if_pos (by omega), if_neg h]
theorem ev_after (s : ByteArray) (hs : s.size ≤ 4611686018427387904) : Ev (fun k => key_After.f k s) (strOfNums (after (bytesOf s))) := by
  have h := ev_after_l0 s hs s.size (Nat.le_refl _)
  rw [List.take_of_length_le (by rw [len_bytes]; exact Nat.le_refl _)] at h
  exact h
end Go.Proofs.Ytnkcooeobmeahaa.K3
