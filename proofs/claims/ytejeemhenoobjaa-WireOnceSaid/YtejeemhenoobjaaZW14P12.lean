/- Part 12 of what the row leans on: abstract values and states, their rules, and the contracts of the functions. -/
import Derived.Laws.BitsLemmas
import Derived.Laws.BitsAllLaws
import Derived.Test.YtejeemhenoobjaaZW14P11
namespace Go.Proofs.Ytejeemhenoobjaa.Asl
open Go Go.RowKit
set_option linter.unusedVariables false
set_option linter.unusedSimpArgs false

def enc : Nat → Int → List Int
  | 0, n => [n]
  | f + 1, n => if 128 ≤ n then (n % 128 + 128) :: enc f (n / 128) else [n]
def dec : List Int → Nat → Int → Int × Int × Int
  | [], _, _ => (0, 0, 6)
  | c :: l, i, a => if i = 9 ∧ 1 < c then (0, 0, 9) else if c = 0 ∧ 0 < i then (0, 0, 8) else if c < 128 then (a + c * 128 ^ i, (i : Int) + 1, 0) else dec l (i + 1) (a + (c % 128) * 128 ^ i)

theorem enc_len : ∀ (f : Nat) (n : Int), (enc f n).length ≤ f + 1 ∧ 1 ≤ (enc f n).length
  | 0, n => by simp [enc]
  | f + 1, n => by
    rw [enc]
    by_cases h : 128 ≤ n
    · rw [if_pos h, List.length_cons]; have := enc_len f (n / 128); omega
    · rw [if_neg h]; simp
theorem enc_isB : ∀ (f : Nat) (n : Int), 0 ≤ n → n < 128 ^ (f + 1) → IsB (enc f n)
  | 0, n, h0, h1 => by rw [enc, isB_cons]; exact ⟨by simp at h1; omega, isB_nil⟩
  | f + 1, n, h0, h1 => by
    rw [enc]
    by_cases h : 128 ≤ n
    · rw [if_pos h, isB_cons]
      refine ⟨by omega, enc_isB f (n / 128) (by omega) ?_⟩
      rw [Int.pow_succ] at h1
      exact Int.ediv_lt_of_lt_mul (by decide) h1
    · rw [if_neg h, isB_cons]; exact ⟨by omega, isB_nil⟩
theorem pow_pos128 (i : Nat) : (0 : Int) < 128 ^ i := Int.pow_pos (by decide)
theorem pow_128_succ (i : Nat) : (128 : Int) ^ (i + 1) = 128 * 128 ^ i := by rw [Int.pow_succ, Int.mul_comm]
/-- What is written is read again, whatever follows. -/
theorem dec_enc : ∀ (f i : Nat) (n a : Int) (r : List Int), f + i = 9 → 0 ≤ n → (0 < i → 1 ≤ n) → n * 128 ^ i < 18446744073709551616 → dec (enc f n ++ r) i a = (a + n * 128 ^ i, (i : Int) + (enc f n).length, 0)
  | 0, i, n, a, r, hi, h0, h1, h2 => by
    obtain rfl : i = 9 := by omega
    have hn : n ≤ 1 := by simp at h2; omega
    rw [enc, List.singleton_append, dec, if_neg (by omega), if_neg (by omega), if_pos (by omega)]
    simp
  | f + 1, i, n, a, r, hi, h0, h1, h2 => by
    rw [enc]
    by_cases h : 128 ≤ n
    · have hp := pow_pos128 i
      have hs : n / 128 * 128 ^ (i + 1) ≤ n * 128 ^ i := by
        rw [pow_128_succ, ← Int.mul_assoc]
        exact Int.mul_le_mul_of_nonneg_right (by omega) (Int.le_of_lt hp)
      rw [if_pos h, List.cons_append, dec, if_neg (by omega), if_neg (by omega), if_neg (by omega), dec_enc f (i + 1) (n / 128) _ r (by omega) (by omega) (fun _ => by omega) (by omega), List.length_cons]
      have e : (n % 128 + 128) % 128 = n % 128 := by omega
      rw [e, pow_128_succ]
      have e2 : n * 128 ^ i = n % 128 * 128 ^ i + n / 128 * (128 * 128 ^ i) := by
        rw [← Int.mul_assoc, ← Int.add_mul]; congr 1; omega
      refine Prod.ext ?_ (Prod.ext ?_ rfl)
      · show a + n % 128 * 128 ^ i + n / 128 * (128 * 128 ^ i) = a + n * 128 ^ i
        rw [e2, Int.add_assoc]
      · show ((i + 1 : Nat) : Int) + ((enc f (n / 128)).length : Int) = (i : Int) + (((enc f (n / 128)).length + 1 : Nat) : Int)
        omega
    · rw [if_neg h, List.singleton_append, dec, if_neg (by omega), if_neg (by omega), if_pos (by omega)]
      simp
/-- Cut off anywhere it is not whole. -/
theorem dec_cut : ∀ (f i : Nat) (n a : Int) (m : Nat), f + i = 9 → 0 ≤ n → (0 < i → 1 ≤ n) → n * 128 ^ i < 18446744073709551616 → m < (enc f n).length → dec ((enc f n).take m) i a = (0, 0, 6)
  | 0, i, n, a, m, hi, h0, h1, h2, hm => by
    obtain rfl : m = 0 := by simp [enc] at hm; omega
    rfl
  | f + 1, i, n, a, m, hi, h0, h1, h2, hm => by
    rw [enc] at hm ⊢
    cases m with
    | zero => rfl
    | succ m =>
      by_cases h : 128 ≤ n
      · have hp := pow_pos128 i
        have hs : n / 128 * 128 ^ (i + 1) ≤ n * 128 ^ i := by
          rw [pow_128_succ, ← Int.mul_assoc]
          exact Int.mul_le_mul_of_nonneg_right (by omega) (Int.le_of_lt hp)
        rw [if_pos h] at hm ⊢
        rw [List.take_succ_cons, dec, if_neg (by omega), if_neg (by omega), if_neg (by omega)]
        exact dec_cut f (i + 1) (n / 128) _ m (by omega) (by omega) (fun _ => by omega) (by omega) (by simp only [List.length_cons] at hm; omega)
      · rw [if_neg h] at hm; simp at hm
/-- Bytes that are read are those that are written. -/
theorem dec_form : ∀ (f i : Nat) (l : List Int) (a N K : Int), f + i = 9 → IsB l → dec l i a = (N, K, 0) → ∃ n : Int, 0 ≤ n ∧ (0 < i → 1 ≤ n) ∧ n * 128 ^ i < 18446744073709551616 ∧ N = a + n * 128 ^ i ∧ K = (i : Int) + (enc f n).length ∧ l = enc f n ++ l.drop (enc f n).length
  | f, i, [], a, N, K, hi, hb, h => by simp [dec] at h
  | f, i, c :: l, a, N, K, hi, hb, h => by
    have hc := (isB_cons.1 hb).1
    rw [dec] at h
    by_cases h1 : i = 9 ∧ 1 < c
    · rw [if_pos h1] at h; simp at h
    rw [if_neg h1] at h
    by_cases h2 : c = 0 ∧ 0 < i
    · rw [if_pos h2] at h; simp at h
    rw [if_neg h2] at h
    by_cases h3 : c < 128
    · rw [if_pos h3] at h
      simp only [Prod.mk.injEq] at h
      have e : enc f c = [c] := by
        cases f with
        | zero => rfl
        | succ f => rw [enc, if_neg (by omega)]
      refine ⟨c, hc.1, fun hi0 => by omega, ?_, h.1.symm, by rw [e]; simpa using h.2.1.symm, by rw [e]; simp⟩
      by_cases h9 : i = 9
      · subst h9; simp; omega
      · have h8 : (128 : Int) ^ i ≤ 128 ^ 8 := by
          have : (128 : Nat) ^ i ≤ 128 ^ 8 := Nat.pow_le_pow_right (by decide) (by omega)
          exact_mod_cast this
        have : c * 128 ^ i ≤ 127 * 128 ^ 8 := Int.mul_le_mul (by omega) h8 (Int.le_of_lt (pow_pos128 i)) (by decide)
        have e8 : (127 : Int) * 128 ^ 8 < 18446744073709551616 := by decide
        omega
    · rw [if_neg h3] at h
      cases f with
      | zero => omega
      | succ f =>
        obtain ⟨n, p1, p2, p3, p4, p5, p6⟩ := dec_form f (i + 1) l _ N K (by omega) (isB_cons.1 hb).2 h
        have hn := p2 (by omega)
        have hp := pow_pos128 i
        have e : enc (f + 1) (c % 128 + 128 * n) = c :: enc f n := by
          rw [enc, if_pos (by omega)]
          congr 1
          · omega
          · congr 1; omega
        have e2 : (c % 128 + 128 * n) * 128 ^ i = c % 128 * 128 ^ i + n * 128 ^ (i + 1) := by
          rw [pow_128_succ, Int.add_mul, ← Int.mul_assoc n, Int.mul_comm n 128]
        refine ⟨c % 128 + 128 * n, by omega, fun _ => by omega, ?_, ?_, ?_, ?_⟩
        · by_cases h9 : i = 9
          · omega
          rw [e2]
          have : c % 128 * 128 ^ i < 128 ^ (i + 1) := by
            rw [pow_128_succ]; exact Int.mul_lt_mul_of_pos_right (by omega) hp
          -- n * 128^(i+1) is a multiple of 128^(i+1), below 2^64, and so is 2^64 itself where i + 1 ≤ 9
          have hmul : (18446744073709551616 : Int) = 2 * 128 ^ 9 := by decide
          have h9' : (128 : Int) ^ 9 = 128 ^ (i + 1) * 128 ^ (8 - i) := by rw [← Int.pow_add]; congr 1; omega
          have hlt : n < 2 * 128 ^ (8 - i) := by
            have : n * 128 ^ (i + 1) < (2 * 128 ^ (8 - i)) * 128 ^ (i + 1) := by
              have : (2 * (128 : Int) ^ (8 - i)) * 128 ^ (i + 1) = 18446744073709551616 := by
                rw [hmul, h9', Int.mul_assoc, Int.mul_comm (128 ^ (8 - i))]
              omega
            exact Int.lt_of_mul_lt_mul_right this (Int.le_of_lt (pow_pos128 (i + 1)))
          have h5 : (n + 1) * 128 ^ (i + 1) ≤ (2 * 128 ^ (8 - i)) * 128 ^ (i + 1) := Int.mul_le_mul_of_nonneg_right (by omega) (Int.le_of_lt (pow_pos128 (i + 1)))
          have h6 : (2 * (128 : Int) ^ (8 - i)) * 128 ^ (i + 1) = 18446744073709551616 := by
            rw [hmul, h9', Int.mul_assoc, Int.mul_comm (128 ^ (8 - i))]
          rw [Int.add_mul, Int.one_mul] at h5
          omega
        · rw [p4, e2, Int.add_assoc]
        · rw [p5, e, List.length_cons]; omega
        · rw [e, List.cons_append, List.length_cons, List.drop_succ_cons, ← p6]
end Go.Proofs.Ytejeemhenoobjaa.Asl

namespace Go.Proofs.Ytejeemhenoobjaa.Asl
open Go Go.RowKit
set_option linter.unusedVariables false
set_option linter.unusedSimpArgs false
set_option maxRecDepth 100000
set_option maxHeartbeats 1000000
@[simp] theorem shr7_u64 (x : Int) : shrI .u64 x 7 = x / 128 := rfl
theorem c_Uint (n : Int) (h0 : 0 ≤ n) (h1 : n < 18446744073709551616) : CallD Try.prog 36 [.raw (.int .u64 n)] noHeap (.ow 99999 1 0 (enc 9 n).length) (setH noHeap 99999 (.arr 1 (u8s (enc 9 n)))) := by
  refine zzg (nt := 20) (rs := [.tmp 2]) Try.func36 ?_; intro Q hQ hW
  repeat' (first
 | (with_reducible refine run_n ?_; with_reducible first | refine hK _ _ (by simp) ?_ | refine hK _ _ ?_; clear hK K)
 | (refine zzc ?_)
 | (with_reducible refine awp_regT (by kernel_rfl) ?_; intro K hK)
 | (with_reducible refine a_cond (ht := ?_) (hf := ?_) <;> intro hb <;> (try simp at hb) <;> (try contradiction) <;> (try subst hb) <;> (try omega))
 | (with_reducible first | refine a_move (hr:=?_) | refine a_assign (hr:=?_) | refine a_or (hr:=?_) | refine a_shr (hr:=?_) | refine a_bin (hr:=?_) | refine a_conv (hr:=?_) | refine a_bytesStr (hr:=?_) | refine a_strBytes (hr:=?_) | refine a_sameSl (hr:=?_) | refine a_makeSlice (hr:=?_) | refine a_buildSlice (hr:=?_) | refine a_append (hr:=?_) | refine a_append0 (hr:=?_) | refine a_appendX (hr:=?_))
 | fail)
  refine awp_inv (α := Int × List Int) (fun p => [(0, .raw (.int .u64 p.1)), (3, .ow 4 1 0 p.2.length)]) (fun p => hpL [(4, .arr 1 (u8s p.2))]) (fun p => 0 ≤ p.1 ∧ p.1 * 128 ^ p.2.length < 18446744073709551616 ∧ p.2.length ≤ 9 ∧ p.2 ++ enc (9 - p.2.length) p.1 = enc 9 n) (fun p => p.1.toNat) (n, []) ⟨h0, by simpa using h1, by simp, by simp⟩ (weak_sub (by simp <;> rfl) (by simp) (by simp)) ?_
  rintro ⟨m, out⟩ ⟨g0, g1, g2, g3⟩
  simp only at g0 g1 g2 g3 ⊢
  have g5 : m < 18446744073709551616 := by
    have : (1 : Int) ≤ 128 ^ out.length := by
      have := Int.pow_pos (n := 128) (m := out.length) (by decide)
      omega
    have := Int.mul_le_mul_of_nonneg_left this g0
    omega
  repeat' (first
 | (with_reducible refine run_n ?_; with_reducible first | refine hK _ _ (by simp) ?_ | refine hK _ _ ?_; clear hK K)
 | (refine zzc ?_)
 | (with_reducible refine awp_regT (by kernel_rfl) ?_; intro K hK)
 | (with_reducible refine a_cond (ht := ?_) (hf := ?_) <;> intro hb <;> (try simp at hb) <;> (try contradiction) <;> (try subst hb) <;> (try omega))
 | (with_reducible first | refine a_move (hr:=?_) | refine a_assign (hr:=?_) | refine a_or (hr:=?_) | refine a_shr (hr:=?_) | refine a_bin (hr:=?_) | refine a_conv (hr:=?_) | refine a_bytesStr (hr:=?_) | refine a_strBytes (hr:=?_) | refine a_sameSl (hr:=?_) | refine a_makeSlice (hr:=?_) | refine a_buildSlice (hr:=?_) | refine a_append (hr:=?_) | refine a_append0 (hr:=?_) | refine a_appendX (hr:=?_))
 | fail)
  · have hw : IntKind.u8.wrap m % 128 + 128 = m % 128 + 128 := by rw [wrap_u8']; omega
    have hlt : out.length < 9 := by
      rcases Nat.lt_or_ge out.length 9 with h | h
      · exact h
      · have e : out.length = 9 := by omega
        rw [e] at g1
        exfalso
        omega
    have hp : (0 : Int) < 128 ^ out.length := Int.pow_pos (by decide)
    have hstep : enc (9 - out.length) m = (m % 128 + 128) :: enc (9 - (out.length + 1)) (m / 128) := by
      rw [show 9 - out.length = (9 - (out.length + 1)) + 1 by omega, enc, if_pos hb]
    rw [hw]
    refine ⟨(m / 128, out ++ [m % 128 + 128]), by simp only; omega, ⟨by simp only; omega, ?_, by simp; omega, ?_⟩, weak_ren 4 14 (by decide) (by decide) (by simp) (by simp) (by simp)⟩
    · simp only [List.length_append, List.length_singleton, pow_128_succ]
      have : m / 128 * (128 * 128 ^ out.length) ≤ m * 128 ^ out.length := by
        rw [← Int.mul_assoc]
        exact Int.mul_le_mul_of_nonneg_right (by omega) (Int.le_of_lt hp)
      omega
    · simp only [List.length_append, List.length_singleton, List.append_assoc]
      rw [← g3, hstep]; rfl
  · have he : out ++ [m] = enc 9 n := by
      rw [← g3]
      congr 1
      cases hq : 9 - out.length with
      | zero => rfl
      | succ k => rw [enc, if_neg (by omega)]
    have hl : out.length + 1 = (enc 9 n).length := by rw [← he]; simp
    (refine zzr hQ ?_)
    rw [he, hl]
    exact Fin.row (by simp; exact .r) (by simp; exact .r) (by decide) (by simp)
theorem c_UintT (n : Int) (h0 : 0 ≤ n) (h1 : n < 18446744073709551616) : CallD Try.prog 36 [.raw (.int .u64 n)] noHeap (.sl 1 (u8s (enc 9 n))) noHeap := by
  have := (c_Uint n h0 h1).told (by simp) (by simp)
  simpa using this

/-- Rows of rows of bytes. -/
def rws (ps : List (List Int)) : List AV := ps.map fun p => AV.sl 1 (u8s p)
@[simp] theorem rws_nil : rws [] = [] := rfl
@[simp] theorem rws_cons (p : List Int) (ps : List (List Int)) : rws (p :: ps) = AV.sl 1 (u8s p) :: rws ps := rfl
@[simp] theorem rws_len (l : List (List Int)) : (rws l).length = l.length := by simp [rws]
@[simp] theorem rws_get (l : List (List Int)) (i : Nat) : (rws l)[i]? = (l[i]?).map fun p => AV.sl 1 (u8s p) := by simp [rws]
theorem rws_noid (l : List (List Int)) : AV.noids (rws l) = true := by
  rw [AV.noids_iff]; intro x hx
  obtain ⟨n, _, rfl⟩ := List.mem_map.1 hx
  rfl
@[simp] theorem rws_noids (l : List (List Int)) : AV.noids (rws l) = true := rws_noid l
@[simp] theorem rws_rows (l : List (List Int)) : AV.rowsOfs (rws l) = [] := noid_rows.2 _ (rws_noid l)
@[simp] theorem rws_deeps (h : Hp) (l : List (List Int)) : AV.deeps h (rws l) = rws l := noid_deep.2 _ (rws_noid l) h
@[simp] theorem rws_withins (h : Hp) (l : List (List Int)) : AV.withins h (rws l) = true := (noid_withins h).2 _ (rws_noid l)
@[simp] theorem rws_rens (π : Nat → Nat) (l : List (List Int)) : AV.rens π (rws l) = rws l := noid_ren.2 _ (rws_noid l) π
theorem flat_take (ps : List (List Int)) (i : Nat) (p : List Int) (hi : ps[i]? = some p) : (ps.take (i + 1)).flatten = (ps.take i).flatten ++ p := by
  rw [List.take_add_one, hi, List.flatten_append]; simp
theorem flat_le (ps : List (List Int)) (i : Nat) : (ps.take i).flatten.length ≤ ps.flatten.length := by
  have : ps.flatten = (ps.take i).flatten ++ (ps.drop i).flatten := by rw [← List.flatten_append, List.take_append_drop]
  rw [this, List.length_append]; omega
attribute [-simp] List.length_flatten in
theorem c_Join (ps : List (List Int)) (hb : ps.flatten.length ≤ 140737488355328) (hn : ps.length < 9223372036854775808) : CallD Try.prog 38 [.sl 1 (rws ps)] noHeap (.ow 99999 1 0 ps.flatten.length) (setH noHeap 99999 (.arr 1 (u8s ps.flatten))) := by
  refine zzg (nt := 33) (rs := [.tmp 2]) Try.func38 ?_; intro Q hQ hW
  repeat' (first
 | (with_reducible refine run_n ?_; with_reducible first | refine hK _ _ (by simp) ?_ | refine hK _ _ ?_; clear hK K)
 | (refine zzc ?_)
 | (with_reducible refine awp_regT (by kernel_rfl) ?_; intro K hK)
 | (with_reducible refine a_cond (ht := ?_) (hf := ?_) <;> intro hb <;> (try simp at hb) <;> (try contradiction) <;> (try subst hb) <;> (try omega))
 | (with_reducible first | refine a_move (hr:=?_) | refine a_assign (hr:=?_) | refine a_load (hr:=?_) | refine a_bin (hr:=?_) | refine a_lenS (hr:=?_) | refine a_lenR (hr:=?_) | refine a_idxArr (hr:=?_) | refine a_makeSlice (hr:=?_) | refine a_indexAddr (hr:=?_) | refine a_append (hr:=?_) | refine a_append0 (hr:=?_) | refine a_appendX (hr:=?_))
 | fail)
  refine awp_inv (α := Nat) (fun i => [(0, .sl 1 (rws ps)), (3, .raw (.int .i64 (ps.take i).flatten.length)), (9, .sl 1 (rws ps)), (10, .raw (.int .i64 ps.length)), (11, .raw (.int .i64 i))]) (fun i => noHeap) (fun i => i ≤ ps.length) (fun i => ps.length - i) 0 (by simp) (weak_env (by simp) rfl) ?_
  intro i hi
  have hle := flat_le ps i
  rcases Nat.lt_or_ge i ps.length with hlt | hge
  · have hx := List.getElem?_eq_getElem hlt
    generalize ps[i] = p at hx
    have hft := flat_take ps i p hx
    have hfl := flat_le ps (i + 1)
    rw [hft, List.length_append] at hfl
    repeat' (first
 | (with_reducible refine run_n ?_; with_reducible first | refine hK _ _ (by simp) ?_ | refine hK _ _ ?_; clear hK K)
 | (refine zzc ?_)
 | (with_reducible refine awp_regT (by kernel_rfl) ?_; intro K hK)
 | (with_reducible refine a_cond (ht := ?_) (hf := ?_) <;> intro hb <;> (try simp at hb) <;> (try contradiction) <;> (try subst hb) <;> (try omega))
 | (with_reducible first | refine a_move (hr:=?_) | refine a_assign (hr:=?_) | refine a_load (hr:=?_) | refine a_bin (hr:=?_) | refine a_lenS (hr:=?_) | refine a_lenR (hr:=?_) | refine a_idxArr (hr:=?_) | refine a_makeSlice (hr:=?_) | refine a_indexAddr (hr:=?_) | refine a_append (hr:=?_) | refine a_append0 (hr:=?_) | refine a_appendX (hr:=?_))
 | fail)
    exact ⟨i + 1, by omega, by omega, weak_env (by simp [hft]) rfl⟩
  · obtain rfl : i = ps.length := by omega
    repeat' (first
 | (with_reducible refine run_n ?_; with_reducible first | refine hK _ _ (by simp) ?_ | refine hK _ _ ?_; clear hK K)
 | (refine zzc ?_)
 | (with_reducible refine awp_regT (by kernel_rfl) ?_; intro K hK)
 | (with_reducible refine a_cond (ht := ?_) (hf := ?_) <;> intro hb <;> (try simp at hb) <;> (try contradiction) <;> (try subst hb) <;> (try omega))
 | (with_reducible first | refine a_move (hr:=?_) | refine a_assign (hr:=?_) | refine a_load (hr:=?_) | refine a_bin (hr:=?_) | refine a_lenS (hr:=?_) | refine a_lenR (hr:=?_) | refine a_idxArr (hr:=?_) | refine a_makeSlice (hr:=?_) | refine a_indexAddr (hr:=?_) | refine a_append (hr:=?_) | refine a_append0 (hr:=?_) | refine a_appendX (hr:=?_))
 | fail)
    refine awp_inv (α := Nat) (fun i => [(6, .ow 21 1 0 (ps.take i).flatten.length), (22, .sl 1 (rws ps)), (23, .raw (.int .i64 ps.length)), (24, .raw (.int .i64 i))]) (fun i => hpL [(21, .arr 1 (u8s (ps.take i).flatten))]) (fun i => i ≤ ps.length) (fun i => ps.length - i) 0 (by simp) (weak_sub (by simp <;> rfl) (by simp) (by simp)) ?_
    intro i hi
    have hle := flat_le ps i
    rcases Nat.lt_or_ge i ps.length with hlt | hge
    · have hx := List.getElem?_eq_getElem hlt
      generalize ps[i] = p at hx
      have hft := flat_take ps i p hx
      have hfl := flat_le ps (i + 1)
      rw [hft, List.length_append] at hfl
      repeat' (first
 | (with_reducible refine run_n ?_; with_reducible first | refine hK _ _ (by simp) ?_ | refine hK _ _ ?_; clear hK K)
 | (refine zzc ?_)
 | (with_reducible refine awp_regT (by kernel_rfl) ?_; intro K hK)
 | (with_reducible refine a_cond (ht := ?_) (hf := ?_) <;> intro hb <;> (try simp at hb) <;> (try contradiction) <;> (try subst hb) <;> (try omega))
 | (with_reducible first | refine a_move (hr:=?_) | refine a_assign (hr:=?_) | refine a_load (hr:=?_) | refine a_bin (hr:=?_) | refine a_lenS (hr:=?_) | refine a_lenR (hr:=?_) | refine a_idxArr (hr:=?_) | refine a_makeSlice (hr:=?_) | refine a_indexAddr (hr:=?_) | refine a_append (hr:=?_) | refine a_append0 (hr:=?_) | refine a_appendX (hr:=?_))
 | fail)
      exact ⟨i + 1, by omega, by omega, weak_ren 21 30 (by decide) (by decide) (by simp [hft]) (by simp) (by simp [hft])⟩
    · obtain rfl : i = ps.length := by omega
      repeat' (first
 | (with_reducible refine run_n ?_; with_reducible first | refine hK _ _ (by simp) ?_ | refine hK _ _ ?_; clear hK K)
 | (refine zzc ?_)
 | (with_reducible refine awp_regT (by kernel_rfl) ?_; intro K hK)
 | (with_reducible refine a_cond (ht := ?_) (hf := ?_) <;> intro hb <;> (try simp at hb) <;> (try contradiction) <;> (try subst hb) <;> (try omega))
 | (with_reducible first | refine a_move (hr:=?_) | refine a_assign (hr:=?_) | refine a_load (hr:=?_) | refine a_bin (hr:=?_) | refine a_lenS (hr:=?_) | refine a_lenR (hr:=?_) | refine a_idxArr (hr:=?_) | refine a_makeSlice (hr:=?_) | refine a_indexAddr (hr:=?_) | refine a_append (hr:=?_) | refine a_append0 (hr:=?_) | refine a_appendX (hr:=?_))
 | fail)
      (refine zzr hQ ?_)
      simp only [List.take_length]
      exact Fin.row (by simp; exact .r) (by simp; exact .r) (by decide) (by simp)
end Go.Proofs.Ytejeemhenoobjaa.Asl

namespace Go.Proofs.Ytejeemhenoobjaa.Asl
open Go Go.RowKit
set_option linter.unusedVariables false
set_option linter.unusedSimpArgs false
set_option maxRecDepth 100000
set_option maxHeartbeats 2000000
abbrev rdAV (bs : List Int) (at_ err : Int) : AV := .agg [.raw (.bool true), .sl 1 (u8s bs), .raw (.int .i64 at_), .raw (.int .i64 err)]
abbrev rdH (bs : List Int) (at_ err : Int) : Hp := setH noHeap 100000 (.box (rdAV bs at_ err))
/-- What is read: a value, how many bytes, what is wrong. -/
def dU (l : List Int) (most : Int) : Int × Nat × Int := if (dec l 0 0).2.2 ≠ 0 then (0, 0, (dec l 0 0).2.2) else if most < (dec l 0 0).1 then (0, 0, 3) else ((dec l 0 0).1, (dec l 0 0).2.1.toNat, 0)
def dB (l : List Int) : Int × Nat × Int := match l with | [] => (0, 0, 6) | c :: _ => (c, 1, 0)
def dT (l : List Int) (most : Int) : List Int × Nat × Int :=
  if (dec l 0 0).2.2 ≠ 0 then ([], 0, (dec l 0 0).2.2) else if most < 0 ∨ most < (dec l 0 0).1 then ([], 0, 3)
  else if (l.length : Int) - (dec l 0 0).2.1 < (dec l 0 0).1 then ([], 0, 6) else ((l.drop (dec l 0 0).2.1.toNat).take (dec l 0 0).1.toNat, ((dec l 0 0).2.1 + (dec l 0 0).1).toNat, 0)
theorem orI_comm (x y : Int) : orI .u64 x y = orI .u64 y x := by unfold orI; rw [BitVec.or_comm]
theorem pow_2_7 (i : Nat) : (2 : Int) ^ (7 * i) = 128 ^ i := by rw [Int.pow_mul]; rfl
theorem p128_9 : (128 : Int) ^ 9 = 9223372036854775808 := by decide
theorem p128_le {i : Nat} (h : i ≤ 9) : (128 : Int) ^ i ≤ 128 ^ 9 := by
  have : (128 : Nat) ^ i ≤ 128 ^ 9 := Nat.pow_le_pow_right (by decide) h
  exact_mod_cast this
theorem scan_sum {n c : Int} {i : Nat} (h0 : 0 ≤ n) (h1 : n < 128 ^ i) (hc : 0 ≤ c ∧ c ≤ 255) (hi : i ≤ 9) (h9 : i = 9 → c ≤ 1) : c % 128 * 128 ^ i < 18446744073709551616 ∧ n + c % 128 * 128 ^ i < 18446744073709551616 ∧ n + c % 128 * 128 ^ i < 128 ^ (i + 1) ∧ 0 ≤ c % 128 * 128 ^ i := by
  have hp := pow_pos128 i
  have hs := pow_128_succ i
  have e9 := p128_9
  have hm : c % 128 * 128 ^ i ≤ 127 * 128 ^ i := Int.mul_le_mul_of_nonneg_right (by omega) (Int.le_of_lt hp)
  have h00 : 0 ≤ c % 128 * 128 ^ i := Int.mul_nonneg (by omega) (Int.le_of_lt hp)
  by_cases e : i = 9
  · subst e
    have := h9 rfl
    have hc2 : c % 128 ≤ 1 := by omega
    have : c % 128 * 128 ^ 9 ≤ 1 * 128 ^ 9 := Int.mul_le_mul_of_nonneg_right hc2 (Int.le_of_lt hp)
    omega
  · have h8 : (128 : Int) ^ i ≤ 128 ^ 8 := by
      have : (128 : Nat) ^ i ≤ 128 ^ 8 := Nat.pow_le_pow_right (by decide) (by omega)
      exact_mod_cast this
    have e8 : (128 : Int) ^ 8 = 72057594037927936 := by decide
    omega
theorem or_scan {n c : Int} {i : Nat} (h0 : 0 ≤ n) (h1 : n < 128 ^ i) (hc : 0 ≤ c ∧ c ≤ 255) (hi : i ≤ 9) (h9 : i = 9 → c ≤ 1) : orI .u64 n (shlI .u64 (c % 128) (7 * (i : Int))) = n + c % 128 * 128 ^ i := by
  obtain ⟨s1, s2, s3, s4⟩ := scan_sum h0 h1 hc hi h9
  have e : shlI .u64 (c % 128) (7 * (i : Int)) = c % 128 * 128 ^ i := by
    unfold shlI
    rw [show min (7 * (i : Int)).toNat (IntKind.bits .u64) = 7 * i by simp [IntKind.bits]; omega, pow_2_7, wrap_u64 s4 s1]
  rw [e, orI_comm, orI_add _ _ (7 * i) s4 h0 (by
    have : ((2 ^ (7 * i) : Nat) : Int) = 128 ^ i := by rw [← pow_2_7]; norm_cast
    rw [this]; exact h1) (by
    have : ((2 ^ (7 * i) : Nat) : Int) = 128 ^ i := by rw [← pow_2_7]; norm_cast
    rw [this]; exact Int.mul_emod_left _ _) (by omega)]
  omega
theorem c_Err (bs : List Int) (a e : Int) : CallD Try.prog 27 [.ptr 100000 0] (rdH bs a e) (.raw (.int .i64 e)) (rdH bs a e) := by
  refine zzg (nt := 16) (rs := [.tmp 2]) Try.func27 ?_; intro Q hQ hW
  repeat' (first
 | (with_reducible refine run_n ?_; with_reducible first | refine hK _ _ (by simp) ?_ | refine hK _ _ ?_; clear hK K)
 | (refine zzc ?_)
 | (with_reducible refine awp_regT (by kernel_rfl) ?_; intro K hK)
 | (with_reducible refine a_cond (ht := ?_) (hf := ?_) <;> intro hb <;> (try simp at hb) <;> (try contradiction) <;> (try subst hb) <;> (try omega))
 | (with_reducible first | refine a_move (hr:=?_) | refine a_assign (hr:=?_) | refine a_load (hr:=?_) | refine a_fieldAddr (hr:=?_) | refine a_nilCheck (hr:=?_) | refine a_bin (hr:=?_) | refine a_pick (hr:=?_) | refine a_un (hr:=?_) | refine a_eqP (hr:=?_) | refine a_neP (hr:=?_) | refine a_eqB (hr:=?_) | refine a_eqS (hr:=?_) | refine a_gT (hr:=?_) | refine a_gF (hr:=?_) | refine a_gU (hr:=?_))
 | (with_reducible refine a_gB (hT := ?_) (hF := ?_) <;> intro hb <;> (try simp at hb) <;> (try contradiction) <;> (try subst hb) <;> (try omega))
 | fail)
  (refine zzr hQ ?_)
  exact Fin.refl _ _
theorem c_Left (bs : List Int) (a : Nat) (e : Int) (hb' : bs.length < 9223372036854775808) (ha : a ≤ bs.length) : CallD Try.prog 45 [.ptr 100000 0] (rdH bs a e) (.raw (.int .i64 ((bs.length : Int) - a))) (rdH bs a e) := by
  refine zzg (nt := 15) (rs := [.tmp 2]) Try.func45 ?_; intro Q hQ hW
  repeat' (first
 | (with_reducible refine run_n ?_; with_reducible first | refine hK _ _ (by simp) ?_ | refine hK _ _ ?_; clear hK K)
 | (refine zzc ?_)
 | (with_reducible refine awp_regT (by kernel_rfl) ?_; intro K hK)
 | (with_reducible refine awp_regAM (id := 3) [] mixed (by kernel_rfl) (by kernel_rfl) ?_; intro K hK)
 | (with_reducible refine a_cond (ht := ?_) (hf := ?_) <;> intro hb <;> (try simp at hb) <;> (try contradiction) <;> (try subst hb) <;> (try omega))
 | (with_reducible first | refine a_move (hr:=?_) | refine a_assign (hr:=?_) | refine a_load (hr:=?_) | refine a_fieldAddr (hr:=?_) | refine a_nilCheck (hr:=?_) | refine a_bin (hr:=?_) | refine a_lenS (hr:=?_) | refine a_lenR (hr:=?_) | refine a_eqP (hr:=?_) | refine a_neP (hr:=?_) | refine a_eqB (hr:=?_) | refine a_eqS (hr:=?_))
 | fail)
  (refine zzr hQ ?_)
  exact Fin.refl _ _
def endE (l : List Int) (e : Int) : Int := if e ≠ 0 then e else if l = [] then 0 else 10
theorem c_End (bs : List Int) (a : Nat) (e : Int) (hb' : bs.length < 9223372036854775808) (ha : a ≤ bs.length) : CallD Try.prog 33 [.ptr 100000 0] (rdH bs a e) (.raw (.int .i64 (endE (bs.drop a) e))) (rdH bs a e) := by
  have h1 := c_Err bs a e
  have h2 := c_Left bs a e hb' ha
  have hl : (bs.drop a = []) ↔ (bs.length : Int) - a = 0 := by
    rw [List.drop_eq_nil_iff]; omega
  by_cases he : e = 0
  · subst he
    by_cases hz : (bs.length : Int) - a = 0
    · rw [show endE (bs.drop a) 0 = 0 by simp only [endE, hl.2 hz]; rfl]
      rw [hz] at h2
      refine zzg (nt := 14) (rs := [.tmp 2]) Try.func33 ?_; intro Q hQ hW
      repeat' (first
 | (with_reducible refine run_n ?_; with_reducible first | refine hK _ _ (by simp) ?_ | refine hK _ _ ?_; clear hK K)
 | (refine zzc ?_)
 | (with_reducible refine awp_regT (by kernel_rfl) ?_; intro K hK)
 | (with_reducible refine a_cond (ht := ?_) (hf := ?_) <;> intro hb <;> (try simp at hb) <;> (try contradiction) <;> (try subst hb) <;> (try omega))
 | (with_reducible first | refine a_move (hr:=?_) | refine a_assign (hr:=?_) | refine a_bin (hr:=?_) | refine a_pick (hr:=?_) | refine a_eqB (hr:=?_) | refine a_neB (hr:=?_) | refine a_eqS (hr:=?_) | refine a_neS (hr:=?_) | refine a_callP (p := 100000) (hcall := h1) (hr:=?_) | refine a_callP (p := 100000) (hcall := h2) (hr:=?_) | refine a_gT (hr:=?_) | refine a_gF (hr:=?_) | refine a_gU (hr:=?_))
 | (with_reducible refine a_gB (hT := ?_) (hF := ?_) <;> intro hb <;> (try simp at hb) <;> (try contradiction) <;> (try subst hb) <;> (try omega))
 | fail)
      (refine zzr hQ ?_)
      exact Fin.keep (by simp; exact .r) (by simp; exact .r) (by simp; exact .r) (by simp)
    · rw [show endE (bs.drop a) 0 = 10 by simp only [endE]; rw [if_neg (by simp), if_neg (fun h => hz (hl.1 h))]]
      refine zzg (nt := 14) (rs := [.tmp 2]) Try.func33 ?_; intro Q hQ hW
      repeat' (first
 | (with_reducible refine run_n ?_; with_reducible first | refine hK _ _ (by simp) ?_ | refine hK _ _ ?_; clear hK K)
 | (refine zzc ?_)
 | (with_reducible refine awp_regT (by kernel_rfl) ?_; intro K hK)
 | (with_reducible refine a_cond (ht := ?_) (hf := ?_) <;> intro hb <;> (try simp at hb) <;> (try contradiction) <;> (try subst hb) <;> (try omega))
 | (with_reducible first | refine a_move (hr:=?_) | refine a_assign (hr:=?_) | refine a_bin (hr:=?_) | refine a_pick (hr:=?_) | refine a_eqB (hr:=?_) | refine a_neB (hr:=?_) | refine a_eqS (hr:=?_) | refine a_neS (hr:=?_) | refine a_callP (p := 100000) (hcall := h1) (hr:=?_) | refine a_callP (p := 100000) (hcall := h2) (hr:=?_) | refine a_gT (hr:=?_) | refine a_gF (hr:=?_) | refine a_gU (hr:=?_))
 | (with_reducible refine a_gB (hT := ?_) (hF := ?_) <;> intro hb <;> (try simp at hb) <;> (try contradiction) <;> (try subst hb) <;> (try omega))
 | fail)
      (refine zzr hQ ?_)
      exact Fin.keep (by simp; exact .r) (by simp; exact .r) (by simp; exact .r) (by simp)
  · rw [show endE (bs.drop a) e = e by simp only [endE]; rw [if_pos he]]
    refine zzg (nt := 14) (rs := [.tmp 2]) Try.func33 ?_; intro Q hQ hW
    repeat' (first
 | (with_reducible refine run_n ?_; with_reducible first | refine hK _ _ (by simp) ?_ | refine hK _ _ ?_; clear hK K)
 | (refine zzc ?_)
 | (with_reducible refine awp_regT (by kernel_rfl) ?_; intro K hK)
 | (with_reducible refine a_cond (ht := ?_) (hf := ?_) <;> intro hb <;> (try simp at hb) <;> (try contradiction) <;> (try subst hb) <;> (try omega))
 | (with_reducible first | refine a_move (hr:=?_) | refine a_assign (hr:=?_) | refine a_bin (hr:=?_) | refine a_pick (hr:=?_) | refine a_eqB (hr:=?_) | refine a_neB (hr:=?_) | refine a_eqS (hr:=?_) | refine a_neS (hr:=?_) | refine a_callP (p := 100000) (hcall := h1) (hr:=?_) | refine a_callP (p := 100000) (hcall := h2) (hr:=?_) | refine a_gT (hr:=?_) | refine a_gF (hr:=?_) | refine a_gU (hr:=?_))
 | (with_reducible refine a_gB (hT := ?_) (hF := ?_) <;> intro hb <;> (try simp at hb) <;> (try contradiction) <;> (try subst hb) <;> (try omega))
 | fail)
    (refine zzr hQ ?_)
    exact Fin.keep (by simp; exact .r) (by simp; exact .r) (by simp; exact .r) (by simp)
abbrev decAV (d : Int × Int × Int) : AV := .tup [.raw (.int .u64 d.1), .raw (.int .i64 d.2.1), .raw (.int .i64 d.2.2)]
theorem c_scan (bs : List Int) (a : Nat) (e : Int) (hB : IsB bs) (hb' : bs.length < 9223372036854775808) (ha : a ≤ bs.length) : CallD Try.prog 48 [.ptr 100000 0] (rdH bs a e) (decAV (dec (bs.drop a) 0 0)) (rdH bs a e) := by
  have h2 := c_Left bs a e hb' ha
  refine zzg (nt := 57) (rs := [.tmp 2, .tmp 3, .tmp 4]) Try.func48 ?_; intro Q hQ hW
  repeat' (first
 | (with_reducible refine run_n ?_; with_reducible first | refine hK _ _ (by simp) ?_ | refine hK _ _ ?_; clear hK K)
 | (refine zzc ?_)
 | (with_reducible refine awp_regT (by kernel_rfl) ?_; intro K hK)
 | (with_reducible refine awp_regAM (id := 5) [] mixed (by kernel_rfl) (by kernel_rfl) ?_; intro K hK)
 | (with_reducible refine a_cond (ht := ?_) (hf := ?_) <;> intro hb <;> (try simp at hb) <;> (try contradiction) <;> (try subst hb) <;> (try omega))
 | (with_reducible first | refine a_move (hr:=?_) | refine a_assign (hr:=?_) | refine a_load (hr:=?_) | refine a_fieldAddr (hr:=?_) | refine a_nilCheck (hr:=?_) | refine a_and (hr:=?_) | refine a_or (hr:=?_) | refine a_shl (hr:=?_) | refine a_bin (hr:=?_) | refine a_pick (hr:=?_) | refine a_eqB (hr:=?_) | refine a_conv (hr:=?_) | refine a_bytesStr (hr:=?_) | refine a_strBytes (hr:=?_) | refine a_sameSl (hr:=?_) | refine a_idxArr (hr:=?_) | refine a_eqS (hr:=?_) | refine a_indexAddr (hr:=?_) | refine a_callP (p := 100000) (hcall := h2) (hr:=?_) | refine a_gT (hr:=?_) | refine a_gF (hr:=?_) | refine a_gU (hr:=?_))
 | (with_reducible refine a_gB (hT := ?_) (hF := ?_) <;> intro hb <;> (try simp at hb) <;> (try contradiction) <;> (try subst hb) <;> (try omega))
 | fail)
  refine awp_inv (α := Nat × Int) (fun p => [(0, .ptr 100000 0), (5, .raw (.int .u64 p.2)), (9, .raw (.int .i64 ((bs.length : Int) - a))), (10, .raw (.int .i64 p.1))]) (fun p => hpL [(100000, .box (rdAV bs a e))])
    (fun p => p.1 ≤ 9 ∧ p.1 ≤ bs.length - a ∧ 0 ≤ p.2 ∧ p.2 < 128 ^ p.1 ∧ dec (bs.drop (a + p.1)) p.1 p.2 = dec (bs.drop a) 0 0) (fun p => bs.length - a - p.1) (0, 0) ⟨by simp, by simp, by simp, by simp, by simp⟩ (zzw) ?_
  rintro ⟨i, n⟩ ⟨g1, g2, g3, g4, g5⟩
  simp only at g1 g2 g3 g4 g5 ⊢
  rw [← g5] at hQ
  rcases Nat.lt_or_ge i (bs.length - a) with hlt | hge
  · have hlt' : a + i < bs.length := by omega
    have hx := List.getElem?_eq_getElem hlt'
    have hc := hB bs[a + i] (List.getElem_mem hlt')
    rw [List.drop_eq_getElem_cons hlt'] at g5 hQ
    generalize bs[a + i] = c at hx hc g5 hQ
    simp only [dec] at g5 hQ
    have hto : ((a : Int) + (i : Int)).toNat = a + i := by omega
    have h64 : n < 18446744073709551616 := by have := p128_le g1; rw [p128_9] at this; omega
    by_cases h9 : i = 9 ∧ 1 < c
    · rw [if_pos h9] at hQ
      repeat' (first
 | (with_reducible refine run_n ?_; with_reducible first | refine hK _ _ (by simp) ?_ | refine hK _ _ ?_; clear hK K)
 | (refine zzc ?_)
 | (with_reducible refine awp_regT (by kernel_rfl) ?_; intro K hK)
 | (with_reducible refine awp_regAM (id := 5) [] mixed (by kernel_rfl) (by kernel_rfl) ?_; intro K hK)
 | (with_reducible refine a_cond (ht := ?_) (hf := ?_) <;> intro hb <;> (try simp at hb) <;> (try contradiction) <;> (try subst hb) <;> (try omega))
 | (with_reducible first | refine a_move (hr:=?_) | refine a_assign (hr:=?_) | refine a_load (hr:=?_) | refine a_fieldAddr (hr:=?_) | refine a_nilCheck (hr:=?_) | refine a_and (hr:=?_) | refine a_or (hr:=?_) | refine a_shl (hr:=?_) | refine a_bin (hr:=?_) | refine a_pick (hr:=?_) | refine a_eqB (hr:=?_) | refine a_conv (hr:=?_) | refine a_bytesStr (hr:=?_) | refine a_strBytes (hr:=?_) | refine a_sameSl (hr:=?_) | refine a_idxArr (hr:=?_) | refine a_eqS (hr:=?_) | refine a_indexAddr (hr:=?_) | refine a_gT (hr:=?_) | refine a_gF (hr:=?_) | refine a_gU (hr:=?_))
 | (with_reducible refine a_gB (hT := ?_) (hF := ?_) <;> intro hb <;> (try simp at hb) <;> (try contradiction) <;> (try subst hb) <;> (try omega))
 | fail)
      all_goals ((refine zzr hQ ?_))
      all_goals (exact Fin.keep (by simp; exact .r) (by simp; exact .r) (by simp; exact .r) (by simp))
    · rw [if_neg h9] at hQ g5
      have h9' : i = 9 → c ≤ 1 := fun h => by omega
      have hor := or_scan g3 g4 hc g1 h9'
      obtain ⟨s1, s2, s3, s4⟩ := scan_sum g3 g4 hc g1 h9'
      by_cases h0 : c = 0 ∧ 0 < i
      · rw [if_pos h0] at hQ
        repeat' (first
 | (with_reducible refine run_n ?_; with_reducible first | refine hK _ _ (by simp) ?_ | refine hK _ _ ?_; clear hK K)
 | (refine zzc ?_)
 | (with_reducible refine awp_regT (by kernel_rfl) ?_; intro K hK)
 | (with_reducible refine awp_regAM (id := 5) [] mixed (by kernel_rfl) (by kernel_rfl) ?_; intro K hK)
 | (with_reducible refine a_cond (ht := ?_) (hf := ?_) <;> intro hb <;> (try simp at hb) <;> (try contradiction) <;> (try subst hb) <;> (try omega))
 | (with_reducible first | refine a_move (hr:=?_) | refine a_assign (hr:=?_) | refine a_load (hr:=?_) | refine a_fieldAddr (hr:=?_) | refine a_nilCheck (hr:=?_) | refine a_and (hr:=?_) | refine a_or (hr:=?_) | refine a_shl (hr:=?_) | refine a_bin (hr:=?_) | refine a_pick (hr:=?_) | refine a_eqB (hr:=?_) | refine a_conv (hr:=?_) | refine a_bytesStr (hr:=?_) | refine a_strBytes (hr:=?_) | refine a_sameSl (hr:=?_) | refine a_idxArr (hr:=?_) | refine a_eqS (hr:=?_) | refine a_indexAddr (hr:=?_) | refine a_gT (hr:=?_) | refine a_gF (hr:=?_) | refine a_gU (hr:=?_))
 | (with_reducible refine a_gB (hT := ?_) (hF := ?_) <;> intro hb <;> (try simp at hb) <;> (try contradiction) <;> (try subst hb) <;> (try omega))
 | fail)
        all_goals ((refine zzr hQ ?_))
        all_goals (exact Fin.keep (by simp; exact .r) (by simp; exact .r) (by simp; exact .r) (by simp))
      · rw [if_neg h0] at hQ g5
        by_cases h1 : c < 128
        · rw [if_pos h1] at hQ
          have hor' : orI .u64 n (shlI .u64 (c % 128) (7 * (i : Int))) = n + c * 128 ^ i := by have e := hor; rw [show n + c % 128 * 128 ^ i = n + c * 128 ^ i by rw [show c % 128 = c by omega]] at e; exact e
          clear hor
          repeat' (first
 | (with_reducible refine run_n ?_; with_reducible first | refine hK _ _ (by simp) ?_ | refine hK _ _ ?_; clear hK K)
 | (refine zzc ?_)
 | (with_reducible refine awp_regT (by kernel_rfl) ?_; intro K hK)
 | (with_reducible refine awp_regAM (id := 5) [] mixed (by kernel_rfl) (by kernel_rfl) ?_; intro K hK)
 | (with_reducible refine a_cond (ht := ?_) (hf := ?_) <;> intro hb <;> (try simp at hb) <;> (try contradiction) <;> (try subst hb) <;> (try omega))
 | (with_reducible first | refine a_move (hr:=?_) | refine a_assign (hr:=?_) | refine a_load (hr:=?_) | refine a_fieldAddr (hr:=?_) | refine a_nilCheck (hr:=?_) | refine a_and (hr:=?_) | refine a_or (hr:=?_) | refine a_shl (hr:=?_) | refine a_bin (hr:=?_) | refine a_pick (hr:=?_) | refine a_eqB (hr:=?_) | refine a_conv (hr:=?_) | refine a_bytesStr (hr:=?_) | refine a_strBytes (hr:=?_) | refine a_sameSl (hr:=?_) | refine a_idxArr (hr:=?_) | refine a_eqS (hr:=?_) | refine a_indexAddr (hr:=?_) | refine a_gT (hr:=?_) | refine a_gF (hr:=?_) | refine a_gU (hr:=?_))
 | (with_reducible refine a_gB (hT := ?_) (hF := ?_) <;> intro hb <;> (try simp at hb) <;> (try contradiction) <;> (try subst hb) <;> (try omega))
 | fail)
          all_goals ((refine zzr hQ ?_))
          all_goals (try rw [hor'])
          all_goals (refine (Fin.keep (X := rdAV bs a e) (by simp; exact .r) (by simp; exact .r) (by simp; exact .r) (by simp)).trans ?_)
          all_goals first | exact Fin.refl _ _ | (simp at hor' ⊢; rw [hor']; exact Fin.refl _ _)
        · rw [if_neg h1] at g5
          repeat' (first
 | (with_reducible refine run_n ?_; with_reducible first | refine hK _ _ (by simp) ?_ | refine hK _ _ ?_; clear hK K)
 | (refine zzc ?_)
 | (with_reducible refine awp_regT (by kernel_rfl) ?_; intro K hK)
 | (with_reducible refine awp_regAM (id := 5) [] mixed (by kernel_rfl) (by kernel_rfl) ?_; intro K hK)
 | (with_reducible refine a_cond (ht := ?_) (hf := ?_) <;> intro hb <;> (try simp at hb) <;> (try contradiction) <;> (try subst hb) <;> (try omega))
 | (with_reducible first | refine a_move (hr:=?_) | refine a_assign (hr:=?_) | refine a_load (hr:=?_) | refine a_fieldAddr (hr:=?_) | refine a_nilCheck (hr:=?_) | refine a_and (hr:=?_) | refine a_or (hr:=?_) | refine a_shl (hr:=?_) | refine a_bin (hr:=?_) | refine a_pick (hr:=?_) | refine a_eqB (hr:=?_) | refine a_conv (hr:=?_) | refine a_bytesStr (hr:=?_) | refine a_strBytes (hr:=?_) | refine a_sameSl (hr:=?_) | refine a_idxArr (hr:=?_) | refine a_eqS (hr:=?_) | refine a_indexAddr (hr:=?_) | refine a_gT (hr:=?_) | refine a_gF (hr:=?_) | refine a_gU (hr:=?_))
 | (with_reducible refine a_gB (hT := ?_) (hF := ?_) <;> intro hb <;> (try simp at hb) <;> (try contradiction) <;> (try subst hb) <;> (try omega))
 | fail)
          exact ⟨(i + 1, n + c % 128 * 128 ^ i), by simp only; omega, ⟨by simp only; omega, by simp only; omega, by simp only; omega, by simp only; omega, by simpa [Nat.add_assoc] using g5⟩, weak_o (by repeat' (first | exact sub_hpL (by simp))) (by simp) (by simp [hor])⟩
  · obtain rfl : i = bs.length - a := by omega
    rw [List.drop_of_length_le (by omega)] at hQ
    simp only [dec] at hQ
    repeat' (first
 | (with_reducible refine run_n ?_; with_reducible first | refine hK _ _ (by simp) ?_ | refine hK _ _ ?_; clear hK K)
 | (refine zzc ?_)
 | (with_reducible refine awp_regT (by kernel_rfl) ?_; intro K hK)
 | (with_reducible refine awp_regAM (id := 5) [] mixed (by kernel_rfl) (by kernel_rfl) ?_; intro K hK)
 | (with_reducible refine a_cond (ht := ?_) (hf := ?_) <;> intro hb <;> (try simp at hb) <;> (try contradiction) <;> (try subst hb) <;> (try omega))
 | (with_reducible first | refine a_move (hr:=?_) | refine a_assign (hr:=?_) | refine a_load (hr:=?_) | refine a_fieldAddr (hr:=?_) | refine a_nilCheck (hr:=?_) | refine a_and (hr:=?_) | refine a_or (hr:=?_) | refine a_shl (hr:=?_) | refine a_bin (hr:=?_) | refine a_pick (hr:=?_) | refine a_eqB (hr:=?_) | refine a_conv (hr:=?_) | refine a_bytesStr (hr:=?_) | refine a_strBytes (hr:=?_) | refine a_sameSl (hr:=?_) | refine a_idxArr (hr:=?_) | refine a_eqS (hr:=?_) | refine a_indexAddr (hr:=?_) | refine a_gT (hr:=?_) | refine a_gF (hr:=?_) | refine a_gU (hr:=?_))
 | (with_reducible refine a_gB (hT := ?_) (hF := ?_) <;> intro hb <;> (try simp at hb) <;> (try contradiction) <;> (try subst hb) <;> (try omega))
 | fail)
    (refine zzr hQ ?_)
    exact Fin.keep (by simp; exact .r) (by simp; exact .r) (by simp; exact .r) (by simp)
theorem dec_ok : ∀ (l : List Int) (i : Nat) (a N K E : Int), dec l i a = (N, K, E) → IsB l → 0 ≤ a → a < 128 ^ i → i ≤ 9 → (0 ≤ N ∧ N < 18446744073709551616 ∧ 0 ≤ K ∧ K ≤ (i : Int) + l.length ∧ (E = 0 → (i : Int) + 1 ≤ K) ∧ (E ≠ 0 → N = 0 ∧ K = 0) ∧ (E = 0 ∨ E = 6 ∨ E = 8 ∨ E = 9))
  | [], i, a, N, K, E, h, _, _, _, _ => by
    simp only [dec, Prod.mk.injEq] at h
    obtain ⟨rfl, rfl, rfl⟩ := h
    simp <;> omega
  | c :: l, i, a, N, K, E, h, hB, h0, h1, h9 => by
    have hc := (isB_cons.1 hB).1
    rw [dec] at h
    by_cases c1 : i = 9 ∧ 1 < c
    · rw [if_pos c1] at h
      simp only [Prod.mk.injEq] at h
      obtain ⟨rfl, rfl, rfl⟩ := h
      simp <;> omega
    rw [if_neg c1] at h
    obtain ⟨s1, s2, s3, s4⟩ := scan_sum h0 h1 hc h9 (fun h => by omega)
    by_cases c2 : c = 0 ∧ 0 < i
    · rw [if_pos c2] at h
      simp only [Prod.mk.injEq] at h
      obtain ⟨rfl, rfl, rfl⟩ := h
      simp <;> omega
    rw [if_neg c2] at h
    by_cases c3 : c < 128
    · rw [if_pos c3] at h
      rw [show c % 128 = c by omega] at s2 s4
      simp only [Prod.mk.injEq] at h
      obtain ⟨rfl, rfl, rfl⟩ := h
      simp <;> omega
    · rw [if_neg c3] at h
      obtain ⟨q1, q2, q3, q4, q5, q6, q7⟩ := dec_ok l (i + 1) _ N K E h (isB_cons.1 hB).2 (by omega) s3 (by omega)
      refine ⟨q1, q2, q3, ?_, fun e => ?_, q6, q7⟩
      · rw [List.length_cons]; omega
      · have := q5 e; omega
theorem dec_ok0 {l : List Int} (hB : IsB l) : 0 ≤ (dec l 0 0).1 ∧ (dec l 0 0).1 < 18446744073709551616 ∧ 0 ≤ (dec l 0 0).2.1 ∧ (dec l 0 0).2.1 ≤ l.length ∧ ((dec l 0 0).2.2 = 0 → 1 ≤ (dec l 0 0).2.1) ∧ ((dec l 0 0).2.2 ≠ 0 → (dec l 0 0).1 = 0 ∧ (dec l 0 0).2.1 = 0) ∧ ((dec l 0 0).2.2 = 0 ∨ (dec l 0 0).2.2 = 6 ∨ (dec l 0 0).2.2 = 8 ∨ (dec l 0 0).2.2 = 9) := by
  have := dec_ok l 0 0 _ _ _ rfl hB (by omega) (by simp) (by omega)
  simpa using this
/-- What an answer makes of a Reader. -/
abbrev nxA {α : Type} (a : Nat) (e : Int) (d : α × Nat × Int) : Nat := if e ≠ 0 then a else a + d.2.1
abbrev nxE {α : Type} (e : Int) (d : α × Nat × Int) : Int := if e ≠ 0 then e else d.2.2
theorem c_RdUint (bs : List Int) (a : Nat) (e most : Int) (hB : IsB bs) (hb' : bs.length < 9223372036854775808) (ha : a ≤ bs.length) : CallD Try.prog 49 [.ptr 100000 0, .raw (.int .u64 most)] (rdH bs a e) (.raw (.int .u64 (if e ≠ 0 then 0 else (dU (bs.drop a) most).1))) (rdH bs (nxA a e (dU (bs.drop a) most)) (nxE e (dU (bs.drop a) most))) := by
  have h1 := c_Err bs a e
  have h2 := c_scan bs a e hB hb' ha
  have ho := dec_ok0 (isB_drop hB a)
  rw [List.length_drop] at ho
  unfold nxA nxE dU
  generalize dec (bs.drop a) 0 0 = d at h2 ho ⊢
  obtain ⟨n, k, er⟩ := d
  simp only [decAV] at h2 ho ⊢
  obtain ⟨o1, o2, o3, o4, o5, o6, o7⟩ := ho
  by_cases he : e = 0
  · subst he
    by_cases h3 : er = 0
    · subst h3
      by_cases h4 : most < n
      · simp only [ne_eq, not_true, if_false, if_pos h4, Nat.add_zero]
        refine zzg (nt := 39) (rs := [.tmp 4]) Try.func49 ?_; intro Q hQ hW
        repeat' (first
 | (with_reducible refine run_n ?_; with_reducible first | refine hK _ _ (by simp) ?_ | refine hK _ _ ?_; clear hK K)
 | (refine zzc ?_)
 | (with_reducible refine awp_regT (by kernel_rfl) ?_; intro K hK)
 | (with_reducible refine a_cond (ht := ?_) (hf := ?_) <;> intro hb <;> (try simp at hb) <;> (try contradiction) <;> (try subst hb) <;> (try omega))
 | (with_reducible first | refine a_move (hr:=?_) | refine a_assign (hr:=?_) | refine a_load (hr:=?_) | refine a_fieldAddr (hr:=?_) | refine a_nilCheck (hr:=?_) | refine a_bin (hr:=?_) | refine a_extract (hr:=?_) | refine a_pick (hr:=?_) | refine a_store (hr:=?_) | refine a_eqB (hr:=?_) | refine a_neB (hr:=?_) | refine a_eqS (hr:=?_) | refine a_neS (hr:=?_) | refine a_callP (p := 100000) (hcall := h1) (hr:=?_) | refine a_callP (p := 100000) (hcall := h2) (hr:=?_) | refine a_gT (hr:=?_) | refine a_gF (hr:=?_) | refine a_gU (hr:=?_))
 | (with_reducible refine a_gB (hT := ?_) (hF := ?_) <;> intro hb <;> (try simp at hb) <;> (try contradiction) <;> (try subst hb) <;> (try omega))
 | fail)
        (refine zzr hQ ?_)
        exact Fin.keep (by simp; exact .r) (by simp; exact .r) (by simp; exact .r) (by simp)
      · simp only [ne_eq, not_true, if_false, if_neg h4]
        have e1 : (a : Int) + k = ((a + k.toNat : Nat) : Int) := by omega
        refine zzg (nt := 39) (rs := [.tmp 4]) Try.func49 ?_; intro Q hQ hW
        repeat' (first
 | (with_reducible refine run_n ?_; with_reducible first | refine hK _ _ (by simp) ?_ | refine hK _ _ ?_; clear hK K)
 | (refine zzc ?_)
 | (with_reducible refine awp_regT (by kernel_rfl) ?_; intro K hK)
 | (with_reducible refine a_cond (ht := ?_) (hf := ?_) <;> intro hb <;> (try simp at hb) <;> (try contradiction) <;> (try subst hb) <;> (try omega))
 | (with_reducible first | refine a_move (hr:=?_) | refine a_assign (hr:=?_) | refine a_load (hr:=?_) | refine a_fieldAddr (hr:=?_) | refine a_nilCheck (hr:=?_) | refine a_bin (hr:=?_) | refine a_extract (hr:=?_) | refine a_pick (hr:=?_) | refine a_store (hr:=?_) | refine a_eqB (hr:=?_) | refine a_neB (hr:=?_) | refine a_eqS (hr:=?_) | refine a_neS (hr:=?_) | refine a_callP (p := 100000) (hcall := h1) (hr:=?_) | refine a_callP (p := 100000) (hcall := h2) (hr:=?_) | refine a_gT (hr:=?_) | refine a_gF (hr:=?_) | refine a_gU (hr:=?_))
 | (with_reducible refine a_gB (hT := ?_) (hF := ?_) <;> intro hb <;> (try simp at hb) <;> (try contradiction) <;> (try subst hb) <;> (try omega))
 | fail)
        (refine zzr hQ ?_)
        rw [e1]
        exact Fin.keep (by simp; exact .r) (by simp; exact .r) (by simp; exact .r) (by simp)
    · simp only [ne_eq, h3, not_false_iff, if_true, not_true, if_false, Nat.add_zero]
      refine zzg (nt := 39) (rs := [.tmp 4]) Try.func49 ?_; intro Q hQ hW
      repeat' (first
 | (with_reducible refine run_n ?_; with_reducible first | refine hK _ _ (by simp) ?_ | refine hK _ _ ?_; clear hK K)
 | (refine zzc ?_)
 | (with_reducible refine awp_regT (by kernel_rfl) ?_; intro K hK)
 | (with_reducible refine a_cond (ht := ?_) (hf := ?_) <;> intro hb <;> (try simp at hb) <;> (try contradiction) <;> (try subst hb) <;> (try omega))
 | (with_reducible first | refine a_move (hr:=?_) | refine a_assign (hr:=?_) | refine a_load (hr:=?_) | refine a_fieldAddr (hr:=?_) | refine a_nilCheck (hr:=?_) | refine a_bin (hr:=?_) | refine a_extract (hr:=?_) | refine a_pick (hr:=?_) | refine a_store (hr:=?_) | refine a_eqB (hr:=?_) | refine a_neB (hr:=?_) | refine a_eqS (hr:=?_) | refine a_neS (hr:=?_) | refine a_callP (p := 100000) (hcall := h1) (hr:=?_) | refine a_callP (p := 100000) (hcall := h2) (hr:=?_) | refine a_gT (hr:=?_) | refine a_gF (hr:=?_) | refine a_gU (hr:=?_))
 | (with_reducible refine a_gB (hT := ?_) (hF := ?_) <;> intro hb <;> (try simp at hb) <;> (try contradiction) <;> (try subst hb) <;> (try omega))
 | fail)
      (refine zzr hQ ?_)
      exact Fin.keep (by simp; exact .r) (by simp; exact .r) (by simp; exact .r) (by simp)
  · simp only [ne_eq, he, not_false_iff, if_true]
    refine zzg (nt := 39) (rs := [.tmp 4]) Try.func49 ?_; intro Q hQ hW
    repeat' (first
 | (with_reducible refine run_n ?_; with_reducible first | refine hK _ _ (by simp) ?_ | refine hK _ _ ?_; clear hK K)
 | (refine zzc ?_)
 | (with_reducible refine awp_regT (by kernel_rfl) ?_; intro K hK)
 | (with_reducible refine a_cond (ht := ?_) (hf := ?_) <;> intro hb <;> (try simp at hb) <;> (try contradiction) <;> (try subst hb) <;> (try omega))
 | (with_reducible first | refine a_move (hr:=?_) | refine a_assign (hr:=?_) | refine a_load (hr:=?_) | refine a_fieldAddr (hr:=?_) | refine a_nilCheck (hr:=?_) | refine a_bin (hr:=?_) | refine a_extract (hr:=?_) | refine a_pick (hr:=?_) | refine a_store (hr:=?_) | refine a_eqB (hr:=?_) | refine a_neB (hr:=?_) | refine a_eqS (hr:=?_) | refine a_neS (hr:=?_) | refine a_callP (p := 100000) (hcall := h1) (hr:=?_) | refine a_callP (p := 100000) (hcall := h2) (hr:=?_) | refine a_gT (hr:=?_) | refine a_gF (hr:=?_) | refine a_gU (hr:=?_))
 | (with_reducible refine a_gB (hT := ?_) (hF := ?_) <;> intro hb <;> (try simp at hb) <;> (try contradiction) <;> (try subst hb) <;> (try omega))
 | fail)
    (refine zzr hQ ?_)
    exact Fin.keep (by simp; exact .r) (by simp; exact .r) (by simp; exact .r) (by simp)
@[simp] theorem shr1_u64 (x : Int) : shrI .u64 x 1 = x / 2 := rfl
theorem c_WText (s : ByteArray) (hs : s.size ≤ 140737488351232) : CallD Try.prog 35 [.raw (.string s)] noHeap (.sl 1 (u8s (enc 9 s.size ++ bytesOf s))) noHeap := by
  have hl := (enc_len 9 s.size).1
  have hl2 := len_bytes s
  refine zzg (nt := 9) (rs := [.tmp 2]) Try.func35 ?_; intro Q hQ hW
  repeat' (first
 | (with_reducible refine run_n ?_; with_reducible first | refine hK _ _ (by simp) ?_ | refine hK _ _ ?_; clear hK K)
 | (refine zzc ?_)
 | (with_reducible refine awp_regT (by kernel_rfl) ?_; intro K hK)
 | (with_reducible refine a_cond (ht := ?_) (hf := ?_) <;> intro hb <;> (try simp at hb) <;> (try contradiction) <;> (try subst hb) <;> (try omega))
 | (with_reducible first | refine a_move (hr:=?_) | refine a_assign (hr:=?_) | refine a_lenS (hr:=?_) | refine a_lenR (hr:=?_) | refine a_conv (hr:=?_) | refine a_bytesStr (hr:=?_) | refine a_strBytes (hr:=?_) | refine a_sameSl (hr:=?_) | refine a_append (hr:=?_) | refine a_append0 (hr:=?_) | refine a_appendX (hr:=?_) | refine a_callO (hcall := c_Uint _ (by omega) (by omega)) (hr:=?_))
 | fail)
  (refine zzr hQ ?_)
  exact Fin.frzR (by simp; exact .r) (by simp [List.take_of_length_le]; exact .r) (by simp; exact .r) (by simp)
theorem c_RdByte (bs : List Int) (a : Nat) (e : Int) (hB : IsB bs) (hb' : bs.length < 9223372036854775807) (ha : a ≤ bs.length) : CallD Try.prog 43 [.ptr 100000 0] (rdH bs a e) (.raw (.int .u8 (if e ≠ 0 then 0 else (dB (bs.drop a)).1))) (rdH bs (nxA a e (dB (bs.drop a))) (nxE e (dB (bs.drop a)))) := by
  unfold nxA nxE
  have h1 := c_Err bs a e
  have h2 := c_Left bs a e (by omega) ha
  by_cases he : e = 0
  · subst he
    simp only [ne_eq, not_true, if_false]
    rcases Nat.lt_or_ge a bs.length with hlt | hge
    · have hx := List.getElem?_eq_getElem hlt
      rw [List.drop_eq_getElem_cons hlt]
      generalize bs[a] = c at hx ⊢
      simp only [dB]
      have e1 : (a : Int) + 1 - 1 = a := by omega
      refine zzg (nt := 30) (rs := [.tmp 2]) Try.func43 ?_; intro Q hQ hW
      repeat' (first
 | (with_reducible refine run_n ?_; with_reducible first | refine hK _ _ (by simp) ?_ | refine hK _ _ ?_; clear hK K)
 | (refine zzc ?_)
 | (with_reducible refine awp_regT (by kernel_rfl) ?_; intro K hK)
 | (with_reducible refine awp_regAM (id := 7) [] mixed (by kernel_rfl) (by kernel_rfl) ?_; intro K hK)
 | (with_reducible refine a_cond (ht := ?_) (hf := ?_) <;> intro hb <;> (try simp at hb) <;> (try contradiction) <;> (try subst hb) <;> (try omega))
 | (with_reducible first | refine a_move (hr:=?_) | refine a_assign (hr:=?_) | refine a_load (hr:=?_) | refine a_fieldAddr (hr:=?_) | refine a_nilCheck (hr:=?_) | refine a_bin (hr:=?_) | refine a_store (hr:=?_) | refine a_eqB (hr:=?_) | refine a_neB (hr:=?_) | refine a_idxArr (hr:=?_) | refine a_eqS (hr:=?_) | refine a_neS (hr:=?_) | refine a_indexAddr (hr:=?_) | refine a_callP (p := 100000) (hcall := h1) (hr:=?_) | refine a_callP (p := 100000) (hcall := h2) (hr:=?_))
 | fail)
      (refine zzr hQ ?_)
      exact Fin.keep (by simp; exact .r) (by simp; exact .r) (by simp; exact .r) (by simp)
    · rw [List.drop_of_length_le hge]
      simp only [dB, Nat.add_zero]
      refine zzg (nt := 30) (rs := [.tmp 2]) Try.func43 ?_; intro Q hQ hW
      repeat' (first
 | (with_reducible refine run_n ?_; with_reducible first | refine hK _ _ (by simp) ?_ | refine hK _ _ ?_; clear hK K)
 | (refine zzc ?_)
 | (with_reducible refine awp_regT (by kernel_rfl) ?_; intro K hK)
 | (with_reducible refine awp_regAM (id := 7) [] mixed (by kernel_rfl) (by kernel_rfl) ?_; intro K hK)
 | (with_reducible refine a_cond (ht := ?_) (hf := ?_) <;> intro hb <;> (try simp at hb) <;> (try contradiction) <;> (try subst hb) <;> (try omega))
 | (with_reducible first | refine a_move (hr:=?_) | refine a_assign (hr:=?_) | refine a_load (hr:=?_) | refine a_fieldAddr (hr:=?_) | refine a_nilCheck (hr:=?_) | refine a_bin (hr:=?_) | refine a_store (hr:=?_) | refine a_eqB (hr:=?_) | refine a_neB (hr:=?_) | refine a_idxArr (hr:=?_) | refine a_eqS (hr:=?_) | refine a_neS (hr:=?_) | refine a_indexAddr (hr:=?_) | refine a_callP (p := 100000) (hcall := h1) (hr:=?_) | refine a_callP (p := 100000) (hcall := h2) (hr:=?_))
 | fail)
      (refine zzr hQ ?_)
      exact Fin.keep (by simp; exact .r) (by simp; exact .r) (by simp; exact .r) (by simp)
  · simp only [ne_eq, he, not_false_iff, if_true]
    refine zzg (nt := 30) (rs := [.tmp 2]) Try.func43 ?_; intro Q hQ hW
    repeat' (first
 | (with_reducible refine run_n ?_; with_reducible first | refine hK _ _ (by simp) ?_ | refine hK _ _ ?_; clear hK K)
 | (refine zzc ?_)
 | (with_reducible refine awp_regT (by kernel_rfl) ?_; intro K hK)
 | (with_reducible refine awp_regAM (id := 7) [] mixed (by kernel_rfl) (by kernel_rfl) ?_; intro K hK)
 | (with_reducible refine a_cond (ht := ?_) (hf := ?_) <;> intro hb <;> (try simp at hb) <;> (try contradiction) <;> (try subst hb) <;> (try omega))
 | (with_reducible first | refine a_move (hr:=?_) | refine a_assign (hr:=?_) | refine a_load (hr:=?_) | refine a_fieldAddr (hr:=?_) | refine a_nilCheck (hr:=?_) | refine a_bin (hr:=?_) | refine a_store (hr:=?_) | refine a_eqB (hr:=?_) | refine a_neB (hr:=?_) | refine a_idxArr (hr:=?_) | refine a_eqS (hr:=?_) | refine a_neS (hr:=?_) | refine a_indexAddr (hr:=?_) | refine a_callP (p := 100000) (hcall := h1) (hr:=?_))
 | fail)
    (refine zzr hQ ?_)
    exact Fin.keep (by simp; exact .r) (by simp; exact .r) (by simp; exact .r) (by simp)
theorem c_RdText (bs : List Int) (a : Nat) (e most : Int) (hB : IsB bs) (hb' : bs.length < 4611686018427387904) (ha : a ≤ bs.length) (hm : -9223372036854775808 ≤ most ∧ most < 9223372036854775808) : CallD Try.prog 39 [.ptr 100000 0, .raw (.int .i64 most)] (rdH bs a e) (.raw (.string (if e ≠ 0 then ⟨#[]⟩ else strOfNums (dT (bs.drop a) most).1))) (rdH bs (nxA a e (dT (bs.drop a) most)) (nxE e (dT (bs.drop a) most))) := by
  have h1 := c_Err bs a e
  have h2 := c_scan bs a e hB (by omega) ha
  have h3 := c_Left bs a e (by omega) ha
  have ho := dec_ok0 (isB_drop hB a)
  have hld : (bs.drop a).length = bs.length - a := List.length_drop
  rw [hld] at ho
  unfold nxA nxE dT
  rw [hld]
  have hdd : ∀ k : Nat, (bs.drop a).drop k = bs.drop (a + k) := fun k => List.drop_drop
  generalize dec (bs.drop a) 0 0 = d at h2 ho ⊢
  obtain ⟨n, k, er⟩ := d
  simp only [decAV] at h2 ho ⊢
  obtain ⟨o1, o2, o3, o4, o5, o6, o7⟩ := ho
  have z0 : strOfNums [] = ⟨#[]⟩ := rfl
  by_cases he : e = 0
  · subst he
    simp only [ne_eq, not_true, if_false]
    by_cases h5 : er = 0
    · subst h5
      simp only [not_true, if_false]
      by_cases h6 : most < 0 ∨ most < n
      · rw [if_pos h6]
        simp only [z0, Nat.add_zero]
        refine zzg (nt := 71) (rs := [.tmp 4]) Try.func39 ?_; intro Q hQ hW
        repeat' (first
 | (with_reducible refine run_n ?_; with_reducible first | refine hK _ _ (by simp) ?_ | refine hK _ _ ?_; clear hK K)
 | (refine zzc ?_)
 | (with_reducible refine awp_regT (by kernel_rfl) ?_; intro K hK)
 | (with_reducible refine awp_regAM (id := 13) [] mixed (by kernel_rfl) (by kernel_rfl) ?_; intro K hK)
 | (with_reducible refine a_cond (ht := ?_) (hf := ?_) <;> intro hb <;> (try simp at hb) <;> (try contradiction) <;> (try subst hb) <;> (try omega))
 | (with_reducible first | refine a_move (hr:=?_) | refine a_assign (hr:=?_) | refine a_load (hr:=?_) | refine a_fieldAddr (hr:=?_) | refine a_nilCheck (hr:=?_) | refine a_bin (hr:=?_) | refine a_extract (hr:=?_) | refine a_pick (hr:=?_) | refine a_store (hr:=?_) | refine a_neB (hr:=?_) | refine a_conv (hr:=?_) | refine a_bytesStr (hr:=?_) | refine a_strBytes (hr:=?_) | refine a_sameSl (hr:=?_) | refine a_sliceArr (hr:=?_) | refine a_neS (hr:=?_) | refine a_sliceS (hr:=?_) | refine a_sliceR (hr:=?_) | refine a_callP (p := 100000) (hcall := h1) (hr:=?_) | refine a_callP (p := 100000) (hcall := h2) (hr:=?_) | refine a_callP (p := 100000) (hcall := h3) (hr:=?_) | refine a_gT (hr:=?_) | refine a_gF (hr:=?_) | refine a_gU (hr:=?_))
 | (with_reducible refine a_gB (hT := ?_) (hF := ?_) <;> intro hb <;> (try simp at hb) <;> (try contradiction) <;> (try subst hb) <;> (try omega))
 | fail)
        all_goals ((refine zzr hQ ?_))
        all_goals (exact Fin.keep (by simp; exact .r) (by simp; exact .r) (by simp; exact .r) (by simp))
      · rw [if_neg h6]
        by_cases h7 : ((bs.length - a : Nat) : Int) - k < n
        · rw [if_pos h7]
          simp only [z0, Nat.add_zero]
          refine zzg (nt := 71) (rs := [.tmp 4]) Try.func39 ?_; intro Q hQ hW
          repeat' (first
 | (with_reducible refine run_n ?_; with_reducible first | refine hK _ _ (by simp) ?_ | refine hK _ _ ?_; clear hK K)
 | (refine zzc ?_)
 | (with_reducible refine awp_regT (by kernel_rfl) ?_; intro K hK)
 | (with_reducible refine awp_regAM (id := 13) [] mixed (by kernel_rfl) (by kernel_rfl) ?_; intro K hK)
 | (with_reducible refine a_cond (ht := ?_) (hf := ?_) <;> intro hb <;> (try simp at hb) <;> (try contradiction) <;> (try subst hb) <;> (try omega))
 | (with_reducible first | refine a_move (hr:=?_) | refine a_assign (hr:=?_) | refine a_load (hr:=?_) | refine a_fieldAddr (hr:=?_) | refine a_nilCheck (hr:=?_) | refine a_bin (hr:=?_) | refine a_extract (hr:=?_) | refine a_pick (hr:=?_) | refine a_store (hr:=?_) | refine a_neB (hr:=?_) | refine a_conv (hr:=?_) | refine a_bytesStr (hr:=?_) | refine a_strBytes (hr:=?_) | refine a_sameSl (hr:=?_) | refine a_sliceArr (hr:=?_) | refine a_neS (hr:=?_) | refine a_sliceS (hr:=?_) | refine a_sliceR (hr:=?_) | refine a_callP (p := 100000) (hcall := h1) (hr:=?_) | refine a_callP (p := 100000) (hcall := h2) (hr:=?_) | refine a_callP (p := 100000) (hcall := h3) (hr:=?_) | refine a_gT (hr:=?_) | refine a_gF (hr:=?_) | refine a_gU (hr:=?_))
 | (with_reducible refine a_gB (hT := ?_) (hF := ?_) <;> intro hb <;> (try simp at hb) <;> (try contradiction) <;> (try subst hb) <;> (try omega))
 | fail)
          all_goals ((refine zzr hQ ?_))
          all_goals (exact Fin.keep (by simp; exact .r) (by simp; exact .r) (by simp; exact .r) (by simp))
        · rw [if_neg h7]
          simp only [hdd]
          refine zzg (nt := 71) (rs := [.tmp 4]) Try.func39 ?_; intro Q hQ hW
          repeat' (first
 | (with_reducible refine run_n ?_; with_reducible first | refine hK _ _ (by simp) ?_ | refine hK _ _ ?_; clear hK K)
 | (refine zzc ?_)
 | (with_reducible refine awp_regT (by kernel_rfl) ?_; intro K hK)
 | (with_reducible refine awp_regAM (id := 13) [] mixed (by kernel_rfl) (by kernel_rfl) ?_; intro K hK)
 | (with_reducible refine a_cond (ht := ?_) (hf := ?_) <;> intro hb <;> (try simp at hb) <;> (try contradiction) <;> (try subst hb) <;> (try omega))
 | (with_reducible first | refine a_move (hr:=?_) | refine a_assign (hr:=?_) | refine a_load (hr:=?_) | refine a_fieldAddr (hr:=?_) | refine a_nilCheck (hr:=?_) | refine a_bin (hr:=?_) | refine a_extract (hr:=?_) | refine a_pick (hr:=?_) | refine a_store (hr:=?_) | refine a_neB (hr:=?_) | refine a_conv (hr:=?_) | refine a_bytesStr (hr:=?_) | refine a_strBytes (hr:=?_) | refine a_sameSl (hr:=?_) | refine a_sliceArr (hr:=?_) | refine a_neS (hr:=?_) | refine a_sliceS (hr:=?_) | refine a_sliceR (hr:=?_) | refine a_callP (p := 100000) (hcall := h1) (hr:=?_) | refine a_callP (p := 100000) (hcall := h2) (hr:=?_) | refine a_callP (p := 100000) (hcall := h3) (hr:=?_) | refine a_gT (hr:=?_) | refine a_gF (hr:=?_) | refine a_gU (hr:=?_))
 | (with_reducible refine a_gB (hT := ?_) (hF := ?_) <;> intro hb <;> (try simp at hb) <;> (try contradiction) <;> (try subst hb) <;> (try omega))
 | fail)
          have e1 : (a : Int) + (k + n) = ((a + (k + n).toNat : Nat) : Int) := by omega
          have e2 : (⟨(List.drop ((a : Int) + (k + n) - n).toNat (List.take ((a : Int) + (k + n)).toNat (List.map (fun n => UInt8.ofNat n.toNat) bs))).toArray⟩ : ByteArray) = strOfNums (List.take n.toNat (List.drop (a + k.toNat) bs)) := by
            unfold strOfNums
            rw [List.map_take, List.map_drop, List.drop_take, show ((a : Int) + (k + n) - n).toNat = a + k.toNat by omega, show ((a : Int) + (k + n)).toNat - (a + k.toNat) = n.toNat by omega]
          all_goals ((refine zzr hQ ?_))
          all_goals (rw [e2, e1]; exact Fin.keep (by simp; exact .r) (by simp; exact .r) (by simp; exact .r) (by simp))
    · simp only [h5, not_false_iff, if_true, z0, Nat.add_zero]
      refine zzg (nt := 71) (rs := [.tmp 4]) Try.func39 ?_; intro Q hQ hW
      repeat' (first
 | (with_reducible refine run_n ?_; with_reducible first | refine hK _ _ (by simp) ?_ | refine hK _ _ ?_; clear hK K)
 | (refine zzc ?_)
 | (with_reducible refine awp_regT (by kernel_rfl) ?_; intro K hK)
 | (with_reducible refine awp_regAM (id := 13) [] mixed (by kernel_rfl) (by kernel_rfl) ?_; intro K hK)
 | (with_reducible refine a_cond (ht := ?_) (hf := ?_) <;> intro hb <;> (try simp at hb) <;> (try contradiction) <;> (try subst hb) <;> (try omega))
 | (with_reducible first | refine a_move (hr:=?_) | refine a_assign (hr:=?_) | refine a_load (hr:=?_) | refine a_fieldAddr (hr:=?_) | refine a_nilCheck (hr:=?_) | refine a_bin (hr:=?_) | refine a_extract (hr:=?_) | refine a_pick (hr:=?_) | refine a_store (hr:=?_) | refine a_neB (hr:=?_) | refine a_conv (hr:=?_) | refine a_bytesStr (hr:=?_) | refine a_strBytes (hr:=?_) | refine a_sameSl (hr:=?_) | refine a_sliceArr (hr:=?_) | refine a_neS (hr:=?_) | refine a_sliceS (hr:=?_) | refine a_sliceR (hr:=?_) | refine a_callP (p := 100000) (hcall := h1) (hr:=?_) | refine a_callP (p := 100000) (hcall := h2) (hr:=?_) | refine a_callP (p := 100000) (hcall := h3) (hr:=?_) | refine a_gT (hr:=?_) | refine a_gF (hr:=?_) | refine a_gU (hr:=?_))
 | (with_reducible refine a_gB (hT := ?_) (hF := ?_) <;> intro hb <;> (try simp at hb) <;> (try contradiction) <;> (try subst hb) <;> (try omega))
 | fail)
      all_goals ((refine zzr hQ ?_))
      all_goals (exact Fin.keep (by simp; exact .r) (by simp; exact .r) (by simp; exact .r) (by simp))
  · simp only [ne_eq, he, not_false_iff, if_true]
    refine zzg (nt := 71) (rs := [.tmp 4]) Try.func39 ?_; intro Q hQ hW
    repeat' (first
 | (with_reducible refine run_n ?_; with_reducible first | refine hK _ _ (by simp) ?_ | refine hK _ _ ?_; clear hK K)
 | (refine zzc ?_)
 | (with_reducible refine awp_regT (by kernel_rfl) ?_; intro K hK)
 | (with_reducible refine awp_regAM (id := 13) [] mixed (by kernel_rfl) (by kernel_rfl) ?_; intro K hK)
 | (with_reducible refine a_cond (ht := ?_) (hf := ?_) <;> intro hb <;> (try simp at hb) <;> (try contradiction) <;> (try subst hb) <;> (try omega))
 | (with_reducible first | refine a_move (hr:=?_) | refine a_assign (hr:=?_) | refine a_load (hr:=?_) | refine a_fieldAddr (hr:=?_) | refine a_nilCheck (hr:=?_) | refine a_bin (hr:=?_) | refine a_extract (hr:=?_) | refine a_pick (hr:=?_) | refine a_store (hr:=?_) | refine a_neB (hr:=?_) | refine a_conv (hr:=?_) | refine a_bytesStr (hr:=?_) | refine a_strBytes (hr:=?_) | refine a_sameSl (hr:=?_) | refine a_sliceArr (hr:=?_) | refine a_neS (hr:=?_) | refine a_sliceS (hr:=?_) | refine a_sliceR (hr:=?_) | refine a_callP (p := 100000) (hcall := h1) (hr:=?_) | refine a_gT (hr:=?_) | refine a_gF (hr:=?_) | refine a_gU (hr:=?_))
 | (with_reducible refine a_gB (hT := ?_) (hF := ?_) <;> intro hb <;> (try simp at hb) <;> (try contradiction) <;> (try subst hb) <;> (try omega))
 | fail)
    (refine zzr hQ ?_)
    exact Fin.keep (by simp; exact .r) (by simp; exact .r) (by simp; exact .r) (by simp)
theorem c_JoinT (ps : List (List Int)) (hb : ps.flatten.length ≤ 140737488355328) (hn : ps.length < 9223372036854775808) : CallD Try.prog 38 [.sl 1 (rws ps)] noHeap (.sl 1 (u8s ps.flatten)) noHeap := by
  have := (c_Join ps hb hn).told (by simp) (by simp)
  simpa [List.take_of_length_le] using this
theorem c_Read (bs : List Int) (hb' : bs.length ≤ 140737488351232) : CallD Try.prog 24 [.sl 1 (u8s bs)] noHeap (.ptr 99999 0) (setH noHeap 99999 (.box (rdAV bs 0 0))) := by
  have hj := c_JoinT [bs] (by simp; omega) (by simp)
  simp only [rws_cons, rws_nil, List.flatten_cons, List.flatten_nil, List.append_nil] at hj
  refine zzg (nt := 8) (rs := [.tmp 2]) Try.func24 ?_; intro Q hQ hW
  repeat' (first
 | (with_reducible refine run_n ?_; with_reducible first | refine hK _ _ (by simp) ?_ | refine hK _ _ ?_; clear hK K)
 | (refine zzc ?_)
 | (with_reducible refine awp_regT (by kernel_rfl) ?_; intro K hK)
 | (with_reducible refine a_cond (ht := ?_) (hf := ?_) <;> intro hb <;> (try simp at hb) <;> (try contradiction) <;> (try subst hb) <;> (try omega))
 | (with_reducible first | refine a_move (hr:=?_) | refine a_assign (hr:=?_) | refine a_box (hr:=?_) | refine a_eqP (hr:=?_) | refine a_neP (hr:=?_) | refine a_build (hr:=?_) | refine a_buildSlice (hr:=?_) | refine a_callF (hcall := hj) (hr:=?_))
 | fail)
  (refine zzr hQ ?_)
  exact Fin.box (by simp; exact .r) (by simp; exact .r) (by decide) (by simp)
end Go.Proofs.Ytejeemhenoobjaa.Asl

namespace Go.Proofs.Ytejeemhenoobjaa.Asl
open Go Go.RowKit
set_option linter.unusedVariables false
set_option linter.unusedSimpArgs false
set_option maxRecDepth 100000
set_option maxHeartbeats 2000000
attribute [-simp] List.length_flatten in
theorem c_rJoin (ps : List (List Int)) (hb : ps.flatten.length ≤ 140737488355328) (hn : ps.length < 9223372036854775808) : CallD Try.prog 17 [.sl 1 (rws ps)] noHeap (.ow 99999 1 0 ps.flatten.length) (setH noHeap 99999 (.arr 1 (u8s ps.flatten))) := by
  refine zzg (nt := 18) (rs := [.tmp 2]) Try.func17 ?_; intro Q hQ hW
  repeat' (first
 | (with_reducible refine run_n ?_; with_reducible first | refine hK _ _ (by simp) ?_ | refine hK _ _ ?_; clear hK K)
 | (refine zzc ?_)
 | (with_reducible refine awp_regT (by kernel_rfl) ?_; intro K hK)
 | (with_reducible refine a_cond (ht := ?_) (hf := ?_) <;> intro hb <;> (try simp at hb) <;> (try contradiction) <;> (try subst hb) <;> (try omega))
 | (with_reducible first | refine a_move (hr:=?_) | refine a_assign (hr:=?_) | refine a_load (hr:=?_) | refine a_bin (hr:=?_) | refine a_lenS (hr:=?_) | refine a_lenR (hr:=?_) | refine a_idxArr (hr:=?_) | refine a_indexAddr (hr:=?_) | refine a_buildSlice (hr:=?_) | refine a_append (hr:=?_) | refine a_append0 (hr:=?_) | refine a_appendX (hr:=?_))
 | fail)
  refine awp_inv (α := Nat) (fun i => [(3, .ow 60 1 0 (ps.take i).flatten.length), (7, .sl 1 (rws ps)), (8, .raw (.int .i64 ps.length)), (9, .raw (.int .i64 i))]) (fun i => hpL [(60, .arr 1 (u8s (ps.take i).flatten))]) (fun i => i ≤ ps.length) (fun i => ps.length - i) 0 (by simp) (zzx 60 6) ?_
  intro i hi
  have hle := flat_le ps i
  rcases Nat.lt_or_ge i ps.length with hlt | hge
  · have hx := List.getElem?_eq_getElem hlt
    generalize ps[i] = p at hx
    have hft := flat_take ps i p hx
    have hfl := flat_le ps (i + 1)
    rw [hft, List.length_append] at hfl
    repeat' (first
 | (with_reducible refine run_n ?_; with_reducible first | refine hK _ _ (by simp) ?_ | refine hK _ _ ?_; clear hK K)
 | (refine zzc ?_)
 | (with_reducible refine awp_regT (by kernel_rfl) ?_; intro K hK)
 | (with_reducible refine a_cond (ht := ?_) (hf := ?_) <;> intro hb <;> (try simp at hb) <;> (try contradiction) <;> (try subst hb) <;> (try omega))
 | (with_reducible first | refine a_move (hr:=?_) | refine a_assign (hr:=?_) | refine a_load (hr:=?_) | refine a_bin (hr:=?_) | refine a_lenS (hr:=?_) | refine a_lenR (hr:=?_) | refine a_idxArr (hr:=?_) | refine a_indexAddr (hr:=?_) | refine a_buildSlice (hr:=?_) | refine a_append (hr:=?_) | refine a_append0 (hr:=?_) | refine a_appendX (hr:=?_))
 | fail)
    exact ⟨i + 1, by omega, by omega, weak_or 60 15 (by decide) (by decide) (by repeat' (first | exact sub_hpL (by simp [hft]))) (by simp) (by simp [hft])⟩
  · obtain rfl : i = ps.length := by omega
    repeat' (first
 | (with_reducible refine run_n ?_; with_reducible first | refine hK _ _ (by simp) ?_ | refine hK _ _ ?_; clear hK K)
 | (refine zzc ?_)
 | (with_reducible refine awp_regT (by kernel_rfl) ?_; intro K hK)
 | (with_reducible refine a_cond (ht := ?_) (hf := ?_) <;> intro hb <;> (try simp at hb) <;> (try contradiction) <;> (try subst hb) <;> (try omega))
 | (with_reducible first | refine a_move (hr:=?_) | refine a_assign (hr:=?_) | refine a_load (hr:=?_) | refine a_bin (hr:=?_) | refine a_lenS (hr:=?_) | refine a_lenR (hr:=?_) | refine a_idxArr (hr:=?_) | refine a_indexAddr (hr:=?_) | refine a_buildSlice (hr:=?_) | refine a_append (hr:=?_) | refine a_append0 (hr:=?_) | refine a_appendX (hr:=?_))
 | fail)
    (refine zzr hQ ?_)
    simp only [List.take_length]
    exact Fin.row (by simp; exact .r) (by simp; exact .r) (by decide) (by simp)
theorem c_rJoinT (ps : List (List Int)) (hb : ps.flatten.length ≤ 140737488355328) (hn : ps.length < 9223372036854775808) : CallD Try.prog 17 [.sl 1 (rws ps)] noHeap (.sl 1 (u8s ps.flatten)) noHeap := by
  have := (c_rJoin ps hb hn).told (by simp) (by simp)
  simpa [List.take_of_length_le] using this
theorem c_rUintF : ∀ (f : Nat) (n : Int), f ≤ 9 → 0 ≤ n → n < 128 ^ (f + 1) → n < 18446744073709551616 → CallD Try.prog 37 [.raw (.int .u64 n)] noHeap (.sl 1 (u8s (enc f n))) noHeap := by
  intro f
  induction f with
  | zero =>
    intro n _ h0 h1 h2
    simp at h1
    simp only [enc]
    refine zzg (nt := 18) (rs := [.tmp 2]) Try.func37 ?_; intro Q hQ hW
    repeat' (first
 | (with_reducible refine run_n ?_; with_reducible first | refine hK _ _ (by simp) ?_ | refine hK _ _ ?_; clear hK K)
 | (refine zzc ?_)
 | (with_reducible refine awp_regT (by kernel_rfl) ?_; intro K hK)
 | (with_reducible refine a_cond (ht := ?_) (hf := ?_) <;> intro hb <;> (try simp at hb) <;> (try contradiction) <;> (try subst hb) <;> (try omega))
 | (with_reducible first | refine a_move (hr:=?_) | refine a_assign (hr:=?_) | refine a_remU (hr:=?_) | refine a_quoU (hr:=?_) | refine a_bin (hr:=?_) | refine a_conv (hr:=?_) | refine a_bytesStr (hr:=?_) | refine a_strBytes (hr:=?_) | refine a_sameSl (hr:=?_) | refine a_buildSlice (hr:=?_))
 | fail)
    (refine zzr hQ ?_)
    exact Fin.frzR (by simp; exact .r) (by simp; exact .r) (by simp; exact .r) (by simp)
  | succ f ih =>
    intro n hf h0 h1 h2
    rw [enc]
    by_cases h : 128 ≤ n
    · rw [if_pos h]
      have hih := ih (n / 128) (by omega) (by omega) (by rw [Int.pow_succ] at h1; exact Int.ediv_lt_of_lt_mul (by decide) h1) (by omega)
      have hl := (enc_len f (n / 128)).1
      generalize enc f (n / 128) = m at hih hl ⊢
      have hj : CallD Try.prog 17 [.sl 1 [.sl 1 [.raw (.int .u8 (n % 128 + 128))], .sl 1 (u8s m)]] noHeap (.sl 1 (u8s ((n % 128 + 128) :: m))) noHeap := by
        have := c_rJoinT [[n % 128 + 128], m] (by simp; omega) (by simp)
        simp only [List.flatten_cons, List.flatten_nil, List.append_nil, List.singleton_append] at this
        exact this
      refine zzg (nt := 18) (rs := [.tmp 2]) Try.func37 ?_; intro Q hQ hW
      repeat' (first
 | (with_reducible refine run_n ?_; with_reducible first | refine hK _ _ (by simp) ?_ | refine hK _ _ ?_; clear hK K)
 | (refine zzc ?_)
 | (with_reducible refine awp_regT (by kernel_rfl) ?_; intro K hK)
 | (with_reducible refine a_cond (ht := ?_) (hf := ?_) <;> intro hb <;> (try simp at hb) <;> (try contradiction) <;> (try subst hb) <;> (try omega))
 | (with_reducible first | refine a_move (hr:=?_) | refine a_assign (hr:=?_) | refine a_remU (hr:=?_) | refine a_quoU (hr:=?_) | refine a_bin (hr:=?_) | refine a_conv (hr:=?_) | refine a_bytesStr (hr:=?_) | refine a_strBytes (hr:=?_) | refine a_sameSl (hr:=?_) | refine a_buildSlice (hr:=?_) | refine a_callN (hcall := hih) (hr:=?_) | refine a_callF (hcall := hj) (hr:=?_))
 | fail)
      (refine zzr hQ ?_)
      exact zzd
    · rw [if_neg h]
      refine zzg (nt := 18) (rs := [.tmp 2]) Try.func37 ?_; intro Q hQ hW
      repeat' (first
 | (with_reducible refine run_n ?_; with_reducible first | refine hK _ _ (by simp) ?_ | refine hK _ _ ?_; clear hK K)
 | (refine zzc ?_)
 | (with_reducible refine awp_regT (by kernel_rfl) ?_; intro K hK)
 | (with_reducible refine a_cond (ht := ?_) (hf := ?_) <;> intro hb <;> (try simp at hb) <;> (try contradiction) <;> (try subst hb) <;> (try omega))
 | (with_reducible first | refine a_move (hr:=?_) | refine a_assign (hr:=?_) | refine a_remU (hr:=?_) | refine a_quoU (hr:=?_) | refine a_bin (hr:=?_) | refine a_conv (hr:=?_) | refine a_bytesStr (hr:=?_) | refine a_strBytes (hr:=?_) | refine a_sameSl (hr:=?_) | refine a_buildSlice (hr:=?_))
 | fail)
      (refine zzr hQ ?_)
      exact Fin.frzR (by simp; exact .r) (by simp; exact .r) (by simp; exact .r) (by simp)
end Go.Proofs.Ytejeemhenoobjaa.Asl

namespace Go.Proofs.Ytejeemhenoobjaa.Asl
open Go Go.RowKit
set_option linter.unusedVariables false
set_option linter.unusedSimpArgs false
variable {P : Program} {e : Nat → AV} {h : Hp}
theorem RV.nilsl {C : Cx} {sz : Nat} {v : Value} (k : RV C (AV.raw (.slice none 0 0)) v) : RV C (.sl sz []) v := by
  rw [RV.raw_eq k]; exact .sl0
end Go.Proofs.Ytejeemhenoobjaa.Asl

namespace Go.Proofs.Ytejeemhenoobjaa.Asl
open Go Go.RowKit
set_option linter.unusedVariables false
set_option linter.unusedSimpArgs false
set_option maxRecDepth 100000
set_option maxHeartbeats 2000000
theorem c_rUintT (n : Int) (h0 : 0 ≤ n) (h1 : n < 18446744073709551616) : CallD Try.prog 37 [.raw (.int .u64 n)] noHeap (.sl 1 (u8s (enc 9 n))) noHeap := by
  have e : (128 : Int) ^ (9 + 1) = 1180591620717411303424 := by decide
  exact c_rUintF 9 n (by decide) h0 (by rw [e]; omega) h1
@[simp] theorem bytes_take (s : ByteArray) : (bytesOf s).take s.size = bytesOf s := List.take_of_length_le (by rw [len_bytes]; exact Nat.le_refl _)
attribute [local simp] len_bytes
theorem c_rText (s : ByteArray) (hs : s.size ≤ 140737488351232) : CallD Try.prog 18 [.raw (.string s)] noHeap (.sl 1 (u8s (enc 9 s.size ++ bytesOf s))) noHeap := by
  have hl := (enc_len 9 s.size).1
  have hl2 := len_bytes s
  have hu := c_rUintT s.size (by omega) (by omega)
  have hj : CallD Try.prog 17 [.sl 1 [.sl 1 (u8s (enc 9 s.size)), .sl 1 (u8s (bytesOf s))]] noHeap (.sl 1 (u8s (enc 9 s.size ++ bytesOf s))) noHeap := by
    have := c_rJoinT [enc 9 s.size, bytesOf s] (by simp; omega) (by simp)
    simp only [List.flatten_cons, List.flatten_nil, List.append_nil] at this
    exact this
  refine zzg (nt := 11) (rs := [.tmp 2]) Try.func18 ?_; intro Q hQ hW
  repeat' (first
 | (with_reducible refine run_n ?_; with_reducible first | refine hK _ _ (by simp) ?_ | refine hK _ _ ?_; clear hK K)
 | (refine zzc ?_)
 | (with_reducible refine awp_regT (by kernel_rfl) ?_; intro K hK)
 | (with_reducible refine a_cond (ht := ?_) (hf := ?_) <;> intro hb <;> (try simp at hb) <;> (try contradiction) <;> (try subst hb) <;> (try omega))
 | (with_reducible first | refine a_move (hr:=?_) | refine a_assign (hr:=?_) | refine a_lenS (hr:=?_) | refine a_lenR (hr:=?_) | refine a_conv (hr:=?_) | refine a_bytesStr (hr:=?_) | refine a_strBytes (hr:=?_) | refine a_sameSl (hr:=?_) | refine a_buildSlice (hr:=?_) | refine a_callN (hcall := hu) (hr:=?_) | refine a_callF (hcall := hj) (hr:=?_))
 | fail)
  (refine zzr hQ ?_)
  exact zzd
theorem strOf_inj {a b : List Int} (ha : IsB a) (hb : IsB b) (h : strOfNums a = strOfNums b) : a = b := by
  have := congrArg bytesOf h
  rwa [bytes_of_nums ha, bytes_of_nums hb] at this
theorem c_rEqual (a b : List Int) (ha : a.length < 9223372036854775808) (hb : b.length < 9223372036854775808) (hA : IsB a) (hB : IsB b) : CallD Try.prog 10 [.sl 1 (u8s a), .sl 1 (u8s b)] noHeap (.raw (.bool (decide (a = b)))) noHeap := by
  have he : decide (a = b) = decide (strOfNums a = strOfNums b) := by
    rw [decide_eq_decide]
    exact ⟨fun h => by rw [h], strOf_inj hA hB⟩
  rw [he]
  refine zzg (nt := 10) (rs := [.tmp 4]) Try.func10 ?_; intro Q hQ hW
  repeat' (first
 | (with_reducible refine run_n ?_; with_reducible first | refine hK _ _ (by simp) ?_ | refine hK _ _ ?_; clear hK K)
 | (refine zzc ?_)
 | (with_reducible refine awp_regT (by kernel_rfl) ?_; intro K hK)
 | (with_reducible refine a_cond (ht := ?_) (hf := ?_) <;> intro hb <;> (try simp at hb) <;> (try contradiction) <;> (try subst hb) <;> (try omega))
 | (with_reducible first | refine a_move (hr:=?_) | refine a_assign (hr:=?_) | refine a_bin (hr:=?_) | refine a_eqB (hr:=?_) | refine a_conv (hr:=?_) | refine a_bytesStr (hr:=?_) | refine a_strBytes (hr:=?_) | refine a_sameSl (hr:=?_) | refine a_eqS (hr:=?_))
 | fail)
  (refine zzr hQ ?_)
  exact zzd
theorem c_rEqualT (a : List Int) (ha : a.length < 9223372036854775808) (hA : IsB a) : CallD Try.prog 10 [.sl 1 (u8s a), .sl 1 (u8s a)] noHeap (.raw (.bool true)) noHeap := by
  have := c_rEqual a a ha ha hA hA
  simpa using this
end Go.Proofs.Ytejeemhenoobjaa.Asl
namespace Go.Proofs.Ytejeemhenoobjaa.Asl
open Go Go.RowKit
set_option linter.unusedVariables false
set_option linter.unusedSimpArgs false
set_option maxRecDepth 100000
set_option maxHeartbeats 4000000
attribute [local simp] len_bytes
def val : List Int → Int
  | [] => 0
  | c :: l => c % 128 + 128 * val l
end Go.Proofs.Ytejeemhenoobjaa.Asl

namespace Go.Proofs.Ytejeemhenoobjaa.Asl
open Go Go.RowKit
set_option linter.unusedVariables false
set_option linter.unusedSimpArgs false
set_option maxRecDepth 100000
set_option maxHeartbeats 4000000
@[simp] theorem u8s_tail (l : List Int) : (u8s l).tail = u8s l.tail := by cases l <;> rfl
end Go.Proofs.Ytejeemhenoobjaa.Asl

namespace Go.Proofs.Ytejeemhenoobjaa.Asl
open Go Go.RowKit
set_option linter.unusedVariables false
set_option linter.unusedSimpArgs false
set_option maxRecDepth 100000
set_option maxHeartbeats 4000000
theorem nxA_add {α : Type} (a : Nat) (e : Int) (d : α × Nat × Int) : nxA a e d = a + nxA 0 e d := by unfold nxA; split <;> omega
theorem dU_le {l : List Int} (hB : IsB l) (most : Int) : (dU l most).2.1 ≤ l.length := by
  have ho := dec_ok0 hB
  unfold dU
  repeat' split
  all_goals simp <;> omega
theorem dT_le {l : List Int} (hB : IsB l) (most : Int) : (dT l most).2.1 ≤ l.length := by
  have ho := dec_ok0 hB
  unfold dT
  repeat' split
  all_goals simp <;> omega
theorem nxA_le {α : Type} (e : Int) (d : α × Nat × Int) {n : Nat} (h : d.2.1 ≤ n) : nxA 0 e d ≤ n := by unfold nxA; split <;> omega
theorem dB_range {l : List Int} (hB : IsB l) : 0 ≤ (dB l).1 ∧ (dB l).1 ≤ 255 := by
  cases l with
  | nil => exact ⟨Int.le_refl _, by decide⟩
  | cons c l => exact (isB_cons.1 hB).1
end Go.Proofs.Ytejeemhenoobjaa.Asl

namespace Go.Proofs.Ytejeemhenoobjaa.Asl
open Go Go.RowKit
set_option linter.unusedVariables false
set_option linter.unusedSimpArgs false
set_option maxRecDepth 100000
set_option maxHeartbeats 4000000
/-- What is left, and the error. -/
abbrev RSt := List Int × Int
def sU (most : Int) (s : RSt) : Int × RSt := (if s.2 ≠ 0 then 0 else (dU s.1 most).1, s.1.drop (nxA 0 s.2 (dU s.1 most)), nxE s.2 (dU s.1 most))
def sB (s : RSt) : Int × RSt := (if s.2 ≠ 0 then 0 else (dB s.1).1, s.1.drop (nxA 0 s.2 (dB s.1)), nxE s.2 (dB s.1))
def sT (most : Int) (s : RSt) : ByteArray × RSt := (if s.2 ≠ 0 then ⟨#[]⟩ else strOfNums (dT s.1 most).1, s.1.drop (nxA 0 s.2 (dT s.1 most)), nxE s.2 (dT s.1 most))
structure At (bs : List Int) (a : Nat) (l : List Int) : Prop where
  le : a ≤ bs.length
  eq : bs.drop a = l
  isB : IsB bs
  lt : bs.length < 4611686018427387904
theorem At.step {bs : List Int} {a : Nat} {l : List Int} (h : At bs a l) {α : Type} (e : Int) (d : α × Nat × Int) (hd : d.2.1 ≤ l.length) : At bs (nxA a e d) (l.drop (nxA 0 e d)) := by
  have h1 := nxA_le e d hd
  have h2 := h.le
  have h3 : l.length = bs.length - a := by rw [← h.eq, List.length_drop]
  have h4 := nxA_add a e d
  exact ⟨by omega, by rw [h4, ← List.drop_drop, h.eq], h.isB, h.lt⟩
theorem At.b {bs : List Int} {a : Nat} {l : List Int} (h : At bs a l) : IsB l := by rw [← h.eq]; exact isB_drop h.isB a
theorem At.len {bs : List Int} {a : Nat} {l : List Int} (h : At bs a l) : l.length ≤ bs.length := by rw [← h.eq, List.length_drop]; omega
theorem x_U {bs : List Int} {a : Nat} {l : List Int} (h : At bs a l) (e most : Int) : ∃ a', At bs a' (sU most (l, e)).2.1 ∧ CallD Try.prog 49 [.ptr 100000 0, .raw (.int .u64 most)] (rdH bs a e) (.raw (.int .u64 (sU most (l, e)).1)) (rdH bs a' (sU most (l, e)).2.2) := by
  have h1 := c_RdUint bs a e most h.isB (by have := h.lt; omega) h.le
  rw [h.eq] at h1
  exact ⟨_, h.step e _ (dU_le h.b most), h1⟩
theorem x_B {bs : List Int} {a : Nat} {l : List Int} (h : At bs a l) (e : Int) : ∃ a', At bs a' (sB (l, e)).2.1 ∧ CallD Try.prog 43 [.ptr 100000 0] (rdH bs a e) (.raw (.int .u8 (sB (l, e)).1)) (rdH bs a' (sB (l, e)).2.2) := by
  have h1 := c_RdByte bs a e h.isB (by have := h.lt; omega) h.le
  rw [h.eq] at h1
  exact ⟨_, h.step e _ (by cases l <;> simp [dB]), h1⟩
theorem x_T {bs : List Int} {a : Nat} {l : List Int} (h : At bs a l) (e most : Int) (hm : -9223372036854775808 ≤ most ∧ most < 9223372036854775808) : ∃ a', At bs a' (sT most (l, e)).2.1 ∧ CallD Try.prog 39 [.ptr 100000 0, .raw (.int .i64 most)] (rdH bs a e) (.raw (.string (sT most (l, e)).1)) (rdH bs a' (sT most (l, e)).2.2) := by
  have h1 := c_RdText bs a e most h.isB (by have := h.lt; omega) h.le hm
  rw [h.eq] at h1
  exact ⟨_, h.step e _ (dT_le h.b most), h1⟩
theorem r_U {l : List Int} (hB : IsB l) (e : Int) {most : Int} (hm : 0 ≤ most ∧ most < 18446744073709551616) : 0 ≤ (sU most (l, e)).1 ∧ (sU most (l, e)).1 ≤ most := by
  have ho := dec_ok0 hB
  simp only [sU, dU]
  repeat' split
  all_goals (first | omega | (simp; omega))
theorem r_B {l : List Int} (hB : IsB l) (e : Int) : 0 ≤ (sB (l, e)).1 ∧ (sB (l, e)).1 ≤ 255 := by
  have := dB_range hB
  simp only [sB]
  split <;> omega
theorem size_strOf (l : List Int) : (strOfNums l).size = l.length := by
  unfold strOfNums; show (List.toArray _).size = _; simp
end Go.Proofs.Ytejeemhenoobjaa.Asl

namespace Go.Proofs.Ytejeemhenoobjaa.Asl
open Go Go.RowKit
set_option linter.unusedVariables false
set_option linter.unusedSimpArgs false
set_option maxRecDepth 100000
set_option maxHeartbeats 4000000
abbrev valAV (k n : Int) (s : ByteArray) : AV := .agg [.raw (.int .i64 k), .raw (.int .i64 n), .raw (.string s)]
theorem c_VInt (n : Int) : CallD Try.prog 42 [.raw (.int .i64 n)] noHeap (valAV 1 n ⟨#[]⟩) noHeap := by
  refine zzg (nt := 5) (rs := [.cell 2 84]) Try.func42 ?_; intro Q hQ hW
  repeat' (first
 | (with_reducible refine run_n ?_; with_reducible first | refine hK _ _ (by simp) ?_ | refine hK _ _ ?_; clear hK K)
 | (refine zzc ?_)
 | (with_reducible refine awp_regT (by kernel_rfl) ?_; intro K hK)
 | (with_reducible refine a_cond (ht := ?_) (hf := ?_) <;> intro hb <;> (try simp at hb) <;> (try contradiction) <;> (try subst hb) <;> (try omega))
 | (with_reducible first | refine a_move (hr:=?_) | refine a_store (hr:=?_) | refine a_alloc (hr:=?_) | refine a_build (hr:=?_))
 | fail)
  all_goals ((refine zzr hQ ?_))
  all_goals (exact zzd)
end Go.Proofs.Ytejeemhenoobjaa.Asl

namespace Go.Proofs.Ytejeemhenoobjaa.Asl
open Go Go.RowKit
set_option linter.unusedVariables false
set_option linter.unusedSimpArgs false
set_option maxRecDepth 100000
set_option maxHeartbeats 4000000
attribute [local simp] len_bytes
theorem dec_encV {n : Int} (h0 : 0 ≤ n) (h1 : n < 18446744073709551616) (r : List Int) : dec (enc 9 n ++ r) 0 0 = (n, ((enc 9 n).length : Int), 0) := by
  have := dec_enc 9 0 n 0 r rfl h0 (fun h => absurd h (by decide)) (by simpa using h1)
  simpa using this
theorem dT_enc {s : ByteArray} {most : Int} (h0 : (s.size : Int) ≤ most) (hs : s.size ≤ 140737488351232) (r : List Int) : dT (enc 9 s.size ++ bytesOf s ++ r) most = (bytesOf s, (enc 9 s.size).length + s.size, 0) := by
  have hd := dec_encV (n := s.size) (by omega) (by omega) (bytesOf s ++ r)
  rw [← List.append_assoc] at hd
  have hl := len_bytes s
  unfold dT
  rw [hd]
  rw [if_neg (by simp), if_neg (by simp; omega), if_neg (by simp [hl]; omega)]
  simp only [Int.toNat_natCast]
  rw [List.append_assoc, List.drop_left, List.take_append_of_le_length (by omega), List.take_of_length_le (by omega)]
  refine Prod.ext rfl (Prod.ext ?_ rfl)
  show ((((enc 9 s.size).length : Nat) : Int) + ((s.size : Nat) : Int)).toNat = (enc 9 s.size).length + s.size
  omega
theorem dT_form {l : List Int} (hB : IsB l) {most : Int} (h : (dT l most).2.2 = 0) : enc 9 (strOfNums (dT l most).1).size ++ bytesOf (strOfNums (dT l most).1) = l.take (dT l most).2.1 := by
  have ho := dec_ok0 hB
  have hf := dec_form 9 0 l 0
  have hz : ∀ m : List Int, (strOfNums m).size = m.length := fun m => by unfold strOfNums; show (List.toArray _).size = _; simp
  unfold dT at h ⊢
  generalize dec l 0 0 = d at ho hf h ⊢
  obtain ⟨N, K, E⟩ := d
  simp only at ho h ⊢
  obtain ⟨o1, o2, o3, o4, o5, o6, o7⟩ := ho
  by_cases hE : E = 0
  · subst hE
    obtain ⟨n, f1, f2, f3, f4, f5, f6⟩ := hf N K rfl hB rfl
    have hN : N = n := by simpa using f4
    have hK : K.toNat = (enc 9 n).length := by omega
    rw [if_neg (by simp)] at h ⊢
    by_cases c2 : most < 0 ∨ most < N
    · rw [if_pos c2] at h; exact absurd h (by decide)
    rw [if_neg c2] at h ⊢
    by_cases c3 : (l.length : Int) - K < N
    · rw [if_pos c3] at h; exact absurd h (by decide)
    rw [if_neg c3] at h ⊢
    simp only
    rw [hz, bytes_of_nums (isB_take (isB_drop hB _) _), List.length_take, List.length_drop]
    have hmin : ((min N.toNat (l.length - K.toNat) : Nat) : Int) = n := by omega
    rw [hmin]
    have e1 : (K + N).toNat = (enc 9 n).length + N.toNat := by omega
    rw [e1, hK, List.take_add]
    congr 1
    conv => rhs; rw [f6]
    rw [List.take_left]
  · simp [hE] at h
end Go.Proofs.Ytejeemhenoobjaa.Asl

namespace Go.Proofs.Ytejeemhenoobjaa.Asl
open Go Go.RowKit
set_option linter.unusedVariables false
set_option linter.unusedSimpArgs false
set_option maxRecDepth 100000
set_option maxHeartbeats 4000000
theorem dec_enc0 {n : Int} (h0 : 0 ≤ n) (h1 : n < 18446744073709551616) (r : List Int) : dec (enc 9 n ++ r) 0 0 = (n, ((enc 9 n).length : Int), 0) := by
  have := dec_enc 9 0 n 0 r rfl h0 (fun h => absurd h (by decide)) (by simpa using h1)
  simpa using this
theorem dec_cut0 {n : Int} (h0 : 0 ≤ n) (h1 : n < 18446744073709551616) {m : Nat} (hm : m < (enc 9 n).length) : dec ((enc 9 n).take m) 0 0 = (0, 0, 6) :=
  dec_cut 9 0 n 0 m rfl h0 (fun h => absurd h (by decide)) (by simpa using h1) hm
theorem dU_cut {n : Int} (h0 : 0 ≤ n) (h1 : n < 18446744073709551616) {m : Nat} (hm : m < (enc 9 n).length) (most : Int) : dU ((enc 9 n).take m) most = (0, 0, 6) := by
  simp [dU, dec_cut0 h0 h1 hm]
end Go.Proofs.Ytejeemhenoobjaa.Asl

namespace Go.Proofs.Ytejeemhenoobjaa.Asl
open Go Go.RowKit
set_option linter.unusedVariables false
set_option linter.unusedSimpArgs false
set_option maxRecDepth 100000
set_option maxHeartbeats 4000000
abbrev txtL (s : ByteArray) : List Int := enc 9 s.size ++ bytesOf s
theorem txtL_len (s : ByteArray) : (txtL s).length ≤ s.size + 10 := by
  have := (enc_len 9 s.size).1
  rw [List.length_append, len_bytes]; omega
theorem sU_put {n most : Int} (h0 : 0 ≤ n) (h1 : n ≤ most) (h2 : n < 18446744073709551616) (r : List Int) : sU most (enc 9 n ++ r, 0) = (n, (r, 0)) := by
  have hm : ¬ most < n := by omega
  have hd : dU (enc 9 n ++ r) most = (n, (enc 9 n).length, 0) := by simp [dU, dec_encV h0 h2, hm]
  simp only [sU, hd, nxA, nxE]
  simp
theorem sT_put {s : ByteArray} {most : Int} (h : (s.size : Int) ≤ most) (hs : s.size ≤ 140737488351232) (r : List Int) : sT most (txtL s ++ r, 0) = (s, (r, 0)) := by
  have hd := dT_enc h hs r
  have hl : (enc 9 s.size).length + s.size = (txtL s).length := by simp [txtL, len_bytes]
  simp only [sT, hd, nxA, nxE]
  simp only [ne_eq, not_true_eq_false, if_false, nums_of_bytes, Nat.zero_add, hl, List.drop_left, if_true]
theorem sB_put (c : Int) (r : List Int) : sB (c :: r, 0) = (c, (r, 0)) := by simp [sB, dB, nxA, nxE]
theorem dU_form {l : List Int} (hB : IsB l) {most : Int} (h : (dU l most).2.2 = 0) : enc 9 (dU l most).1 = l.take (dU l most).2.1 ∧ 0 ≤ (dU l most).1 ∧ (dU l most).1 ≤ most := by
  have ho := dec_ok0 hB
  have hf := dec_form 9 0 l 0
  unfold dU at h ⊢
  generalize dec l 0 0 = d at ho hf h ⊢
  obtain ⟨N, K, E⟩ := d
  simp only at ho h ⊢
  obtain ⟨o1, o2, o3, o4, o5, o6, o7⟩ := ho
  by_cases hE : E = 0
  · subst hE
    rw [if_neg (by simp)] at h ⊢
    by_cases c2 : most < N
    · rw [if_pos c2] at h; exact absurd h (by decide)
    rw [if_neg c2] at h ⊢
    obtain ⟨n, f1, f2, f3, f4, f5, f6⟩ := hf N K rfl hB rfl
    have hN : N = n := by simpa using f4
    have hK : K.toNat = (enc 9 n).length := by omega
    refine ⟨?_, o1, by simp only; omega⟩
    simp only
    rw [hN, hK]
    conv => rhs; rw [f6]
    rw [List.take_left]
  · simp [hE] at h
theorem sU_form {l : List Int} {e most : Int} (hB : IsB l) (h : (sU most (l, e)).2.2 = 0) : e = 0 ∧ l = enc 9 (sU most (l, e)).1 ++ (sU most (l, e)).2.1 ∧ 0 ≤ (sU most (l, e)).1 ∧ (sU most (l, e)).1 ≤ most := by
  by_cases he : e = 0
  · subst he
    have h' : (dU l most).2.2 = 0 := by simpa [sU, nxE] using h
    obtain ⟨f1, f2, f3⟩ := dU_form hB h'
    have e1 : (sU most (l, 0)).1 = (dU l most).1 := by simp [sU]
    have e2 : (sU most (l, 0)).2.1 = l.drop (dU l most).2.1 := by simp [sU, nxA]
    rw [e1, e2]
    exact ⟨rfl, by rw [f1, List.take_append_drop], f2, f3⟩
  · simp [sU, nxE, he] at h
theorem sT_form {l : List Int} {e most : Int} (hB : IsB l) (h : (sT most (l, e)).2.2 = 0) : e = 0 ∧ l = txtL (sT most (l, e)).1 ++ (sT most (l, e)).2.1 := by
  by_cases he : e = 0
  · subst he
    have h' : (dT l most).2.2 = 0 := by simpa [sT, nxE] using h
    have f1 := dT_form hB h'
    have e1 : (sT most (l, 0)).1 = strOfNums (dT l most).1 := by simp [sT]
    have e2 : (sT most (l, 0)).2.1 = l.drop (dT l most).2.1 := by simp [sT, nxA]
    rw [e1, e2]
    exact ⟨rfl, by rw [txtL, f1, List.take_append_drop]⟩
  · simp [sT, nxE, he] at h
theorem sB_form {l : List Int} {e : Int} (h : (sB (l, e)).2.2 = 0) : e = 0 ∧ l = (sB (l, e)).1 :: (sB (l, e)).2.1 := by
  by_cases he : e = 0
  · subst he
    cases l with
    | nil => simp [sB, nxE, dB] at h
    | cons c l => exact ⟨rfl, by simp [sB, dB, nxA]⟩
  · simp [sB, nxE, he] at h
end Go.Proofs.Ytejeemhenoobjaa.Asl

namespace Go.Proofs.Ytejeemhenoobjaa.Asl
open Go Go.RowKit
set_option linter.unusedVariables false
set_option linter.unusedSimpArgs false
/-- A kind of values that lead to no object. -/
class FlatF {α : Type} (f : α → AV) : Prop where
  noid : ∀ x, (f x).noid = true
section
variable {α : Type} {f : α → AV} [hf : FlatF f]
@[simp] theorem map_noids (l : List α) : AV.noids (l.map f) = true := by
  rw [AV.noids_iff]; intro x hx
  obtain ⟨n, _, rfl⟩ := List.mem_map.1 hx
  exact hf.noid n
@[simp] theorem map_rows (l : List α) : AV.rowsOfs (l.map f) = [] := noid_rows.2 _ (map_noids l)
@[simp] theorem map_deeps (h : Hp) (l : List α) : AV.deeps h (l.map f) = l.map f := noid_deep.2 _ (map_noids l) h
@[simp] theorem map_withins (h : Hp) (l : List α) : AV.withins h (l.map f) = true := (noid_withins h).2 _ (map_noids l)
@[simp] theorem map_rens (π : Nat → Nat) (l : List α) : AV.rens π (l.map f) = l.map f := noid_ren.2 _ (map_noids l) π
theorem nds_app (a b : List AV) : AV.noids (a ++ b) = (AV.noids a && AV.noids b) := by
  induction a with
  | nil => rfl
  | cons x a ih => simp only [List.cons_append, AV.noids, ih, Bool.and_assoc]
theorem rws_app (a b : List AV) : AV.rowsOfs (a ++ b) = AV.rowsOfs a ++ AV.rowsOfs b := by
  induction a with
  | nil => rfl
  | cons x a ih => simp only [List.cons_append, AV.rowsOfs, ih, List.append_assoc]
theorem dps_app (h : Hp) (a b : List AV) : AV.deeps h (a ++ b) = AV.deeps h a ++ AV.deeps h b := by
  induction a with
  | nil => rfl
  | cons x a ih => simp only [List.cons_append, AV.deeps, ih]
theorem wth_app (h : Hp) (a b : List AV) : AV.withins h (a ++ b) = (AV.withins h a && AV.withins h b) := by
  induction a with
  | nil => rfl
  | cons x a ih => simp only [List.cons_append, AV.withins, ih, Bool.and_assoc]
theorem rns_app (π : Nat → Nat) (a b : List AV) : AV.rens π (a ++ b) = AV.rens π a ++ AV.rens π b := by
  induction a with
  | nil => rfl
  | cons x a ih => simp only [List.cons_append, AV.rens, ih]
@[simp] theorem mapp_noids (l : List α) (m : List AV) : AV.noids (l.map f ++ m) = AV.noids m := by rw [nds_app, map_noids, Bool.true_and]
@[simp] theorem mapp_rows (l : List α) (m : List AV) : AV.rowsOfs (l.map f ++ m) = AV.rowsOfs m := by rw [rws_app, map_rows, List.nil_append]
@[simp] theorem mapp_deeps (h : Hp) (l : List α) (m : List AV) : AV.deeps h (l.map f ++ m) = l.map f ++ AV.deeps h m := by rw [dps_app, map_deeps]
@[simp] theorem mapp_withins (h : Hp) (l : List α) (m : List AV) : AV.withins h (l.map f ++ m) = AV.withins h m := by rw [wth_app, map_withins, Bool.true_and]
@[simp] theorem mapp_rens (π : Nat → Nat) (l : List α) (m : List AV) : AV.rens π (l.map f ++ m) = l.map f ++ AV.rens π m := by rw [rns_app, map_rens]
end
end Go.Proofs.Ytejeemhenoobjaa.Asl

namespace Go.Proofs.Ytejeemhenoobjaa.Asl
open Go Go.RowKit
set_option linter.unusedVariables false
set_option linter.unusedSimpArgs false
set_option maxRecDepth 100000
set_option maxHeartbeats 4000000
structure NodeV where
  kd : Int
  nm : ByteArray
  up : Int
  tx : ByteArray
  ky : ByteArray
  to : ByteArray
  at_ : Int
  st : Bool
  deriving DecidableEq
structure FlowV where
  fr : Int
  to : Int
  cd : ByteArray
  el : Bool
  deriving DecidableEq
structure DefV where
  nm : ByteArray
  ns : List NodeV
  fs : List FlowV
  deriving DecidableEq
@[simp] def nodeAV (n : NodeV) : AV := .agg [.raw (.int .i64 n.kd), .raw (.string n.nm), .raw (.int .i64 n.up), .raw (.string n.tx), .raw (.string n.ky), .raw (.string n.to), .raw (.int .i64 n.at_), .raw (.bool n.st)]
@[simp] def flowAV (f : FlowV) : AV := .agg [.raw (.int .i64 f.fr), .raw (.int .i64 f.to), .raw (.string f.cd), .raw (.bool f.el)]
instance : FlatF nodeAV := ⟨fun x => by simp⟩
instance : FlatF flowAV := ⟨fun x => by simp⟩
abbrev defAV (d : DefV) : AV := .agg [.raw (.string d.nm), .sl 8 (d.ns.map nodeAV), .sl 4 (d.fs.map flowAV)]
def NodeV.z : NodeV := ⟨0, ⟨#[]⟩, 0, ⟨#[]⟩, ⟨#[]⟩, ⟨#[]⟩, 0, false⟩
def DefV.z : DefV := ⟨⟨#[]⟩, [], []⟩
def bitI (b : Bool) : Int := if b = true then 1 else 0
def nodeL (n : NodeV) : List Int := [n.kd % 256] ++ (txtL n.nm ++ (enc 9 (n.up + 1) ++ (txtL n.tx ++ (txtL n.ky ++ (txtL n.to ++ (enc 9 (n.at_ + 1) ++ [bitI n.st]))))))
def flowL (f : FlowV) : List Int := enc 9 f.fr ++ (enc 9 f.to ++ (txtL f.cd ++ [bitI f.el]))
def magicL : List Int := [98, 112, 49]
def defL (d : DefV) : List Int := magicL ++ (txtL d.nm ++ (enc 9 d.ns.length ++ (d.ns.flatMap nodeL ++ (enc 9 d.fs.length ++ d.fs.flatMap flowL))))
def longN (n : NodeV) : Bool := decide (128 < n.nm.size) || decide (128 < n.tx.size) || decide (128 < n.ky.size) || decide (128 < n.to.size)
def longF (f : FlowV) : Bool := decide (128 < f.cd.size)
def argN (n : NodeV) : Bool := decide (n.kd < 0 ∨ 255 < n.kd) || decide (n.up < -1 ∨ 254 < n.up) || decide (n.at_ < -1 ∨ 254 < n.at_)
def argF (f : FlowV) : Bool := decide (f.fr < 0 ∨ 254 < f.fr) || decide (f.to < 0 ∨ 254 < f.to)
def longD (d : DefV) : Bool := decide (128 < d.nm.size) || d.ns.any longN || d.fs.any longF
def argD (d : DefV) : Bool := d.ns.any argN || d.fs.any argF
/-- What is wrong with a process, or its bytes. -/
def putD (d : DefV) : List Int × Int := if (40 < d.ns.length ∨ 80 < d.fs.length) ∨ longD d = true then ([], 3) else if argD d = true then ([], 1) else (defL d, 0)
/-! what is read -/
/-- A node that is read: what it is, what is left, the reader's error, the last truth's byte. -/
def nodeS (s : RSt) : NodeV × Int × RSt :=
  let r1 := sB s
  let r2 := sT 128 r1.2
  let r3 := sU 255 r2.2
  let r4 := sT 128 r3.2
  let r5 := sT 128 r4.2
  let r6 := sT 128 r5.2
  let r7 := sU 255 r6.2
  let r8 := sB r7.2
  (⟨r1.1, r2.1, r3.1 - 1, r4.1, r5.1, r6.1, r7.1 - 1, decide (r8.1 = 1)⟩, r8.1, r8.2)
def flowS (s : RSt) : FlowV × Int × RSt :=
  let r1 := sU 254 s
  let r2 := sU 254 r1.2
  let r3 := sT 128 r2.2
  let r4 := sB r3.2
  (⟨r1.1, r2.1, r3.1, decide (r4.1 = 1)⟩, r4.1, r4.2)
/-- What is wrong with a thing that ends with a truth: the reader's error, or that the truth is none. -/
def wrE (c e : Int) : Int := if e ≠ 0 then e else if 1 < c then 1 else 0
/-- So many nodes: what they are, where and what is wrong, what is left. -/
def nodesS : Nat → Nat → RSt → List NodeV → List NodeV × Option (Nat × Int) × RSt
  | 0, _, s, out => (out, none, s)
  | k + 1, i, s, out => if wrE (nodeS s).2.1 (nodeS s).2.2.2 ≠ 0 then (out ++ [(nodeS s).1], some (i, wrE (nodeS s).2.1 (nodeS s).2.2.2), (nodeS s).2.2) else nodesS k (i + 1) (nodeS s).2.2 (out ++ [(nodeS s).1])
def flowsS : Nat → Nat → RSt → List FlowV → List FlowV × Option (Nat × Int) × RSt
  | 0, _, s, out => (out, none, s)
  | k + 1, i, s, out => if wrE (flowS s).2.1 (flowS s).2.2.2 ≠ 0 then (out ++ [(flowS s).1], some (i, wrE (flowS s).2.1 (flowS s).2.2.2), (flowS s).2.2) else flowsS k (i + 1) (flowS s).2.2 (out ++ [(flowS s).1])
/-- What is wrong in the end: nothing, a number at a place (0 head, 1 nodes, 2 a node, 3 flows, 4 a flow), something behind. -/
inductive TkE where
  | ok
  | at_ (k : Nat) (i : Nat) (c : Int)
  | rest
  deriving DecidableEq
def headE (l : List Int) : Int := match l with
  | a :: b :: c :: _ => if a = 98 ∧ b = 112 ∧ c = 49 then 0 else 8
  | [a, b] => if a = 98 ∧ b = 112 then 6 else 8
  | [a] => if a = 98 then 6 else 8
  | [] => 6
def takeD (l : List Int) : DefV × TkE :=
  if headE l ≠ 0 then (DefV.z, .at_ 0 0 (headE l))
  else if (sT 128 (l.drop 3, 0)).2.2 ≠ 0 then (DefV.z, .at_ 0 0 (sT 128 (l.drop 3, 0)).2.2)
  else if (sU 40 (sT 128 (l.drop 3, 0)).2).2.2 ≠ 0 then (DefV.z, .at_ 1 0 (sU 40 (sT 128 (l.drop 3, 0)).2).2.2)
  else match nodesS (sU 40 (sT 128 (l.drop 3, 0)).2).1.toNat 0 (sU 40 (sT 128 (l.drop 3, 0)).2).2 [] with
    | (_, some (i, c), _) => (DefV.z, .at_ 2 i c)
    | (ns, none, s) => if (sU 80 s).2.2 ≠ 0 then (DefV.z, .at_ 3 0 (sU 80 s).2.2)
      else match flowsS (sU 80 s).1.toNat 0 (sU 80 s).2 [] with
        | (_, some (i, c), _) => (DefV.z, .at_ 4 i c)
        | (fs, none, s2) => if s2.1 = [] then (⟨(sT 128 (l.drop 3, 0)).1, ns, fs⟩, .ok) else (DefV.z, .rest)
end Go.Proofs.Ytejeemhenoobjaa.Asl

namespace Go.Proofs.Ytejeemhenoobjaa.Asl
open Go Go.RowKit
set_option linter.unusedVariables false
set_option linter.unusedSimpArgs false
set_option maxRecDepth 100000
set_option maxHeartbeats 4000000
/-- Something that is written and read. -/
structure Codec {α : Type} (R : RSt → α × RSt) (E : α → List Int) (D : α → Prop) : Prop where
  put : ∀ a r, D a → R (E a ++ r, 0) = (a, (r, 0))
  cut : ∀ a m, D a → m < (E a).length → (R ((E a).take m, 0)).2.2 = 6
  stick : ∀ l e, e ≠ 0 → (R (l, e)).2.2 = e
  form : ∀ l e, IsB l → (R (l, e)).2.2 = 0 → e = 0 ∧ l = E (R (l, e)).1 ++ (R (l, e)).2.1 ∧ D (R (l, e)).1
  isB : ∀ a, D a → IsB (E a)
theorem Codec.left {α : Type} {R : RSt → α × RSt} {E : α → List Int} {D : α → Prop} (c : Codec R E D) {l : List Int} {e : Int} (hB : IsB l) (h : (R (l, e)).2.2 = 0) : IsB (R (l, e)).2.1 := by
  obtain ⟨_, h2, _⟩ := c.form l e hB h
  intro x hx
  exact hB x (by rw [h2]; exact List.mem_append.2 (.inr hx))
def seqR {α β : Type} (R1 : RSt → α × RSt) (R2 : RSt → β × RSt) (s : RSt) : (α × β) × RSt := (((R1 s).1, (R2 (R1 s).2).1), (R2 (R1 s).2).2)
theorem Codec.seq {α β : Type} {R1 : RSt → α × RSt} {E1 : α → List Int} {D1 : α → Prop} {R2 : RSt → β × RSt} {E2 : β → List Int} {D2 : β → Prop} (c1 : Codec R1 E1 D1) (c2 : Codec R2 E2 D2) : Codec (seqR R1 R2) (fun p => E1 p.1 ++ E2 p.2) (fun p => D1 p.1 ∧ D2 p.2) where
  put := by
    rintro ⟨a, b⟩ r ⟨h1, h2⟩
    simp only [seqR]
    rw [List.append_assoc, c1.put a _ h1]
    simp only
    rw [c2.put b r h2]
  cut := by
    rintro ⟨a, b⟩ m ⟨h1, h2⟩ hm
    simp only at hm
    simp only [seqR]
    rw [List.length_append] at hm
    rcases Nat.lt_or_ge m (E1 a).length with h | h
    · rw [List.take_append_of_le_length (by omega)]
      have k := c1.cut a m h1 h
      generalize R1 ((E1 a).take m, 0) = s at k
      obtain ⟨v, l, e⟩ := s
      simp only at k ⊢
      subst k
      exact c2.stick l 6 (by decide)
    · rw [List.take_append, List.take_of_length_le h, c1.put a _ h1]
      exact c2.cut b _ h2 (by omega)
  stick := by
    intro l e he
    simp only [seqR]
    have k := c1.stick l e he
    generalize R1 (l, e) = s at k
    obtain ⟨v, l2, e2⟩ := s
    simp only at k ⊢
    subst k
    exact c2.stick l2 e2 he
  form := by
    intro l e hB h
    simp only [seqR] at h ⊢
    have s1 := c1.stick l e
    have f1 := c1.form l e hB
    have b1 := c1.left (l := l) (e := e) hB
    generalize R1 (l, e) = s at h s1 f1 b1 ⊢
    obtain ⟨v, l2, e2⟩ := s
    simp only at h s1 f1 b1 ⊢
    have he2 : e2 = 0 := by
      rcases Int.lt_trichotomy e2 0 with g | g | g
      · have := c2.stick l2 e2 (by omega); omega
      · exact g
      · have := c2.stick l2 e2 (by omega); omega
    obtain ⟨g1, g2, g3⟩ := f1 he2
    obtain ⟨k1, k2, k3⟩ := c2.form l2 e2 (b1 he2) h
    exact ⟨g1, by rw [List.append_assoc, ← k2]; exact g2, g3, k3⟩
  isB := fun p hp => isB_app.2 ⟨c1.isB _ hp.1, c2.isB _ hp.2⟩
theorem Codec.map {α β : Type} {R : RSt → α × RSt} {E : α → List Int} {D : α → Prop} (c : Codec R E D) (f : α → β) (g : β → α) (h1 : ∀ a, g (f a) = a) {D2 : β → Prop} (hD : ∀ b, D2 b → D (g b) ∧ f (g b) = b) (hD' : ∀ a, D a → D2 (f a)) : Codec (fun s => (f (R s).1, (R s).2)) (fun b => E (g b)) D2 where
  put := by
    intro b r hb
    show (f (R (E (g b) ++ r, 0)).1, (R (E (g b) ++ r, 0)).2) = _
    rw [c.put _ r (hD b hb).1]
    show (f (g b), (r, (0 : Int))) = _
    rw [(hD b hb).2]
  cut := fun b m hb hm => c.cut _ m (hD b hb).1 hm
  stick := fun l e he => c.stick l e he
  form := by
    intro l e hB h
    obtain ⟨k1, k2, k3⟩ := c.form l e hB h
    exact ⟨k1, by simp only; rw [h1]; exact k2, hD' _ k3⟩
  isB := fun b hb => c.isB _ (hD b hb).1
theorem dU_cutE (n : Int) (h0 : 0 ≤ n) (h1 : n < 18446744073709551616) (most : Int) (m : Nat) (hm : m < (enc 9 n).length) : (sU most ((enc 9 n).take m, 0)).2.2 = 6 := by
  have := dU_cut h0 h1 hm most
  simp only [sU, this, nxE]
  rfl
theorem codU {most : Int} (hm : most < 18446744073709551616) : Codec (sU most) (enc 9) (fun n => 0 ≤ n ∧ n ≤ most) where
  put := fun n r h => sU_put h.1 h.2 (by omega) r
  cut := fun n m h hm' => dU_cutE n h.1 (by omega) most m hm'
  stick := fun l e he => by simp [sU, nxE, he]
  form := fun l e hB h => by
    obtain ⟨h1, h2, h3, h4⟩ := sU_form hB h
    exact ⟨h1, h2, h3, h4⟩
  isB := fun n h => enc_isB 9 n h.1 (by have : (128 : Int) ^ (9 + 1) = 1180591620717411303424 := by decide
                                        omega)
theorem codB : Codec sB (fun c => [c]) (fun c => 0 ≤ c ∧ c ≤ 255) where
  put := fun c r _ => sB_put c r
  cut := fun c m _ hm => by
    obtain rfl : m = 0 := by simp at hm; omega
    simp [sB, dB, nxE]
  stick := fun l e he => by simp [sB, nxE, he]
  form := fun l e hB h => by
    obtain ⟨h1, h2⟩ := sB_form h
    refine ⟨h1, h2, ?_⟩
    have h3 : ∀ (l0 : List Int) (a : Int) (b : List Int), l0 = a :: b → a ∈ l0 := fun l0 a b h => by rw [h]; exact List.mem_cons_self
    exact hB _ (h3 l _ _ h2)
  isB := fun c h x hx => by rw [List.mem_singleton.1 hx]; exact h
theorem dT_cutM {s : ByteArray} (hs : s.size ≤ 140737488351232) {most : Int} (hmo : (s.size : Int) ≤ most) {m : Nat} (hm : m < (enc 9 s.size).length + s.size) : dT ((enc 9 s.size ++ bytesOf s).take m) most = ([], 0, 6) := by
  rcases Nat.lt_or_ge m (enc 9 s.size).length with h | h
  · rw [List.take_append_of_le_length (by omega)]
    simp [dT, dec_cut0 (n := s.size) (by omega) (by omega) h]
  · rw [List.take_append, List.take_of_length_le h]
    have hd := dec_enc0 (n := s.size) (by omega) (by omega) ((bytesOf s).take (m - (enc 9 s.size).length))
    unfold dT
    rw [hd]
    have hl := len_bytes s
    rw [if_neg (by simp), if_neg (by simp; omega), if_pos]
    simp [hl]; omega
theorem dT_most {l : List Int} (hB : IsB l) {most : Int} (h : (dT l most).2.2 = 0) : ((dT l most).1.length : Int) ≤ most := by
  have ho := dec_ok0 hB
  unfold dT at h ⊢
  generalize dec l 0 0 = d at ho h ⊢
  obtain ⟨N, K, E⟩ := d
  simp only at ho h ⊢
  by_cases hE : E = 0
  · subst hE
    rw [if_neg (by simp)] at h ⊢
    by_cases c2 : most < 0 ∨ most < N
    · rw [if_pos c2] at h; exact absurd h (by decide)
    rw [if_neg c2] at h ⊢
    by_cases c3 : (l.length : Int) - K < N
    · rw [if_pos c3] at h; exact absurd h (by decide)
    rw [if_neg c3]
    simp only [List.length_take]
    omega
  · simp [hE] at h
theorem bytes_isB (s : ByteArray) : IsB (bytesOf s) := fun x hx => by
  unfold bytesOf at hx
  obtain ⟨b, _, rfl⟩ := List.mem_map.1 hx
  have := b.toNat_lt
  omega
theorem codT {most : Int} (h0 : 0 ≤ most) (hm : most ≤ 140737488351232) : Codec (sT most) txtL (fun s => (s.size : Int) ≤ most) where
  put := fun s r h => sT_put h (by omega) r
  cut := fun s m h hm' => by
    have := dT_cutM (s := s) (by omega) (most := most) h (m := m) (by rw [List.length_append, len_bytes] at hm'; exact hm')
    simp only [sT, this, nxE]
    rfl
  stick := fun l e he => by simp [sT, nxE, he]
  form := fun l e hB h => by
    obtain ⟨h1, h2⟩ := sT_form hB h
    refine ⟨h1, h2, ?_⟩
    subst h1
    have h' : (dT l most).2.2 = 0 := by simpa [sT, nxE] using h
    have e1 : (sT most (l, 0)).1 = strOfNums (dT l most).1 := by simp [sT]
    rw [e1, size_strOf]
    exact dT_most hB h'
  isB := fun s h => isB_app.2 ⟨enc_isB 9 s.size (by omega) (by have : (128 : Int) ^ (9 + 1) = 1180591620717411303424 := by decide
                                                               omega), bytes_isB s⟩
/-- A node with its truth's byte, as bytes. -/
def nodeE (p : NodeV × Int) : List Int := [p.1.kd] ++ (txtL p.1.nm ++ (enc 9 (p.1.up + 1) ++ (txtL p.1.tx ++ (txtL p.1.ky ++ (txtL p.1.to ++ (enc 9 (p.1.at_ + 1) ++ [p.2]))))))
def okN (p : NodeV × Int) : Prop := (0 ≤ p.1.kd ∧ p.1.kd ≤ 255) ∧ (p.1.nm.size : Int) ≤ 128 ∧ (0 ≤ p.1.up + 1 ∧ p.1.up + 1 ≤ 255) ∧ (p.1.tx.size : Int) ≤ 128 ∧ (p.1.ky.size : Int) ≤ 128 ∧ (p.1.to.size : Int) ≤ 128 ∧ (0 ≤ p.1.at_ + 1 ∧ p.1.at_ + 1 ≤ 255) ∧ (0 ≤ p.2 ∧ p.2 ≤ 255)
theorem codN : Codec (fun s => (((nodeS s).1, (nodeS s).2.1), (nodeS s).2.2)) nodeE (fun p => okN p ∧ p.1.st = decide (p.2 = 1)) :=
  ((codB.seq ((codT (most := 128) (by decide) (by decide)).seq ((codU (most := 255) (by decide)).seq ((codT (most := 128) (by decide) (by decide)).seq ((codT (most := 128) (by decide) (by decide)).seq ((codT (most := 128) (by decide) (by decide)).seq ((codU (most := 255) (by decide)).seq codB)))))))).map
    (fun p => ((⟨p.1, p.2.1, p.2.2.1 - 1, p.2.2.2.1, p.2.2.2.2.1, p.2.2.2.2.2.1, p.2.2.2.2.2.2.1 - 1, decide (p.2.2.2.2.2.2.2 = 1)⟩ : NodeV), p.2.2.2.2.2.2.2))
    (fun q => (q.1.kd, q.1.nm, q.1.up + 1, q.1.tx, q.1.ky, q.1.to, q.1.at_ + 1, q.2))
    (fun p => by obtain ⟨a, b, c, d, e, f, g, h⟩ := p; simp <;> omega)
    (fun q hq => by
      obtain ⟨⟨k, n, u, t, y, o, a, s⟩, c⟩ := q
      obtain ⟨h1, h2⟩ := hq
      change s = decide (c = 1) at h2
      refine ⟨h1, ?_⟩
      show ((⟨k, n, u + 1 - 1, t, y, o, a + 1 - 1, decide (c = 1)⟩ : NodeV), c) = (⟨k, n, u, t, y, o, a, s⟩, c)
      rw [← h2, show u + 1 - 1 = u by omega, show a + 1 - 1 = a by omega])
    (fun p hp => by
      obtain ⟨a, b, c, d, e, f, g, h⟩ := p
      obtain ⟨h1, h2, h3, h4, h5, h6, h7, h8⟩ := hp
      simp only at h1 h2 h3 h4 h5 h6 h7 h8
      exact ⟨⟨h1, h2, by simp only; omega, h4, h5, h6, by simp only; omega, h8⟩, rfl⟩)
def flowE (p : FlowV × Int) : List Int := enc 9 p.1.fr ++ (enc 9 p.1.to ++ (txtL p.1.cd ++ [p.2]))
def okF (p : FlowV × Int) : Prop := (0 ≤ p.1.fr ∧ p.1.fr ≤ 254) ∧ (0 ≤ p.1.to ∧ p.1.to ≤ 254) ∧ (p.1.cd.size : Int) ≤ 128 ∧ (0 ≤ p.2 ∧ p.2 ≤ 255)
theorem codF : Codec (fun s => (((flowS s).1, (flowS s).2.1), (flowS s).2.2)) flowE (fun p => okF p ∧ p.1.el = decide (p.2 = 1)) :=
  (((codU (most := 254) (by decide)).seq ((codU (most := 254) (by decide)).seq ((codT (most := 128) (by decide) (by decide)).seq codB)))).map
    (fun p => ((⟨p.1, p.2.1, p.2.2.1, decide (p.2.2.2 = 1)⟩ : FlowV), p.2.2.2))
    (fun q => (q.1.fr, q.1.to, q.1.cd, q.2))
    (fun p => by obtain ⟨a, b, c, d⟩ := p; rfl)
    (fun q hq => by
      obtain ⟨⟨k, n, u, t⟩, c⟩ := q
      obtain ⟨h1, h2⟩ := hq
      change t = decide (c = 1) at h2
      refine ⟨h1, ?_⟩
      show ((⟨k, n, u, decide (c = 1)⟩ : FlowV), c) = (⟨k, n, u, t⟩, c)
      rw [← h2])
    (fun p hp => by
      obtain ⟨a, b, c, d⟩ := p
      exact ⟨hp, rfl⟩)
end Go.Proofs.Ytejeemhenoobjaa.Asl

