/- Part 12 of what the row leans on: abstract values and states, their rules, and the contracts of the functions. -/
import Derived.Laws.BitsLemmas
import Derived.Laws.BitsAllLaws
import Derived.Test.YtdbdajmgfajcpaaZ11
namespace Go.Proofs.Ytdbdajmgfajcpaa.Asl
open Go Go.RowKit
set_option linter.unusedVariables false
set_option linter.unusedSimpArgs false

def enc : Nat → Int → List Int
  | 0, n => [n]
  | f + 1, n => if 128 ≤ n then (n % 128 + 128) :: enc f (n / 128) else [n]
def dec : List Int → Nat → Int → Int × Int × Int
  | [], _, _ => (0, 0, 6)
  | c :: l, i, a => if i = 9 ∧ 1 < c then (0, 0, 9) else if c = 0 ∧ 0 < i then (0, 0, 8) else if c < 128 then (a + c * 128 ^ i, (i : Int) + 1, 0) else dec l (i + 1) (a + (c % 128) * 128 ^ i)

theorem enc_len : ∀ (f : Nat) (n : Int), (enc f n).length ≤ f + 1 ∧ 1 ≤ (enc f n).length
  | 0, n => by simp [enc]
  | f + 1, n => by
    rw [enc]
    by_cases h : 128 ≤ n
    · rw [if_pos h, List.length_cons]; have := enc_len f (n / 128); omega
    · rw [if_neg h]; simp
theorem enc_isB : ∀ (f : Nat) (n : Int), 0 ≤ n → n < 128 ^ (f + 1) → IsB (enc f n)
  | 0, n, h0, h1 => by rw [enc, isB_cons]; exact ⟨by simp at h1; omega, isB_nil⟩
  | f + 1, n, h0, h1 => by
    rw [enc]
    by_cases h : 128 ≤ n
    · rw [if_pos h, isB_cons]
      refine ⟨by omega, enc_isB f (n / 128) (by omega) ?_⟩
      rw [Int.pow_succ] at h1
      exact Int.ediv_lt_of_lt_mul (by decide) h1
    · rw [if_neg h, isB_cons]; exact ⟨by omega, isB_nil⟩
theorem pow_pos128 (i : Nat) : (0 : Int) < 128 ^ i := Int.pow_pos (by decide)
theorem pow_128_succ (i : Nat) : (128 : Int) ^ (i + 1) = 128 * 128 ^ i := by rw [Int.pow_succ, Int.mul_comm]
/-- What is written is read again, whatever follows. -/
theorem dec_enc : ∀ (f i : Nat) (n a : Int) (r : List Int), f + i = 9 → 0 ≤ n → (0 < i → 1 ≤ n) → n * 128 ^ i < 18446744073709551616 → dec (enc f n ++ r) i a = (a + n * 128 ^ i, (i : Int) + (enc f n).length, 0)
  | 0, i, n, a, r, hi, h0, h1, h2 => by
    obtain rfl : i = 9 := by omega
    have hn : n ≤ 1 := by simp at h2; omega
    rw [enc, List.singleton_append, dec, if_neg (by omega), if_neg (by omega), if_pos (by omega)]
    simp
  | f + 1, i, n, a, r, hi, h0, h1, h2 => by
    rw [enc]
    by_cases h : 128 ≤ n
    · have hp := pow_pos128 i
      have hs : n / 128 * 128 ^ (i + 1) ≤ n * 128 ^ i := by
        rw [pow_128_succ, ← Int.mul_assoc]
        exact Int.mul_le_mul_of_nonneg_right (by omega) (Int.le_of_lt hp)
      rw [if_pos h, List.cons_append, dec, if_neg (by omega), if_neg (by omega), if_neg (by omega), dec_enc f (i + 1) (n / 128) _ r (by omega) (by omega) (fun _ => by omega) (by omega), List.length_cons]
      have e : (n % 128 + 128) % 128 = n % 128 := by omega
      rw [e, pow_128_succ]
      have e2 : n * 128 ^ i = n % 128 * 128 ^ i + n / 128 * (128 * 128 ^ i) := by
        rw [← Int.mul_assoc, ← Int.add_mul]; congr 1; omega
      refine Prod.ext ?_ (Prod.ext ?_ rfl)
      · show a + n % 128 * 128 ^ i + n / 128 * (128 * 128 ^ i) = a + n * 128 ^ i
        rw [e2, Int.add_assoc]
      · show ((i + 1 : Nat) : Int) + ((enc f (n / 128)).length : Int) = (i : Int) + (((enc f (n / 128)).length + 1 : Nat) : Int)
        omega
    · rw [if_neg h, List.singleton_append, dec, if_neg (by omega), if_neg (by omega), if_pos (by omega)]
      simp
/-- Bytes that are read are those that are written. -/
theorem dec_form : ∀ (f i : Nat) (l : List Int) (a N K : Int), f + i = 9 → IsB l → dec l i a = (N, K, 0) → ∃ n : Int, 0 ≤ n ∧ (0 < i → 1 ≤ n) ∧ n * 128 ^ i < 18446744073709551616 ∧ N = a + n * 128 ^ i ∧ K = (i : Int) + (enc f n).length ∧ l = enc f n ++ l.drop (enc f n).length
  | f, i, [], a, N, K, hi, hb, h => by simp [dec] at h
  | f, i, c :: l, a, N, K, hi, hb, h => by
    have hc := (isB_cons.1 hb).1
    rw [dec] at h
    by_cases h1 : i = 9 ∧ 1 < c
    · rw [if_pos h1] at h; simp at h
    rw [if_neg h1] at h
    by_cases h2 : c = 0 ∧ 0 < i
    · rw [if_pos h2] at h; simp at h
    rw [if_neg h2] at h
    by_cases h3 : c < 128
    · rw [if_pos h3] at h
      simp only [Prod.mk.injEq] at h
      have e : enc f c = [c] := by
        cases f with
        | zero => rfl
        | succ f => rw [enc, if_neg (by omega)]
      refine ⟨c, hc.1, fun hi0 => by omega, ?_, h.1.symm, by rw [e]; simpa using h.2.1.symm, by rw [e]; simp⟩
      by_cases h9 : i = 9
      · subst h9; simp; omega
      · have h8 : (128 : Int) ^ i ≤ 128 ^ 8 := by
          have : (128 : Nat) ^ i ≤ 128 ^ 8 := Nat.pow_le_pow_right (by decide) (by omega)
          exact_mod_cast this
        have : c * 128 ^ i ≤ 127 * 128 ^ 8 := Int.mul_le_mul (by omega) h8 (Int.le_of_lt (pow_pos128 i)) (by decide)
        have e8 : (127 : Int) * 128 ^ 8 < 18446744073709551616 := by decide
        omega
    · rw [if_neg h3] at h
      cases f with
      | zero => omega
      | succ f =>
        obtain ⟨n, p1, p2, p3, p4, p5, p6⟩ := dec_form f (i + 1) l _ N K (by omega) (isB_cons.1 hb).2 h
        have hn := p2 (by omega)
        have hp := pow_pos128 i
        have e : enc (f + 1) (c % 128 + 128 * n) = c :: enc f n := by
          rw [enc, if_pos (by omega)]
          congr 1
          · omega
          · congr 1; omega
        have e2 : (c % 128 + 128 * n) * 128 ^ i = c % 128 * 128 ^ i + n * 128 ^ (i + 1) := by
          rw [pow_128_succ, Int.add_mul, ← Int.mul_assoc n, Int.mul_comm n 128]
        refine ⟨c % 128 + 128 * n, by omega, fun _ => by omega, ?_, ?_, ?_, ?_⟩
        · by_cases h9 : i = 9
          · omega
          rw [e2]
          have : c % 128 * 128 ^ i < 128 ^ (i + 1) := by
            rw [pow_128_succ]; exact Int.mul_lt_mul_of_pos_right (by omega) hp
          -- n * 128^(i+1) is a multiple of 128^(i+1), below 2^64, and so is 2^64 itself where i + 1 ≤ 9
          have hmul : (18446744073709551616 : Int) = 2 * 128 ^ 9 := by decide
          have h9' : (128 : Int) ^ 9 = 128 ^ (i + 1) * 128 ^ (8 - i) := by rw [← Int.pow_add]; congr 1; omega
          have hlt : n < 2 * 128 ^ (8 - i) := by
            have : n * 128 ^ (i + 1) < (2 * 128 ^ (8 - i)) * 128 ^ (i + 1) := by
              have : (2 * (128 : Int) ^ (8 - i)) * 128 ^ (i + 1) = 18446744073709551616 := by
                rw [hmul, h9', Int.mul_assoc, Int.mul_comm (128 ^ (8 - i))]
              omega
            exact Int.lt_of_mul_lt_mul_right this (Int.le_of_lt (pow_pos128 (i + 1)))
          have h5 : (n + 1) * 128 ^ (i + 1) ≤ (2 * 128 ^ (8 - i)) * 128 ^ (i + 1) := Int.mul_le_mul_of_nonneg_right (by omega) (Int.le_of_lt (pow_pos128 (i + 1)))
          have h6 : (2 * (128 : Int) ^ (8 - i)) * 128 ^ (i + 1) = 18446744073709551616 := by
            rw [hmul, h9', Int.mul_assoc, Int.mul_comm (128 ^ (8 - i))]
          rw [Int.add_mul, Int.one_mul] at h5
          omega
        · rw [p4, e2, Int.add_assoc]
        · rw [p5, e, List.length_cons]; omega
        · rw [e, List.cons_append, List.length_cons, List.drop_succ_cons, ← p6]
end Go.Proofs.Ytdbdajmgfajcpaa.Asl

namespace Go.Proofs.Ytdbdajmgfajcpaa.Asl
open Go Go.RowKit
set_option linter.unusedVariables false
set_option linter.unusedSimpArgs false
set_option maxRecDepth 100000
set_option maxHeartbeats 1000000
@[simp] theorem shr7_u64 (x : Int) : shrI .u64 x 7 = x / 128 := rfl
theorem c_Uint (n : Int) (h0 : 0 ≤ n) (h1 : n < 18446744073709551616) : CallD Try.prog 50 [.raw (.int .u64 n)] noHeap (.ow 99999 1 0 (enc 9 n).length) (setH noHeap 99999 (.arr 1 (u8s (enc 9 n)))) := by
  refine calls_go (nt := 20) (rs := [.tmp 2]) Try.func50 rfl rfl rfl (by simp) (by intro id h; simp at h <;> omega) ?_; intro Q hQ hW
  repeat' (first
    | (with_reducible refine run_n ?_; with_reducible first | refine hK _ _ (by simp) ?_ | refine hK _ _ ?_; clear hK K)
    | (with_reducible first | refine awp_seq ?_ | refine then_n ?_ | refine then_r ?_ | refine then_e ?_ | refine awp_skip ?_ | refine awp_label ?_ | refine awp_ret ?_ | refine awp_exit ?_ | refine awp_block ?_ | refine awp_scope ?_ | refine in_n ?_ | refine in_r ?_ | refine in_e ?_ | refine in_ne (by decide) ?_ | refine ng_n ?_ | refine ng_r ?_ | refine ng_e ?_)
    | (with_reducible refine awp_regT (by kernel_rfl) ?_; intro K hK)
    | (with_reducible refine a_cond (ht := ?_) (hf := ?_) <;> intro hb <;> (try simp at hb) <;> (try contradiction) <;> (try subst hb) <;> (try omega))
    | (with_reducible first | refine a_move (hr := ?_) | refine a_assign (hr := ?_) | refine a_or (hr := ?_) | refine a_shr (hr := ?_) | refine a_bin (hr := ?_) | refine a_conv (hr := ?_) | refine a_bytesStr (hr := ?_) | refine a_strBytes (hr := ?_) | refine a_makeSlice (hr := ?_) | refine a_buildSlice (hr := ?_) | refine a_append (hr := ?_) | refine a_append0 (hr := ?_) | refine a_appendX (hr := ?_))
    | fail)
  refine awp_inv (α := Int × List Int) (fun p => [(0, .raw (.int .u64 p.1)), (3, .ow 4 1 0 p.2.length)]) (fun p => hpL [(4, .arr 1 (u8s p.2))]) (fun p => 0 ≤ p.1 ∧ p.1 * 128 ^ p.2.length < 18446744073709551616 ∧ p.2.length ≤ 9 ∧ p.2 ++ enc (9 - p.2.length) p.1 = enc 9 n) (fun p => p.1.toNat) (n, []) ⟨h0, by simpa using h1, by simp, by simp⟩ (weak_sub (by simp <;> rfl) (by simp) (by simp)) ?_
  rintro ⟨m, out⟩ ⟨g0, g1, g2, g3⟩
  simp only at g0 g1 g2 g3 ⊢
  have g5 : m < 18446744073709551616 := by
    have : (1 : Int) ≤ 128 ^ out.length := by
      have := Int.pow_pos (n := 128) (m := out.length) (by decide)
      omega
    have := Int.mul_le_mul_of_nonneg_left this g0
    omega
  repeat' (first
    | (with_reducible refine run_n ?_; with_reducible first | refine hK _ _ (by simp) ?_ | refine hK _ _ ?_; clear hK K)
    | (with_reducible first | refine awp_seq ?_ | refine then_n ?_ | refine then_r ?_ | refine then_e ?_ | refine awp_skip ?_ | refine awp_label ?_ | refine awp_ret ?_ | refine awp_exit ?_ | refine awp_block ?_ | refine awp_scope ?_ | refine in_n ?_ | refine in_r ?_ | refine in_e ?_ | refine in_ne (by decide) ?_ | refine ng_n ?_ | refine ng_r ?_ | refine ng_e ?_)
    | (with_reducible refine awp_regT (by kernel_rfl) ?_; intro K hK)
    | (with_reducible refine a_cond (ht := ?_) (hf := ?_) <;> intro hb <;> (try simp at hb) <;> (try contradiction) <;> (try subst hb) <;> (try omega))
    | (with_reducible first | refine a_move (hr := ?_) | refine a_assign (hr := ?_) | refine a_or (hr := ?_) | refine a_shr (hr := ?_) | refine a_bin (hr := ?_) | refine a_conv (hr := ?_) | refine a_bytesStr (hr := ?_) | refine a_strBytes (hr := ?_) | refine a_makeSlice (hr := ?_) | refine a_buildSlice (hr := ?_) | refine a_append (hr := ?_) | refine a_append0 (hr := ?_) | refine a_appendX (hr := ?_))
    | fail)
  · have hw : IntKind.u8.wrap m % 128 + 128 = m % 128 + 128 := by rw [wrap_u8']; omega
    have hlt : out.length < 9 := by
      rcases Nat.lt_or_ge out.length 9 with h | h
      · exact h
      · have e : out.length = 9 := by omega
        rw [e] at g1
        exfalso
        omega
    have hp : (0 : Int) < 128 ^ out.length := Int.pow_pos (by decide)
    have hstep : enc (9 - out.length) m = (m % 128 + 128) :: enc (9 - (out.length + 1)) (m / 128) := by
      rw [show 9 - out.length = (9 - (out.length + 1)) + 1 by omega, enc, if_pos hb]
    rw [hw]
    refine ⟨(m / 128, out ++ [m % 128 + 128]), by simp only; omega, ⟨by simp only; omega, ?_, by simp; omega, ?_⟩, weak_ren 4 14 (by decide) (by decide) (by simp) (by simp) (by simp)⟩
    · simp only [List.length_append, List.length_singleton, pow_128_succ]
      have : m / 128 * (128 * 128 ^ out.length) ≤ m * 128 ^ out.length := by
        rw [← Int.mul_assoc]
        exact Int.mul_le_mul_of_nonneg_right (by omega) (Int.le_of_lt hp)
      omega
    · simp only [List.length_append, List.length_singleton, List.append_assoc]
      rw [← g3, hstep]; rfl
  · have he : out ++ [m] = enc 9 n := by
      rw [← g3]
      congr 1
      cases hq : 9 - out.length with
      | zero => rfl
      | succ k => rw [enc, if_neg (by omega)]
    have hl : out.length + 1 = (enc 9 n).length := by rw [← he]; simp
    (refine hQ _ _ _ _ (by first | exact .inr rfl | exact .inl rfl) (by simp; exact .r) (by simp; exact .r) ?_)
    rw [he, hl]
    exact Fin.row (by simp; exact .r) (by simp; exact .r) (by decide) (by simp)
theorem c_UintT (n : Int) (h0 : 0 ≤ n) (h1 : n < 18446744073709551616) : CallD Try.prog 50 [.raw (.int .u64 n)] noHeap (.sl 1 (u8s (enc 9 n))) noHeap := by
  have := (c_Uint n h0 h1).told (by simp) (by simp)
  simpa using this

/-- Rows of rows of bytes. -/
def rws (ps : List (List Int)) : List AV := ps.map fun p => AV.sl 1 (u8s p)
@[simp] theorem rws_nil : rws [] = [] := rfl
@[simp] theorem rws_cons (p : List Int) (ps : List (List Int)) : rws (p :: ps) = AV.sl 1 (u8s p) :: rws ps := rfl
@[simp] theorem rws_len (l : List (List Int)) : (rws l).length = l.length := by simp [rws]
@[simp] theorem rws_get (l : List (List Int)) (i : Nat) : (rws l)[i]? = (l[i]?).map fun p => AV.sl 1 (u8s p) := by simp [rws]
theorem rws_noid (l : List (List Int)) : AV.noids (rws l) = true := by
  rw [AV.noids_iff]; intro x hx
  obtain ⟨n, _, rfl⟩ := List.mem_map.1 hx
  rfl
@[simp] theorem rws_noids (l : List (List Int)) : AV.noids (rws l) = true := rws_noid l
@[simp] theorem rws_rows (l : List (List Int)) : AV.rowsOfs (rws l) = [] := noid_rows.2 _ (rws_noid l)
@[simp] theorem rws_deeps (h : Hp) (l : List (List Int)) : AV.deeps h (rws l) = rws l := noid_deep.2 _ (rws_noid l) h
@[simp] theorem rws_withins (h : Hp) (l : List (List Int)) : AV.withins h (rws l) = true := (noid_withins h).2 _ (rws_noid l)
@[simp] theorem rws_rens (π : Nat → Nat) (l : List (List Int)) : AV.rens π (rws l) = rws l := noid_ren.2 _ (rws_noid l) π
theorem flat_take (ps : List (List Int)) (i : Nat) (p : List Int) (hi : ps[i]? = some p) : (ps.take (i + 1)).flatten = (ps.take i).flatten ++ p := by
  rw [List.take_add_one, hi, List.flatten_append]; simp
theorem flat_le (ps : List (List Int)) (i : Nat) : (ps.take i).flatten.length ≤ ps.flatten.length := by
  have : ps.flatten = (ps.take i).flatten ++ (ps.drop i).flatten := by rw [← List.flatten_append, List.take_append_drop]
  rw [this, List.length_append]; omega
attribute [-simp] List.length_flatten in
theorem c_Join (ps : List (List Int)) (hb : ps.flatten.length ≤ 140737488355328) (hn : ps.length < 9223372036854775808) : CallD Try.prog 64 [.sl 1 (rws ps)] noHeap (.ow 99999 1 0 ps.flatten.length) (setH noHeap 99999 (.arr 1 (u8s ps.flatten))) := by
  refine calls_go (nt := 33) (rs := [.tmp 2]) Try.func64 rfl rfl rfl (by simp) (by intro id h; simp at h <;> omega) ?_; intro Q hQ hW
  repeat' (first
    | (with_reducible refine run_n ?_; with_reducible first | refine hK _ _ (by simp) ?_ | refine hK _ _ ?_; clear hK K)
    | (with_reducible first | refine awp_seq ?_ | refine then_n ?_ | refine then_r ?_ | refine then_e ?_ | refine awp_skip ?_ | refine awp_label ?_ | refine awp_ret ?_ | refine awp_exit ?_ | refine awp_block ?_ | refine awp_scope ?_ | refine in_n ?_ | refine in_r ?_ | refine in_e ?_ | refine in_ne (by decide) ?_ | refine ng_n ?_ | refine ng_r ?_ | refine ng_e ?_)
    | (with_reducible refine awp_regT (by kernel_rfl) ?_; intro K hK)
    | (with_reducible refine a_cond (ht := ?_) (hf := ?_) <;> intro hb <;> (try simp at hb) <;> (try contradiction) <;> (try subst hb) <;> (try omega))
    | (with_reducible first | refine a_move (hr := ?_) | refine a_assign (hr := ?_) | refine a_load (hr := ?_) | refine a_bin (hr := ?_) | refine a_lenS (hr := ?_) | refine a_lenR (hr := ?_) | refine a_idxArr (hr := ?_) | refine a_makeSlice (hr := ?_) | refine a_indexAddr (hr := ?_) | refine a_append (hr := ?_) | refine a_append0 (hr := ?_) | refine a_appendX (hr := ?_))
    | fail)
  refine awp_inv (α := Nat) (fun i => [(0, .sl 1 (rws ps)), (3, .raw (.int .i64 (ps.take i).flatten.length)), (9, .sl 1 (rws ps)), (10, .raw (.int .i64 ps.length)), (11, .raw (.int .i64 i))]) (fun i => noHeap) (fun i => i ≤ ps.length) (fun i => ps.length - i) 0 (by simp) (weak_env (by simp) rfl) ?_
  intro i hi
  have hle := flat_le ps i
  rcases Nat.lt_or_ge i ps.length with hlt | hge
  · have hx := List.getElem?_eq_getElem hlt
    generalize ps[i] = p at hx
    have hft := flat_take ps i p hx
    have hfl := flat_le ps (i + 1)
    rw [hft, List.length_append] at hfl
    repeat' (first
    | (with_reducible refine run_n ?_; with_reducible first | refine hK _ _ (by simp) ?_ | refine hK _ _ ?_; clear hK K)
    | (with_reducible first | refine awp_seq ?_ | refine then_n ?_ | refine then_r ?_ | refine then_e ?_ | refine awp_skip ?_ | refine awp_label ?_ | refine awp_ret ?_ | refine awp_exit ?_ | refine awp_block ?_ | refine awp_scope ?_ | refine in_n ?_ | refine in_r ?_ | refine in_e ?_ | refine in_ne (by decide) ?_ | refine ng_n ?_ | refine ng_r ?_ | refine ng_e ?_)
    | (with_reducible refine awp_regT (by kernel_rfl) ?_; intro K hK)
    | (with_reducible refine a_cond (ht := ?_) (hf := ?_) <;> intro hb <;> (try simp at hb) <;> (try contradiction) <;> (try subst hb) <;> (try omega))
    | (with_reducible first | refine a_move (hr := ?_) | refine a_assign (hr := ?_) | refine a_load (hr := ?_) | refine a_bin (hr := ?_) | refine a_lenS (hr := ?_) | refine a_lenR (hr := ?_) | refine a_idxArr (hr := ?_) | refine a_makeSlice (hr := ?_) | refine a_indexAddr (hr := ?_) | refine a_append (hr := ?_) | refine a_append0 (hr := ?_) | refine a_appendX (hr := ?_))
    | fail)
    exact ⟨i + 1, by omega, by omega, weak_env (by simp [hft]) rfl⟩
  · obtain rfl : i = ps.length := by omega
    repeat' (first
    | (with_reducible refine run_n ?_; with_reducible first | refine hK _ _ (by simp) ?_ | refine hK _ _ ?_; clear hK K)
    | (with_reducible first | refine awp_seq ?_ | refine then_n ?_ | refine then_r ?_ | refine then_e ?_ | refine awp_skip ?_ | refine awp_label ?_ | refine awp_ret ?_ | refine awp_exit ?_ | refine awp_block ?_ | refine awp_scope ?_ | refine in_n ?_ | refine in_r ?_ | refine in_e ?_ | refine in_ne (by decide) ?_ | refine ng_n ?_ | refine ng_r ?_ | refine ng_e ?_)
    | (with_reducible refine awp_regT (by kernel_rfl) ?_; intro K hK)
    | (with_reducible refine a_cond (ht := ?_) (hf := ?_) <;> intro hb <;> (try simp at hb) <;> (try contradiction) <;> (try subst hb) <;> (try omega))
    | (with_reducible first | refine a_move (hr := ?_) | refine a_assign (hr := ?_) | refine a_load (hr := ?_) | refine a_bin (hr := ?_) | refine a_lenS (hr := ?_) | refine a_lenR (hr := ?_) | refine a_idxArr (hr := ?_) | refine a_makeSlice (hr := ?_) | refine a_indexAddr (hr := ?_) | refine a_append (hr := ?_) | refine a_append0 (hr := ?_) | refine a_appendX (hr := ?_))
    | fail)
    refine awp_inv (α := Nat) (fun i => [(6, .ow 21 1 0 (ps.take i).flatten.length), (22, .sl 1 (rws ps)), (23, .raw (.int .i64 ps.length)), (24, .raw (.int .i64 i))]) (fun i => hpL [(21, .arr 1 (u8s (ps.take i).flatten))]) (fun i => i ≤ ps.length) (fun i => ps.length - i) 0 (by simp) (weak_sub (by simp <;> rfl) (by simp) (by simp)) ?_
    intro i hi
    have hle := flat_le ps i
    rcases Nat.lt_or_ge i ps.length with hlt | hge
    · have hx := List.getElem?_eq_getElem hlt
      generalize ps[i] = p at hx
      have hft := flat_take ps i p hx
      have hfl := flat_le ps (i + 1)
      rw [hft, List.length_append] at hfl
      repeat' (first
    | (with_reducible refine run_n ?_; with_reducible first | refine hK _ _ (by simp) ?_ | refine hK _ _ ?_; clear hK K)
    | (with_reducible first | refine awp_seq ?_ | refine then_n ?_ | refine then_r ?_ | refine then_e ?_ | refine awp_skip ?_ | refine awp_label ?_ | refine awp_ret ?_ | refine awp_exit ?_ | refine awp_block ?_ | refine awp_scope ?_ | refine in_n ?_ | refine in_r ?_ | refine in_e ?_ | refine in_ne (by decide) ?_ | refine ng_n ?_ | refine ng_r ?_ | refine ng_e ?_)
    | (with_reducible refine awp_regT (by kernel_rfl) ?_; intro K hK)
    | (with_reducible refine a_cond (ht := ?_) (hf := ?_) <;> intro hb <;> (try simp at hb) <;> (try contradiction) <;> (try subst hb) <;> (try omega))
    | (with_reducible first | refine a_move (hr := ?_) | refine a_assign (hr := ?_) | refine a_load (hr := ?_) | refine a_bin (hr := ?_) | refine a_lenS (hr := ?_) | refine a_lenR (hr := ?_) | refine a_idxArr (hr := ?_) | refine a_makeSlice (hr := ?_) | refine a_indexAddr (hr := ?_) | refine a_append (hr := ?_) | refine a_append0 (hr := ?_) | refine a_appendX (hr := ?_))
    | fail)
      exact ⟨i + 1, by omega, by omega, weak_ren 21 30 (by decide) (by decide) (by simp [hft]) (by simp) (by simp [hft])⟩
    · obtain rfl : i = ps.length := by omega
      repeat' (first
    | (with_reducible refine run_n ?_; with_reducible first | refine hK _ _ (by simp) ?_ | refine hK _ _ ?_; clear hK K)
    | (with_reducible first | refine awp_seq ?_ | refine then_n ?_ | refine then_r ?_ | refine then_e ?_ | refine awp_skip ?_ | refine awp_label ?_ | refine awp_ret ?_ | refine awp_exit ?_ | refine awp_block ?_ | refine awp_scope ?_ | refine in_n ?_ | refine in_r ?_ | refine in_e ?_ | refine in_ne (by decide) ?_ | refine ng_n ?_ | refine ng_r ?_ | refine ng_e ?_)
    | (with_reducible refine awp_regT (by kernel_rfl) ?_; intro K hK)
    | (with_reducible refine a_cond (ht := ?_) (hf := ?_) <;> intro hb <;> (try simp at hb) <;> (try contradiction) <;> (try subst hb) <;> (try omega))
    | (with_reducible first | refine a_move (hr := ?_) | refine a_assign (hr := ?_) | refine a_load (hr := ?_) | refine a_bin (hr := ?_) | refine a_lenS (hr := ?_) | refine a_lenR (hr := ?_) | refine a_idxArr (hr := ?_) | refine a_makeSlice (hr := ?_) | refine a_indexAddr (hr := ?_) | refine a_append (hr := ?_) | refine a_append0 (hr := ?_) | refine a_appendX (hr := ?_))
    | fail)
      (refine hQ _ _ _ _ (by first | exact .inr rfl | exact .inl rfl) (by simp; exact .r) (by simp; exact .r) ?_)
      simp only [List.take_length]
      exact Fin.row (by simp; exact .r) (by simp; exact .r) (by decide) (by simp)
end Go.Proofs.Ytdbdajmgfajcpaa.Asl

namespace Go.Proofs.Ytdbdajmgfajcpaa.Asl
open Go Go.RowKit
set_option linter.unusedVariables false
set_option linter.unusedSimpArgs false
set_option maxRecDepth 100000
set_option maxHeartbeats 1000000
abbrev tokAV (a s f : Int) : AV := .agg [.raw (.int .i64 a), .raw (.int .u64 s), .raw (.int .i64 f)]
def mayTok (a f : Int) : Prop := 0 ≤ a ∧ a < 40 ∧ -1 ≤ f ∧ f < 80
instance (a f : Int) : Decidable (mayTok a f) := by unfold mayTok; infer_instance
theorem c_mayToken (a s f : Int) : CallD Try.prog 68 [tokAV a s f] noHeap (.raw (.int .i64 (if mayTok a f then 0 else 1))) noHeap := by
  by_cases hc : mayTok a f
  · rw [if_pos hc]
    unfold mayTok at hc
    refine calls_go (nt := 21) (rs := [.tmp 2]) Try.func68 rfl rfl rfl (by simp) (by intro id h; simp at h <;> omega) ?_; intro Q hQ hW
    repeat' (first
    | (with_reducible refine run_n ?_; with_reducible first | refine hK _ _ (by simp) ?_ | refine hK _ _ ?_; clear hK K)
    | (with_reducible first | refine awp_seq ?_ | refine then_n ?_ | refine then_r ?_ | refine then_e ?_ | refine awp_skip ?_ | refine awp_label ?_ | refine awp_ret ?_ | refine awp_exit ?_ | refine awp_block ?_ | refine awp_scope ?_ | refine in_n ?_ | refine in_r ?_ | refine in_e ?_ | refine in_ne (by decide) ?_ | refine ng_n ?_ | refine ng_r ?_ | refine ng_e ?_)
    | (with_reducible refine awp_regT (by kernel_rfl) ?_; intro K hK)
    | (with_reducible refine a_cond (ht := ?_) (hf := ?_) <;> intro hb <;> (try simp at hb) <;> (try contradiction) <;> (try subst hb) <;> (try omega))
    | (with_reducible first | refine a_move (hr := ?_) | refine a_assign (hr := ?_) | refine a_load (hr := ?_) | refine a_fieldAddr (hr := ?_) | refine a_bin (hr := ?_) | refine a_pick (hr := ?_) | refine a_box (hr := ?_) | refine a_gT (hr := ?_) | refine a_gF (hr := ?_) | refine a_gU (hr := ?_))
    | (with_reducible refine a_gB (hT := ?_) (hF := ?_) <;> intro hb <;> (try simp at hb) <;> (try contradiction) <;> (try subst hb) <;> (try omega))
    | fail)
    all_goals (try (refine hQ _ _ _ _ (by first | exact .inr rfl | exact .inl rfl) (by simp; exact .r) (by simp; exact .r) ?_))
    all_goals (first | exact Fin.drop (by simp; exact .r) (by simp) | omega)
  · rw [if_neg hc]
    unfold mayTok at hc
    refine calls_go (nt := 21) (rs := [.tmp 2]) Try.func68 rfl rfl rfl (by simp) (by intro id h; simp at h <;> omega) ?_; intro Q hQ hW
    repeat' (first
    | (with_reducible refine run_n ?_; with_reducible first | refine hK _ _ (by simp) ?_ | refine hK _ _ ?_; clear hK K)
    | (with_reducible first | refine awp_seq ?_ | refine then_n ?_ | refine then_r ?_ | refine then_e ?_ | refine awp_skip ?_ | refine awp_label ?_ | refine awp_ret ?_ | refine awp_exit ?_ | refine awp_block ?_ | refine awp_scope ?_ | refine in_n ?_ | refine in_r ?_ | refine in_e ?_ | refine in_ne (by decide) ?_ | refine ng_n ?_ | refine ng_r ?_ | refine ng_e ?_)
    | (with_reducible refine awp_regT (by kernel_rfl) ?_; intro K hK)
    | (with_reducible refine a_cond (ht := ?_) (hf := ?_) <;> intro hb <;> (try simp at hb) <;> (try contradiction) <;> (try subst hb) <;> (try omega))
    | (with_reducible first | refine a_move (hr := ?_) | refine a_assign (hr := ?_) | refine a_load (hr := ?_) | refine a_fieldAddr (hr := ?_) | refine a_bin (hr := ?_) | refine a_pick (hr := ?_) | refine a_box (hr := ?_) | refine a_gT (hr := ?_) | refine a_gF (hr := ?_) | refine a_gU (hr := ?_))
    | (with_reducible refine a_gB (hT := ?_) (hF := ?_) <;> intro hb <;> (try simp at hb) <;> (try contradiction) <;> (try subst hb) <;> (try omega))
    | fail)
    all_goals (try (refine hQ _ _ _ _ (by first | exact .inr rfl | exact .inl rfl) (by simp; exact .r) (by simp; exact .r) ?_))
    all_goals (first | exact Fin.drop (by simp; exact .r) (by simp) | omega)
def putTok (a s f : Int) : List Int := if mayTok a f then enc 9 a ++ (enc 9 s ++ enc 9 (f + 1)) else []
theorem enc_small (f : Nat) (n : Int) : (enc f n).length ≤ f + 1 := (enc_len f n).1
theorem c_PutToken (a s f : Int) (h0 : 0 ≤ s) (h1 : s < 18446744073709551616) : CallD Try.prog 27 [tokAV a s f] noHeap (.sl 1 (u8s (putTok a s f))) noHeap := by
  have hm := c_mayToken a s f
  by_cases hc : mayTok a f
  · rw [if_pos hc] at hm
    rw [putTok, if_pos hc]
    unfold mayTok at hc
    refine calls_go (nt := 20) (rs := [.tmp 2]) Try.func27 rfl rfl rfl (by simp) (by intro id h; simp at h <;> omega) ?_; intro Q hQ hW
    have b1 := enc_small 9 a
    have b2 := enc_small 9 s
    have b3 := enc_small 9 (f + 1)
    repeat' (first
    | (with_reducible refine run_n ?_; with_reducible first | refine hK _ _ (by simp) ?_ | refine hK _ _ ?_; clear hK K)
    | (with_reducible first | refine awp_seq ?_ | refine then_n ?_ | refine then_r ?_ | refine then_e ?_ | refine awp_skip ?_ | refine awp_label ?_ | refine awp_ret ?_ | refine awp_exit ?_ | refine awp_block ?_ | refine awp_scope ?_ | refine in_n ?_ | refine in_r ?_ | refine in_e ?_ | refine in_ne (by decide) ?_ | refine ng_n ?_ | refine ng_r ?_ | refine ng_e ?_)
    | (with_reducible refine awp_regT (by kernel_rfl) ?_; intro K hK)
    | (with_reducible refine awp_regAM (id := 3) [(6, some 1), (10, some 1), (13, some 1)] mixed (by kernel_rfl) (by kernel_rfl) ?_; intro K hK)
    | (with_reducible refine a_cond (ht := ?_) (hf := ?_) <;> intro hb <;> (try simp at hb) <;> (try contradiction) <;> (try subst hb) <;> (try omega))
    | (with_reducible first | refine a_assign (hr := ?_) | refine a_load (hr := ?_) | refine a_fieldAddr (hr := ?_) | refine a_bin (hr := ?_) | refine a_box (hr := ?_) | refine a_neB (hr := ?_) | refine a_conv (hr := ?_) | refine a_bytesStr (hr := ?_) | refine a_strBytes (hr := ?_) | refine a_neS (hr := ?_) | refine a_buildSlice (hr := ?_) | refine a_call0 (hcall := hm) (hr := ?_) | refine a_callN (hcall := c_UintT _ (by omega) (by omega)) (hr := ?_) | refine a_callR (hcall := c_Join [enc 9 a, enc 9 s, enc 9 (f + 1)] (by simp; omega) (by simp)) (hr := ?_))
    | fail)
    all_goals (try (refine hQ _ _ _ _ (by first | exact .inr rfl | exact .inl rfl) (by simp; exact .r) (by simp; exact .r) ?_))
    all_goals (refine Fin.frzR (by simp; exact .r) (by simp [List.take_of_length_le]; exact .r) (by simp; exact .r) (by simp))
  · rw [if_neg hc] at hm
    rw [putTok, if_neg hc]
    refine calls_go (nt := 20) (rs := [.tmp 2]) Try.func27 rfl rfl rfl (by simp) (by intro id h; simp at h <;> omega) ?_; intro Q hQ hW
    repeat' (first
    | (with_reducible refine run_n ?_; with_reducible first | refine hK _ _ (by simp) ?_ | refine hK _ _ ?_; clear hK K)
    | (with_reducible first | refine awp_seq ?_ | refine then_n ?_ | refine then_r ?_ | refine then_e ?_ | refine awp_skip ?_ | refine awp_label ?_ | refine awp_ret ?_ | refine awp_exit ?_ | refine awp_block ?_ | refine awp_scope ?_ | refine in_n ?_ | refine in_r ?_ | refine in_e ?_ | refine in_ne (by decide) ?_ | refine ng_n ?_ | refine ng_r ?_ | refine ng_e ?_)
    | (with_reducible refine awp_regT (by kernel_rfl) ?_; intro K hK)
    | (with_reducible refine awp_regAM (id := 3) [(6, some 1), (10, some 1), (13, some 1)] mixed (by kernel_rfl) (by kernel_rfl) ?_; intro K hK)
    | (with_reducible refine a_cond (ht := ?_) (hf := ?_) <;> intro hb <;> (try simp at hb) <;> (try contradiction) <;> (try subst hb) <;> (try omega))
    | (with_reducible first | refine a_assign (hr := ?_) | refine a_load (hr := ?_) | refine a_fieldAddr (hr := ?_) | refine a_bin (hr := ?_) | refine a_box (hr := ?_) | refine a_neB (hr := ?_) | refine a_conv (hr := ?_) | refine a_bytesStr (hr := ?_) | refine a_strBytes (hr := ?_) | refine a_neS (hr := ?_) | refine a_buildSlice (hr := ?_) | refine a_call0 (hcall := hm) (hr := ?_))
    | fail)
    all_goals (try (refine hQ _ _ _ _ (by first | exact .inr rfl | exact .inl rfl) (by simp; exact .r) (by simp; exact .r) ?_))
    all_goals (exact Fin.nil (by simp))
end Go.Proofs.Ytdbdajmgfajcpaa.Asl

namespace Go.Proofs.Ytdbdajmgfajcpaa.Asl
open Go Go.RowKit
set_option linter.unusedVariables false
set_option linter.unusedSimpArgs false
set_option maxRecDepth 100000
set_option maxHeartbeats 1000000
def hexd (d : Int) : Int := if d < 10 then 48 + d else 87 + d
def hexAt (n : Int) (i : Nat) : Int := hexd (n / 2 ^ (60 - 4 * i) % 16)
def hexs (n : Int) : List Int := (List.range 16).map (hexAt n)
def hexZ (n : Int) (i : Nat) : List Int := (List.range i).map (hexAt n) ++ List.replicate (16 - i) 0
theorem hexZ_len (n : Int) {i : Nat} (hi : i ≤ 16) : (hexZ n i).length = 16 := by simp [hexZ]; omega
theorem hexZ_set (n : Int) {i : Nat} (hi : i < 16) : (hexZ n i).set i (hexAt n i) = hexZ n (i + 1) := by
  unfold hexZ
  rw [List.set_append_right _ _ (by simp)]
  simp only [List.length_map, List.length_range, Nat.sub_self]
  rw [show 16 - i = (16 - (i + 1)) + 1 by omega, List.replicate_succ, List.set_cons_zero, List.range_succ, List.map_append]
  simp
theorem hexB : ∀ d : Nat, d < 16 → byteAt ⟨#[48, 49, 50, 51, 52, 53, 54, 55, 56, 57, 97, 98, 99, 100, 101, 102]⟩ (d : Int) = hexd d := by decide
theorem hex_byte (n : Int) (i : Nat) (hi : i < 16) : byteAt ⟨#[48, 49, 50, 51, 52, 53, 54, 55, 56, 57, 97, 98, 99, 100, 101, 102]⟩ (shrI .u64 n (60 - 4 * (i : Int)) % 16) = hexAt n i := by
  have e : shrI .u64 n (60 - 4 * (i : Int)) = n / 2 ^ (60 - 4 * i) := by
    unfold shrI
    rw [show min (60 - 4 * (i : Int)).toNat (IntKind.bits .u64) = 60 - 4 * i by simp [IntKind.bits]; omega]
  rw [e]
  unfold hexAt
  have h0 := Int.emod_nonneg (n / 2 ^ (60 - 4 * i)) (b := 16) (by decide)
  have h1 := Int.emod_lt_of_pos (n / 2 ^ (60 - 4 * i)) (b := 16) (by decide)
  have := hexB (n / 2 ^ (60 - 4 * i) % 16).toNat (by omega)
  rw [Int.toNat_of_nonneg h0] at this
  exact this
theorem c_Number (n : Int) (h0 : 0 ≤ n) (h1 : n < 18446744073709551616) : CallD Try.prog 95 [.raw (.int .u64 n)] noHeap (.raw (.string (strOfNums (hexs n)))) noHeap := by
  refine calls_go (nt := 21) (rs := [.tmp 2]) Try.func95 rfl rfl rfl (by simp) (by intro id h; simp at h <;> omega) ?_; intro Q hQ hW
  repeat' (first
    | (with_reducible refine run_n ?_; with_reducible first | refine hK _ _ (by simp) ?_ | refine hK _ _ ?_; clear hK K)
    | (with_reducible first | refine awp_seq ?_ | refine then_n ?_ | refine then_r ?_ | refine then_e ?_ | refine awp_skip ?_ | refine awp_label ?_ | refine awp_ret ?_ | refine awp_exit ?_ | refine awp_block ?_ | refine awp_scope ?_ | refine in_n ?_ | refine in_r ?_ | refine in_e ?_ | refine in_ne (by decide) ?_ | refine ng_n ?_ | refine ng_r ?_ | refine ng_e ?_)
    | (with_reducible refine awp_regT (by kernel_rfl) ?_; intro K hK)
    | (with_reducible refine a_cond (ht := ?_) (hf := ?_) <;> intro hb <;> (try simp at hb) <;> (try contradiction) <;> (try subst hb) <;> (try omega))
    | (with_reducible first | refine a_move (hr := ?_) | refine a_assign (hr := ?_) | refine a_and (hr := ?_) | refine a_shr (hr := ?_) | refine a_bin (hr := ?_) | refine a_store (hr := ?_) | refine a_alloc (hr := ?_) | refine a_conv (hr := ?_) | refine a_bytesStr (hr := ?_) | refine a_strBytes (hr := ?_) | refine a_idxArr (hr := ?_) | refine a_sliceArr (hr := ?_) | refine a_index (hr := ?_) | refine a_sliceS (hr := ?_) | refine a_sliceR (hr := ?_) | refine a_indexAddr (hr := ?_))
    | fail)
  refine awp_inv (α := Nat) (fun i => [(0, .raw (.int .u64 n)), (3, .ptr 3 0), (5, .raw (.int .i64 i))]) (fun i => hpL [(3, .box (.agg (u8s (hexZ n i))))]) (fun i => i ≤ 16) (fun i => 16 - i) 0 (by decide) (weak_env (by simp) (by rfl)) ?_
  intro i hi
  have hl := hexZ_len n hi
  repeat' (first
    | (with_reducible refine run_n ?_; with_reducible first | refine hK _ _ (by simp) ?_ | refine hK _ _ ?_; clear hK K)
    | (with_reducible first | refine awp_seq ?_ | refine then_n ?_ | refine then_r ?_ | refine then_e ?_ | refine awp_skip ?_ | refine awp_label ?_ | refine awp_ret ?_ | refine awp_exit ?_ | refine awp_block ?_ | refine awp_scope ?_ | refine in_n ?_ | refine in_r ?_ | refine in_e ?_ | refine in_ne (by decide) ?_ | refine ng_n ?_ | refine ng_r ?_ | refine ng_e ?_)
    | (with_reducible refine awp_regT (by kernel_rfl) ?_; intro K hK)
    | (with_reducible refine a_cond (ht := ?_) (hf := ?_) <;> intro hb <;> (try simp at hb) <;> (try contradiction) <;> (try subst hb) <;> (try omega))
    | (with_reducible first | refine a_move (hr := ?_) | refine a_assign (hr := ?_) | refine a_and (hr := ?_) | refine a_shr (hr := ?_) | refine a_bin (hr := ?_) | refine a_store (hr := ?_) | refine a_alloc (hr := ?_) | refine a_conv (hr := ?_) | refine a_bytesStr (hr := ?_) | refine a_strBytes (hr := ?_) | refine a_idxArr (hr := ?_) | refine a_sliceArr (hr := ?_) | refine a_index (hr := ?_) | refine a_sliceS (hr := ?_) | refine a_sliceR (hr := ?_) | refine a_indexAddr (hr := ?_))
    | fail)
  · have hi' : i < 16 := by omega
    have hs := hexZ_set n hi'
    rw [← hex_byte n i hi'] at hs
    exact ⟨i + 1, by omega, by omega, weak_sub (by simp [hs]) (by simp) (by simp)⟩
  · obtain rfl : i = 16 := by omega
    (refine hQ _ _ _ _ (by first | exact .inr rfl | exact .inl rfl) (by simp; exact .r) (by simp; exact .r) ?_)
    exact Fin.drop (by simp; exact .r) (by simp)
end Go.Proofs.Ytdbdajmgfajcpaa.Asl

namespace Go.Proofs.Ytdbdajmgfajcpaa.Asl
open Go Go.RowKit
set_option linter.unusedVariables false
set_option linter.unusedSimpArgs false
def strs (ps : List ByteArray) : List AV := ps.map fun s => .raw (.string s)
@[simp] theorem strs_len (l : List ByteArray) : (strs l).length = l.length := by simp [strs]
@[simp] theorem strs_get (l : List ByteArray) (i : Nat) : (strs l)[i]? = (l[i]?).map fun p => AV.raw (.string p) := by simp [strs]
@[simp] theorem strs_noids (l : List ByteArray) : AV.noids (strs l) = true := by
  rw [AV.noids_iff]; intro x hx
  obtain ⟨n, _, rfl⟩ := List.mem_map.1 hx
  rfl
@[simp] theorem strs_rows (l : List ByteArray) : AV.rowsOfs (strs l) = [] := noid_rows.2 _ (strs_noids l)
@[simp] theorem strs_deeps (h : Hp) (l : List ByteArray) : AV.deeps h (strs l) = strs l := noid_deep.2 _ (strs_noids l) h
@[simp] theorem strs_withins (h : Hp) (l : List ByteArray) : AV.withins h (strs l) = true := (noid_withins h).2 _ (strs_noids l)
@[simp] theorem strs_rens (π : Nat → Nat) (l : List ByteArray) : AV.rens π (strs l) = strs l := noid_ren.2 _ (strs_noids l) π
@[simp] theorem strs_app1 (l : List ByteArray) (s : ByteArray) : strs l ++ [.raw (.string s)] = strs (l ++ [s]) := by simp [strs]
@[simp] theorem strs_nil : strs [] = [] := rfl
@[simp] theorem strs_cons (s : ByteArray) (l : List ByteArray) : strs (s :: l) = AV.raw (.string s) :: strs l := rfl
@[simp] theorem strs_take (l : List ByteArray) (n : Nat) : (strs l).take n = strs (l.take n) := by simp [strs, List.map_take]
@[simp] theorem strs_drop (l : List ByteArray) (n : Nat) : (strs l).drop n = strs (l.drop n) := by simp [strs, List.map_drop]
end Go.Proofs.Ytdbdajmgfajcpaa.Asl

namespace Go.Proofs.Ytdbdajmgfajcpaa.Asl
open Go Go.RowKit
set_option linter.unusedVariables false
set_option linter.unusedSimpArgs false
set_option maxRecDepth 100000
set_option maxHeartbeats 1000000
def esc (l : List Int) : List Int := l.flatMap fun b => if b = 0 then [0, 255] else [b]
def keyb (k : Int) (ps : List ByteArray) : List Int := k :: ps.flatMap fun p => esc (bytesOf p) ++ [0, 1]
theorem keyb_take (k : Int) (ps : List ByteArray) (i : Nat) (p : ByteArray) (hi : ps[i]? = some p) : keyb k (ps.take (i + 1)) = keyb k (ps.take i) ++ (esc (bytesOf p) ++ [0, 1]) := by
  rw [keyb, keyb, List.take_add_one, hi]; simp
theorem keyb_le (k : Int) (ps : List ByteArray) (i : Nat) : (keyb k (ps.take i)).length ≤ (keyb k ps).length := by
  have : keyb k ps = keyb k (ps.take i) ++ (ps.drop i).flatMap fun p => esc (bytesOf p) ++ [0, 1] := by
    simp only [keyb, List.cons_append]
    rw [← List.flatMap_append, List.take_append_drop]
  rw [this, List.length_append]; omega
theorem esc_take (l : List Int) (j : Nat) (b : Int) (hj : l[j]? = some b) : esc (l.take (j + 1)) = esc (l.take j) ++ (if b = 0 then [0, 255] else [b]) := by
  rw [esc, esc, List.take_add_one, hj, List.flatMap_append]; simp
theorem esc_le (l : List Int) (j : Nat) : (esc (l.take j)).length ≤ (esc l).length := by
  have : esc l = esc (l.take j) ++ esc (l.drop j) := by simp only [esc]; rw [← List.flatMap_append, List.take_append_drop]
  rw [this, List.length_append]; omega
theorem c_Make (k : Int) (ps : List ByteArray) (hk : 0 ≤ k ∧ k < 256) (hb : (keyb k ps).length ≤ 140737488355328) (hn : ps.length < 9223372036854775808) (hs : ∀ p ∈ ps, p.size < 9223372036854775808) : CallD Try.prog 46 [.raw (.int .u8 k), .sl 1 (strs ps)] noHeap (.raw (.string (strOfNums (keyb k ps)))) noHeap := by
  refine calls_go (nt := 42) (rs := [.tmp 4]) Try.func46 rfl rfl rfl (by simp) (by intro id h; simp at h <;> omega) ?_; intro Q hQ hW
  repeat' (first
    | (with_reducible refine run_n ?_; with_reducible first | refine hK _ _ (by simp) ?_ | refine hK _ _ ?_; clear hK K)
    | (with_reducible first | refine awp_seq ?_ | refine then_n ?_ | refine then_r ?_ | refine then_e ?_ | refine awp_skip ?_ | refine awp_label ?_ | refine awp_ret ?_ | refine awp_exit ?_ | refine awp_block ?_ | refine awp_scope ?_ | refine in_n ?_ | refine in_r ?_ | refine in_e ?_ | refine in_ne (by decide) ?_ | refine ng_n ?_ | refine ng_r ?_ | refine ng_e ?_)
    | (with_reducible refine awp_regT (by kernel_rfl) ?_; intro K hK)
    | (with_reducible refine a_cond (ht := ?_) (hf := ?_) <;> intro hb <;> (try simp at hb) <;> (try contradiction) <;> (try subst hb) <;> (try omega))
    | (with_reducible first | refine a_move (hr := ?_) | refine a_assign (hr := ?_) | refine a_load (hr := ?_) | refine a_bin (hr := ?_) | refine a_lenS (hr := ?_) | refine a_lenR (hr := ?_) | refine a_eqB (hr := ?_) | refine a_conv (hr := ?_) | refine a_bytesStr (hr := ?_) | refine a_strBytes (hr := ?_) | refine a_idxArr (hr := ?_) | refine a_eqS (hr := ?_) | refine a_index (hr := ?_) | refine a_indexAddr (hr := ?_) | refine a_buildSlice (hr := ?_) | refine a_append (hr := ?_) | refine a_append0 (hr := ?_) | refine a_appendX (hr := ?_))
    | fail)
  refine awp_inv (α := Nat) (fun i => [(5, .ow 10 1 0 (keyb k (ps.take i)).length), (11, .sl 1 (strs ps)), (12, .raw (.int .i64 ps.length)), (13, .raw (.int .i64 i))]) (fun i => hpL [(10, .arr 1 (u8s (keyb k (ps.take i))))]) (fun i => i ≤ ps.length) (fun i => ps.length - i) 0 (by simp) (weak_sub (by simp [keyb] <;> rfl) (by simp) (by simp [keyb])) ?_
  intro i hi
  have hle := keyb_le k ps i
  rcases Nat.lt_or_ge i ps.length with hlt | hge
  · have hx := List.getElem?_eq_getElem hlt
    generalize ps[i] = p at hx
    have hsp := hs p (List.mem_of_getElem? hx)
    have hkt := keyb_take k ps i p hx
    have hkl := keyb_le k ps (i + 1)
    rw [hkt, List.length_append, List.length_append] at hkl
    have hl2 : ([0, 1] : List Int).length = 2 := rfl
    generalize hG0 : keyb k (ps.take i) = G0 at hkt hkl hle ⊢
    repeat' (first
    | (with_reducible refine run_n ?_; with_reducible first | refine hK _ _ (by simp) ?_ | refine hK _ _ ?_; clear hK K)
    | (with_reducible first | refine awp_seq ?_ | refine then_n ?_ | refine then_r ?_ | refine then_e ?_ | refine awp_skip ?_ | refine awp_label ?_ | refine awp_ret ?_ | refine awp_exit ?_ | refine awp_block ?_ | refine awp_scope ?_ | refine in_n ?_ | refine in_r ?_ | refine in_e ?_ | refine in_ne (by decide) ?_ | refine ng_n ?_ | refine ng_r ?_ | refine ng_e ?_)
    | (with_reducible refine awp_regT (by kernel_rfl) ?_; intro K hK)
    | (with_reducible refine a_cond (ht := ?_) (hf := ?_) <;> intro hb <;> (try simp at hb) <;> (try contradiction) <;> (try subst hb) <;> (try omega))
    | (with_reducible first | refine a_move (hr := ?_) | refine a_assign (hr := ?_) | refine a_load (hr := ?_) | refine a_bin (hr := ?_) | refine a_lenS (hr := ?_) | refine a_lenR (hr := ?_) | refine a_eqB (hr := ?_) | refine a_conv (hr := ?_) | refine a_bytesStr (hr := ?_) | refine a_strBytes (hr := ?_) | refine a_idxArr (hr := ?_) | refine a_eqS (hr := ?_) | refine a_index (hr := ?_) | refine a_indexAddr (hr := ?_) | refine a_buildSlice (hr := ?_) | refine a_append (hr := ?_) | refine a_append0 (hr := ?_) | refine a_appendX (hr := ?_))
    | fail)
    refine awp_inv (α := Nat) (fun j => [(5, .ow 10 1 0 (G0 ++ esc ((bytesOf p).take j)).length), (7, .raw (.string p)), (11, .sl 1 (strs ps)), (12, .raw (.int .i64 ps.length)), (13, .raw (.int .i64 i)), (18, .raw (.int .i64 p.size)), (19, .raw (.int .i64 j))]) (fun j => hpL [(10, .arr 1 (u8s (G0 ++ esc ((bytesOf p).take j))))]) (fun j => j ≤ p.size) (fun j => p.size - j) 0 (by simp) (weak_sub (by simp [esc]) (by simp) (by simp [esc])) ?_
    intro j hj
    have hel := esc_le (bytesOf p) j
    rcases Nat.lt_or_ge j p.size with hlt2 | hge2
    · have hy : (bytesOf p)[j]? = some (byteAt p j) := by
        rw [byteAt_at, List.getElem?_eq_getElem (by rw [len_bytes]; exact hlt2)]; rfl
      have het := esc_take (bytesOf p) j _ hy
      have hel2 := esc_le (bytesOf p) (j + 1)
      have hlen : (G0 ++ esc ((bytesOf p).take j)).length = G0.length + (esc ((bytesOf p).take j)).length := List.length_append
      have hG1 : G0 ++ esc ((bytesOf p).take (j + 1)) = (G0 ++ esc ((bytesOf p).take j)) ++ (if byteAt p j = 0 then [0, 255] else [byteAt p j]) := by rw [het, List.append_assoc]
      have hlen1 : (G0 ++ esc ((bytesOf p).take (j + 1))).length = G0.length + (esc ((bytesOf p).take (j + 1))).length := List.length_append
      rw [hG1, List.length_append] at hlen1
      have hl0 : (if byteAt p j = 0 then [0, 255] else [byteAt p j] : List Int).length = if byteAt p j = 0 then 2 else 1 := by split <;> rfl
      rw [hl0] at hlen1
      generalize hG : G0 ++ esc ((bytesOf p).take j) = G at hG1 hlen hlen1 ⊢
      clear hG
      by_cases hbz : byteAt p j = 0
      · rw [if_pos hbz] at hlen1 hG1
        repeat' (first
    | (with_reducible refine run_n ?_; with_reducible first | refine hK _ _ (by simp) ?_ | refine hK _ _ ?_; clear hK K)
    | (with_reducible first | refine awp_seq ?_ | refine then_n ?_ | refine then_r ?_ | refine then_e ?_ | refine awp_skip ?_ | refine awp_label ?_ | refine awp_ret ?_ | refine awp_exit ?_ | refine awp_block ?_ | refine awp_scope ?_ | refine in_n ?_ | refine in_r ?_ | refine in_e ?_ | refine in_ne (by decide) ?_ | refine ng_n ?_ | refine ng_r ?_ | refine ng_e ?_)
    | (with_reducible refine awp_regT (by kernel_rfl) ?_; intro K hK)
    | (with_reducible refine a_cond (ht := ?_) (hf := ?_) <;> intro hb <;> (try simp at hb) <;> (try contradiction) <;> (try subst hb) <;> (try omega))
    | (with_reducible first | refine a_move (hr := ?_) | refine a_assign (hr := ?_) | refine a_load (hr := ?_) | refine a_bin (hr := ?_) | refine a_lenS (hr := ?_) | refine a_lenR (hr := ?_) | refine a_eqB (hr := ?_) | refine a_conv (hr := ?_) | refine a_bytesStr (hr := ?_) | refine a_strBytes (hr := ?_) | refine a_idxArr (hr := ?_) | refine a_eqS (hr := ?_) | refine a_index (hr := ?_) | refine a_indexAddr (hr := ?_) | refine a_buildSlice (hr := ?_) | refine a_append (hr := ?_) | refine a_append0 (hr := ?_) | refine a_appendX (hr := ?_))
    | fail)
        exact ⟨j + 1, by omega, by omega, weak_ren 10 34 (by decide) (by decide) (by simp [hG1, hbz]) (by simp) (by simp [hG1])⟩
      · rw [if_neg hbz] at hlen1 hG1
        repeat' (first
    | (with_reducible refine run_n ?_; with_reducible first | refine hK _ _ (by simp) ?_ | refine hK _ _ ?_; clear hK K)
    | (with_reducible first | refine awp_seq ?_ | refine then_n ?_ | refine then_r ?_ | refine then_e ?_ | refine awp_skip ?_ | refine awp_label ?_ | refine awp_ret ?_ | refine awp_exit ?_ | refine awp_block ?_ | refine awp_scope ?_ | refine in_n ?_ | refine in_r ?_ | refine in_e ?_ | refine in_ne (by decide) ?_ | refine ng_n ?_ | refine ng_r ?_ | refine ng_e ?_)
    | (with_reducible refine awp_regT (by kernel_rfl) ?_; intro K hK)
    | (with_reducible refine a_cond (ht := ?_) (hf := ?_) <;> intro hb <;> (try simp at hb) <;> (try contradiction) <;> (try subst hb) <;> (try omega))
    | (with_reducible first | refine a_move (hr := ?_) | refine a_assign (hr := ?_) | refine a_load (hr := ?_) | refine a_bin (hr := ?_) | refine a_lenS (hr := ?_) | refine a_lenR (hr := ?_) | refine a_eqB (hr := ?_) | refine a_conv (hr := ?_) | refine a_bytesStr (hr := ?_) | refine a_strBytes (hr := ?_) | refine a_idxArr (hr := ?_) | refine a_eqS (hr := ?_) | refine a_index (hr := ?_) | refine a_indexAddr (hr := ?_) | refine a_buildSlice (hr := ?_) | refine a_append (hr := ?_) | refine a_append0 (hr := ?_) | refine a_appendX (hr := ?_))
    | fail)
        exact ⟨j + 1, by omega, by omega, weak_ren 10 27 (by decide) (by decide) (by simp [hG1]) (by simp) (by simp [hG1])⟩
    · obtain rfl : j = p.size := by omega
      have htk : (bytesOf p).take p.size = bytesOf p := List.take_of_length_le (by rw [len_bytes]; omega)
      simp only [htk]
      have hlen : (G0 ++ esc (bytesOf p)).length = G0.length + (esc (bytesOf p)).length := List.length_append
      rw [← List.append_assoc] at hkt
      generalize hG : G0 ++ esc (bytesOf p) = G at hkt hlen ⊢
      clear hG
      repeat' (first
    | (with_reducible refine run_n ?_; with_reducible first | refine hK _ _ (by simp) ?_ | refine hK _ _ ?_; clear hK K)
    | (with_reducible first | refine awp_seq ?_ | refine then_n ?_ | refine then_r ?_ | refine then_e ?_ | refine awp_skip ?_ | refine awp_label ?_ | refine awp_ret ?_ | refine awp_exit ?_ | refine awp_block ?_ | refine awp_scope ?_ | refine in_n ?_ | refine in_r ?_ | refine in_e ?_ | refine in_ne (by decide) ?_ | refine ng_n ?_ | refine ng_r ?_ | refine ng_e ?_)
    | (with_reducible refine awp_regT (by kernel_rfl) ?_; intro K hK)
    | (with_reducible refine a_cond (ht := ?_) (hf := ?_) <;> intro hb <;> (try simp at hb) <;> (try contradiction) <;> (try subst hb) <;> (try omega))
    | (with_reducible first | refine a_move (hr := ?_) | refine a_assign (hr := ?_) | refine a_load (hr := ?_) | refine a_bin (hr := ?_) | refine a_lenS (hr := ?_) | refine a_lenR (hr := ?_) | refine a_eqB (hr := ?_) | refine a_conv (hr := ?_) | refine a_bytesStr (hr := ?_) | refine a_strBytes (hr := ?_) | refine a_idxArr (hr := ?_) | refine a_eqS (hr := ?_) | refine a_index (hr := ?_) | refine a_indexAddr (hr := ?_) | refine a_buildSlice (hr := ?_) | refine a_append (hr := ?_) | refine a_append0 (hr := ?_) | refine a_appendX (hr := ?_))
    | fail)
      exact ⟨i + 1, by omega, by omega, weak_ren 10 38 (by decide) (by decide) (by simp [hkt]) (by simp) (by simp [hkt])⟩
  · obtain rfl : i = ps.length := by omega
    have htk : ps.take ps.length = ps := List.take_length
    simp only [htk]
    repeat' (first
    | (with_reducible refine run_n ?_; with_reducible first | refine hK _ _ (by simp) ?_ | refine hK _ _ ?_; clear hK K)
    | (with_reducible first | refine awp_seq ?_ | refine then_n ?_ | refine then_r ?_ | refine then_e ?_ | refine awp_skip ?_ | refine awp_label ?_ | refine awp_ret ?_ | refine awp_exit ?_ | refine awp_block ?_ | refine awp_scope ?_ | refine in_n ?_ | refine in_r ?_ | refine in_e ?_ | refine in_ne (by decide) ?_ | refine ng_n ?_ | refine ng_r ?_ | refine ng_e ?_)
    | (with_reducible refine awp_regT (by kernel_rfl) ?_; intro K hK)
    | (with_reducible refine a_cond (ht := ?_) (hf := ?_) <;> intro hb <;> (try simp at hb) <;> (try contradiction) <;> (try subst hb) <;> (try omega))
    | (with_reducible first | refine a_move (hr := ?_) | refine a_assign (hr := ?_) | refine a_load (hr := ?_) | refine a_bin (hr := ?_) | refine a_lenS (hr := ?_) | refine a_lenR (hr := ?_) | refine a_eqB (hr := ?_) | refine a_conv (hr := ?_) | refine a_bytesStr (hr := ?_) | refine a_strBytes (hr := ?_) | refine a_idxArr (hr := ?_) | refine a_eqS (hr := ?_) | refine a_index (hr := ?_) | refine a_indexAddr (hr := ?_) | refine a_buildSlice (hr := ?_) | refine a_append (hr := ?_) | refine a_append0 (hr := ?_) | refine a_appendX (hr := ?_))
    | fail)
    (refine hQ _ _ _ _ (by first | exact .inr rfl | exact .inl rfl) (by simp; exact .r) (by simp; exact .r) ?_)
    exact Fin.drop (by simp; exact .r) (by simp)
end Go.Proofs.Ytdbdajmgfajcpaa.Asl

namespace Go.Proofs.Ytdbdajmgfajcpaa.Asl
open Go Go.RowKit
set_option linter.unusedVariables false
set_option linter.unusedSimpArgs false
set_option maxRecDepth 100000
set_option maxHeartbeats 2000000
structure RefV where
  k : Int
  n : ByteArray
  y : ByteArray
  d : ByteArray
  i : ByteArray
  t : Int
  o : Int
  a : Int
abbrev RefV.av (r : RefV) : AV := refAV r.k r.n r.y r.d r.i r.t r.o r.a
def inU (x : Int) : Prop := 0 ≤ x ∧ x < 18446744073709551616
def RefV.ok (r : RefV) : Prop := inU r.t ∧ inU r.o ∧ inU r.a
def stepP (c : Int) (r : RefV) : ByteArray × RefV :=
  if c = 110 then (r.n, { r with n := ⟨#[]⟩ }) else if c = 107 then (r.y, { r with y := ⟨#[]⟩ }) else if c = 100 then (r.d, { r with d := ⟨#[]⟩ }) else if c = 105 then (r.i, { r with i := ⟨#[]⟩ })
  else if c = 116 then (strOfNums (hexs r.t), { r with t := 0 }) else if c = 111 then (strOfNums (hexs r.o), { r with o := 0 }) else (strOfNums (hexs r.a), { r with a := 0 })
def partsL : List Int → RefV → List ByteArray × RefV
  | [], r => ([], r)
  | c :: cs, r => ((stepP c r).1 :: (partsL cs (stepP c r).2).1, (partsL cs (stepP c r).2).2)
theorem stepP_ok {c : Int} {r : RefV} (h : r.ok) : (stepP c r).2.ok := by
  obtain ⟨h1, h2, h3⟩ := h
  have z : inU 0 := by unfold inU; omega
  unfold stepP
  repeat' split
  all_goals (unfold RefV.ok; simp only; exact ⟨by assumption, by assumption, by assumption⟩)
attribute [simp] textAt numAt
theorem lay_size (k : Int) : (lay k).1.size ≤ 5 := by
  unfold lay
  by_cases h109 : k = 109
  · subst h109; decide
  rw [if_neg h109]
  by_cases h115 : k = 115
  · subst h115; decide
  rw [if_neg h115]
  by_cases h122 : k = 122
  · subst h122; decide
  rw [if_neg h122]
  by_cases h97 : k = 97
  · subst h97; decide
  rw [if_neg h97]
  by_cases h107 : k = 107
  · subst h107; decide
  rw [if_neg h107]
  by_cases h116 : k = 116
  · subst h116; decide
  rw [if_neg h116]
  by_cases h105 : k = 105
  · subst h105; decide
  rw [if_neg h105]
  by_cases h118 : k = 118
  · subst h118; decide
  rw [if_neg h118]
  by_cases h98 : k = 98
  · subst h98; decide
  rw [if_neg h98]
  by_cases h101 : k = 101
  · subst h101; decide
  rw [if_neg h101]
  by_cases h100 : k = 100
  · subst h100; decide
  rw [if_neg h100]
  by_cases h99 : k = 99
  · subst h99; decide
  rw [if_neg h99]
  decide
/-- What a round of the loop does. -/
theorem c_text0 (c k : Int) (n y d i : ByteArray) (t o a : Int) (h1 : ¬ c = 110) (h2 : ¬ c = 107) (h3 : ¬ c = 100) (h4 : ¬ c = 105) : CallD Try.prog 54 [.ptr 100000 0, .raw (.int .u8 c)] (setH noHeap 100000 (.box (refAV k n y d i t o a))) (.raw (.pointer none)) (setH noHeap 100000 (.box (refAV k n y d i t o a))) := by
  have := c_text c k n y d i t o a
  simpa only [textAt, if_neg h1, if_neg h2, if_neg h3, if_neg h4] using this
theorem c_numA (c k : Int) (n y d i : ByteArray) (t o a : Int) (h1 : ¬ c = 116) (h2 : ¬ c = 111) : CallD Try.prog 56 [.ptr 100000 0, .raw (.int .u8 c)] (setH noHeap 100000 (.box (refAV k n y d i t o a))) (.ptr 100000 7) (setH noHeap 100000 (.box (refAV k n y d i t o a))) := by
  have := c_number c k n y d i t o a
  simpa only [numAt, if_neg h1, if_neg h2] using this
theorem c_parts (r : RefV) (hr : r.ok) : CallD Try.prog 45 [r.av] noHeap (if (lay r.k).2 = true then .tup [.sl 1 (strs (partsL (bytesOf (lay r.k).1) r).1), (partsL (bytesOf (lay r.k).1) r).2.av, .raw (.int .i64 0)] else .tup [.sl 1 [], r.av, .raw (.int .i64 31)]) noHeap := by
  have hlay := lay_size r.k
  have hL := c_layout r.k
  by_cases hk : (lay r.k).2 = true
  · rw [if_pos hk]
    rw [hk] at hL
    generalize hs : (lay r.k).1 = s at hL hlay ⊢
    generalize hr0 : r = r0 at hL ⊢
    obtain ⟨k0, n0, y0, d0, i0, t0, o0, a0⟩ := r0
    simp only at hL ⊢
    refine calls_go (nt := 55) (rs := [.tmp 2, .cell 3 27, .tmp 4]) Try.func45 rfl rfl rfl (by simp) (by intro id h; simp at h <;> omega) ?_; intro Q hQ hW
    repeat' (first
    | (with_reducible refine run_n ?_; with_reducible first | refine hK _ _ (by simp) ?_ | refine hK _ _ ?_; clear hK K)
    | (with_reducible first | refine awp_seq ?_ | refine then_n ?_ | refine then_r ?_ | refine then_e ?_ | refine awp_skip ?_ | refine awp_label ?_ | refine awp_ret ?_ | refine awp_exit ?_ | refine awp_block ?_ | refine awp_scope ?_ | refine in_n ?_ | refine in_r ?_ | refine in_e ?_ | refine in_ne (by decide) ?_ | refine ng_n ?_ | refine ng_r ?_ | refine ng_e ?_)
    | (with_reducible refine awp_regT (by kernel_rfl) ?_; intro K hK)
    | (with_reducible refine awp_regAM (id := 3) [(1, some 1), (3, some 3)] mixed (by kernel_rfl) (by kernel_rfl) ?_; intro K hK)
    | (with_reducible refine awp_regAM (id := 16) [(1, some 1), (3, some 3)] mixed (by kernel_rfl) (by kernel_rfl) ?_; intro K hK)
    | (with_reducible refine a_cond (ht := ?_) (hf := ?_) <;> intro hb <;> (try simp at hb) <;> (try contradiction) <;> (try subst hb) <;> (try omega))
    | (with_reducible first | refine a_move (hr := ?_) | refine a_assign (hr := ?_) | refine a_load (hr := ?_) | refine a_fieldAddr (hr := ?_) | refine a_nilCheck (hr := ?_) | refine a_bin (hr := ?_) | refine a_lenS (hr := ?_) | refine a_lenR (hr := ?_) | refine a_extract (hr := ?_) | refine a_un (hr := ?_) | refine a_store (hr := ?_) | refine a_box (hr := ?_) | refine a_alloc (hr := ?_) | refine a_eqP (hr := ?_) | refine a_neP (hr := ?_) | refine a_neB (hr := ?_) | refine a_neS (hr := ?_) | refine a_index (hr := ?_) | refine a_buildSlice (hr := ?_) | refine a_append (hr := ?_) | refine a_append0 (hr := ?_) | refine a_appendX (hr := ?_) | refine a_call0 (hcall := hL) (hr := ?_))
    | fail)
    refine awp_inv (α := Nat × List ByteArray × RefV) (fun p => [(1, .ptr 1 0), (3, .ptr 3 0), (5, .raw (.string s)), (7, if p.2.1 = [] then .raw (.slice none 0 0) else .ow 60 1 0 p.2.1.length), (21, .raw (.int .i64 s.size)), (22, .raw (.int .i64 p.1))])
      (fun p => if p.2.1 = [] then hpL [(1, .box p.2.2.av), (3, .box (refAV 0 ⟨#[]⟩ ⟨#[]⟩ ⟨#[]⟩ ⟨#[]⟩ 0 0 0))] else hpL [(1, .box p.2.2.av), (3, .box (refAV 0 ⟨#[]⟩ ⟨#[]⟩ ⟨#[]⟩ ⟨#[]⟩ 0 0 0)), (60, .arr 1 (strs p.2.1))])
      (fun p => p.1 ≤ s.size ∧ p.2.1.length ≤ p.1 ∧ p.2.2.ok ∧ p.2.1 ++ (partsL ((bytesOf s).drop p.1) p.2.2).1 = (partsL (bytesOf s) ⟨k0, n0, y0, d0, i0, t0, o0, a0⟩).1 ∧ (partsL ((bytesOf s).drop p.1) p.2.2).2 = (partsL (bytesOf s) ⟨k0, n0, y0, d0, i0, t0, o0, a0⟩).2) (fun p => s.size - p.1) (0, [], ⟨k0, n0, y0, d0, i0, t0, o0, a0⟩) ⟨by simp, by simp, by rw [← hr0]; exact hr, by simp, by simp⟩ (weak_sub (by simp) (by simp) (by simp)) ?_
    rintro ⟨i, out, ⟨k, n, y, d, ii, t, o, a⟩⟩ ⟨g1, g2, g3, g4, g5⟩
    simp only at g1 g2 g3 g4 g5 ⊢
    obtain ⟨⟨t1, t2⟩, ⟨o1, o2⟩, ⟨a1, a2⟩⟩ := g3
    have g3 : RefV.ok ⟨k, n, y, d, ii, t, o, a⟩ := ⟨⟨t1, t2⟩, ⟨o1, o2⟩, ⟨a1, a2⟩⟩
    simp only at t1 t2 o1 o2 a1 a2
    rcases Nat.lt_or_ge i s.size with hlt | hge
    · rw [drop_byte s i hlt] at g4 g5
      simp only [partsL] at g4 g5
      generalize hby : byteAt s (i : Int) = c at g4 g5
      have hst := stepP_ok (c := c) g3
      by_cases hout : out = []
      · rw [if_pos hout, if_pos hout]
        subst hout
        by_cases c110 : c = 110
        · subst c110
          have e : stepP 110 ⟨k, n, y, d, ii, t, o, a⟩ = (n, ⟨k, ⟨#[]⟩, y, d, ii, t, o, a⟩) := rfl
          rw [e] at g4 g5 hst
          simp only at g4 g5 hst
          repeat' (first
    | (with_reducible refine run_n ?_; with_reducible first | refine hK _ _ (by simp) ?_ | refine hK _ _ ?_; clear hK K)
    | (with_reducible first | refine awp_seq ?_ | refine then_n ?_ | refine then_r ?_ | refine then_e ?_ | refine awp_skip ?_ | refine awp_label ?_ | refine awp_ret ?_ | refine awp_exit ?_ | refine awp_block ?_ | refine awp_scope ?_ | refine in_n ?_ | refine in_r ?_ | refine in_e ?_ | refine in_ne (by decide) ?_ | refine ng_n ?_ | refine ng_r ?_ | refine ng_e ?_)
    | (with_reducible refine awp_regT (by kernel_rfl) ?_; intro K hK)
    | (with_reducible refine awp_regAM (id := 3) [(1, some 1), (3, some 3)] mixed (by kernel_rfl) (by kernel_rfl) ?_; intro K hK)
    | (with_reducible refine awp_regAM (id := 16) [(1, some 1), (3, some 3)] mixed (by kernel_rfl) (by kernel_rfl) ?_; intro K hK)
    | (with_reducible refine a_cond (ht := ?_) (hf := ?_) <;> intro hb <;> (try simp at hb) <;> (try contradiction) <;> (try subst hb) <;> (try omega))
    | (with_reducible first | refine a_move (hr := ?_) | refine a_assign (hr := ?_) | refine a_load (hr := ?_) | refine a_fieldAddr (hr := ?_) | refine a_nilCheck (hr := ?_) | refine a_bin (hr := ?_) | refine a_lenS (hr := ?_) | refine a_lenR (hr := ?_) | refine a_extract (hr := ?_) | refine a_un (hr := ?_) | refine a_store (hr := ?_) | refine a_box (hr := ?_) | refine a_alloc (hr := ?_) | refine a_eqP (hr := ?_) | refine a_neP (hr := ?_) | refine a_neB (hr := ?_) | refine a_neS (hr := ?_) | refine a_index (hr := ?_) | refine a_buildSlice (hr := ?_) | refine a_append (hr := ?_) | refine a_append0 (hr := ?_) | refine a_appendX (hr := ?_) | refine a_callP (p := 1) (hcall := c_text 110 _ _ _ _ _ _ _ _) (hr := ?_))
    | fail)
          exact ⟨(i + 1, ([] : List ByteArray) ++ [n], ⟨k, ⟨#[]⟩, y, d, ii, t, o, a⟩), by simp only; omega, ⟨by simp only; omega, by simp only [List.length_append, List.length_singleton]; omega, hst, by simpa using g4, g5⟩, by dsimp only; rw [if_neg (by simp), if_neg (by simp)]; exact weak_ren 60 36 (by decide) (by decide) (by simp) (by simp) (by simp)⟩
        by_cases c107 : c = 107
        · subst c107
          have e : stepP 107 ⟨k, n, y, d, ii, t, o, a⟩ = (y, ⟨k, n, ⟨#[]⟩, d, ii, t, o, a⟩) := rfl
          rw [e] at g4 g5 hst
          simp only at g4 g5 hst
          repeat' (first
    | (with_reducible refine run_n ?_; with_reducible first | refine hK _ _ (by simp) ?_ | refine hK _ _ ?_; clear hK K)
    | (with_reducible first | refine awp_seq ?_ | refine then_n ?_ | refine then_r ?_ | refine then_e ?_ | refine awp_skip ?_ | refine awp_label ?_ | refine awp_ret ?_ | refine awp_exit ?_ | refine awp_block ?_ | refine awp_scope ?_ | refine in_n ?_ | refine in_r ?_ | refine in_e ?_ | refine in_ne (by decide) ?_ | refine ng_n ?_ | refine ng_r ?_ | refine ng_e ?_)
    | (with_reducible refine awp_regT (by kernel_rfl) ?_; intro K hK)
    | (with_reducible refine awp_regAM (id := 3) [(1, some 1), (3, some 3)] mixed (by kernel_rfl) (by kernel_rfl) ?_; intro K hK)
    | (with_reducible refine awp_regAM (id := 16) [(1, some 1), (3, some 3)] mixed (by kernel_rfl) (by kernel_rfl) ?_; intro K hK)
    | (with_reducible refine a_cond (ht := ?_) (hf := ?_) <;> intro hb <;> (try simp at hb) <;> (try contradiction) <;> (try subst hb) <;> (try omega))
    | (with_reducible first | refine a_move (hr := ?_) | refine a_assign (hr := ?_) | refine a_load (hr := ?_) | refine a_fieldAddr (hr := ?_) | refine a_nilCheck (hr := ?_) | refine a_bin (hr := ?_) | refine a_lenS (hr := ?_) | refine a_lenR (hr := ?_) | refine a_extract (hr := ?_) | refine a_un (hr := ?_) | refine a_store (hr := ?_) | refine a_box (hr := ?_) | refine a_alloc (hr := ?_) | refine a_eqP (hr := ?_) | refine a_neP (hr := ?_) | refine a_neB (hr := ?_) | refine a_neS (hr := ?_) | refine a_index (hr := ?_) | refine a_buildSlice (hr := ?_) | refine a_append (hr := ?_) | refine a_append0 (hr := ?_) | refine a_appendX (hr := ?_) | refine a_callP (p := 1) (hcall := c_text 107 _ _ _ _ _ _ _ _) (hr := ?_))
    | fail)
          exact ⟨(i + 1, ([] : List ByteArray) ++ [y], ⟨k, n, ⟨#[]⟩, d, ii, t, o, a⟩), by simp only; omega, ⟨by simp only; omega, by simp only [List.length_append, List.length_singleton]; omega, hst, by simpa using g4, g5⟩, by dsimp only; rw [if_neg (by simp), if_neg (by simp)]; exact weak_ren 60 36 (by decide) (by decide) (by simp) (by simp) (by simp)⟩
        by_cases c100 : c = 100
        · subst c100
          have e : stepP 100 ⟨k, n, y, d, ii, t, o, a⟩ = (d, ⟨k, n, y, ⟨#[]⟩, ii, t, o, a⟩) := rfl
          rw [e] at g4 g5 hst
          simp only at g4 g5 hst
          repeat' (first
    | (with_reducible refine run_n ?_; with_reducible first | refine hK _ _ (by simp) ?_ | refine hK _ _ ?_; clear hK K)
    | (with_reducible first | refine awp_seq ?_ | refine then_n ?_ | refine then_r ?_ | refine then_e ?_ | refine awp_skip ?_ | refine awp_label ?_ | refine awp_ret ?_ | refine awp_exit ?_ | refine awp_block ?_ | refine awp_scope ?_ | refine in_n ?_ | refine in_r ?_ | refine in_e ?_ | refine in_ne (by decide) ?_ | refine ng_n ?_ | refine ng_r ?_ | refine ng_e ?_)
    | (with_reducible refine awp_regT (by kernel_rfl) ?_; intro K hK)
    | (with_reducible refine awp_regAM (id := 3) [(1, some 1), (3, some 3)] mixed (by kernel_rfl) (by kernel_rfl) ?_; intro K hK)
    | (with_reducible refine awp_regAM (id := 16) [(1, some 1), (3, some 3)] mixed (by kernel_rfl) (by kernel_rfl) ?_; intro K hK)
    | (with_reducible refine a_cond (ht := ?_) (hf := ?_) <;> intro hb <;> (try simp at hb) <;> (try contradiction) <;> (try subst hb) <;> (try omega))
    | (with_reducible first | refine a_move (hr := ?_) | refine a_assign (hr := ?_) | refine a_load (hr := ?_) | refine a_fieldAddr (hr := ?_) | refine a_nilCheck (hr := ?_) | refine a_bin (hr := ?_) | refine a_lenS (hr := ?_) | refine a_lenR (hr := ?_) | refine a_extract (hr := ?_) | refine a_un (hr := ?_) | refine a_store (hr := ?_) | refine a_box (hr := ?_) | refine a_alloc (hr := ?_) | refine a_eqP (hr := ?_) | refine a_neP (hr := ?_) | refine a_neB (hr := ?_) | refine a_neS (hr := ?_) | refine a_index (hr := ?_) | refine a_buildSlice (hr := ?_) | refine a_append (hr := ?_) | refine a_append0 (hr := ?_) | refine a_appendX (hr := ?_) | refine a_callP (p := 1) (hcall := c_text 100 _ _ _ _ _ _ _ _) (hr := ?_))
    | fail)
          exact ⟨(i + 1, ([] : List ByteArray) ++ [d], ⟨k, n, y, ⟨#[]⟩, ii, t, o, a⟩), by simp only; omega, ⟨by simp only; omega, by simp only [List.length_append, List.length_singleton]; omega, hst, by simpa using g4, g5⟩, by dsimp only; rw [if_neg (by simp), if_neg (by simp)]; exact weak_ren 60 36 (by decide) (by decide) (by simp) (by simp) (by simp)⟩
        by_cases c105 : c = 105
        · subst c105
          have e : stepP 105 ⟨k, n, y, d, ii, t, o, a⟩ = (ii, ⟨k, n, y, d, ⟨#[]⟩, t, o, a⟩) := rfl
          rw [e] at g4 g5 hst
          simp only at g4 g5 hst
          repeat' (first
    | (with_reducible refine run_n ?_; with_reducible first | refine hK _ _ (by simp) ?_ | refine hK _ _ ?_; clear hK K)
    | (with_reducible first | refine awp_seq ?_ | refine then_n ?_ | refine then_r ?_ | refine then_e ?_ | refine awp_skip ?_ | refine awp_label ?_ | refine awp_ret ?_ | refine awp_exit ?_ | refine awp_block ?_ | refine awp_scope ?_ | refine in_n ?_ | refine in_r ?_ | refine in_e ?_ | refine in_ne (by decide) ?_ | refine ng_n ?_ | refine ng_r ?_ | refine ng_e ?_)
    | (with_reducible refine awp_regT (by kernel_rfl) ?_; intro K hK)
    | (with_reducible refine awp_regAM (id := 3) [(1, some 1), (3, some 3)] mixed (by kernel_rfl) (by kernel_rfl) ?_; intro K hK)
    | (with_reducible refine awp_regAM (id := 16) [(1, some 1), (3, some 3)] mixed (by kernel_rfl) (by kernel_rfl) ?_; intro K hK)
    | (with_reducible refine a_cond (ht := ?_) (hf := ?_) <;> intro hb <;> (try simp at hb) <;> (try contradiction) <;> (try subst hb) <;> (try omega))
    | (with_reducible first | refine a_move (hr := ?_) | refine a_assign (hr := ?_) | refine a_load (hr := ?_) | refine a_fieldAddr (hr := ?_) | refine a_nilCheck (hr := ?_) | refine a_bin (hr := ?_) | refine a_lenS (hr := ?_) | refine a_lenR (hr := ?_) | refine a_extract (hr := ?_) | refine a_un (hr := ?_) | refine a_store (hr := ?_) | refine a_box (hr := ?_) | refine a_alloc (hr := ?_) | refine a_eqP (hr := ?_) | refine a_neP (hr := ?_) | refine a_neB (hr := ?_) | refine a_neS (hr := ?_) | refine a_index (hr := ?_) | refine a_buildSlice (hr := ?_) | refine a_append (hr := ?_) | refine a_append0 (hr := ?_) | refine a_appendX (hr := ?_) | refine a_callP (p := 1) (hcall := c_text 105 _ _ _ _ _ _ _ _) (hr := ?_))
    | fail)
          exact ⟨(i + 1, ([] : List ByteArray) ++ [ii], ⟨k, n, y, d, ⟨#[]⟩, t, o, a⟩), by simp only; omega, ⟨by simp only; omega, by simp only [List.length_append, List.length_singleton]; omega, hst, by simpa using g4, g5⟩, by dsimp only; rw [if_neg (by simp), if_neg (by simp)]; exact weak_ren 60 36 (by decide) (by decide) (by simp) (by simp) (by simp)⟩
        by_cases c116 : c = 116
        · subst c116
          have e : stepP 116 ⟨k, n, y, d, ii, t, o, a⟩ = (strOfNums (hexs t), ⟨k, n, y, d, ii, 0, o, a⟩) := rfl
          rw [e] at g4 g5 hst
          simp only at g4 g5 hst
          repeat' (first
    | (with_reducible refine run_n ?_; with_reducible first | refine hK _ _ (by simp) ?_ | refine hK _ _ ?_; clear hK K)
    | (with_reducible first | refine awp_seq ?_ | refine then_n ?_ | refine then_r ?_ | refine then_e ?_ | refine awp_skip ?_ | refine awp_label ?_ | refine awp_ret ?_ | refine awp_exit ?_ | refine awp_block ?_ | refine awp_scope ?_ | refine in_n ?_ | refine in_r ?_ | refine in_e ?_ | refine in_ne (by decide) ?_ | refine ng_n ?_ | refine ng_r ?_ | refine ng_e ?_)
    | (with_reducible refine awp_regT (by kernel_rfl) ?_; intro K hK)
    | (with_reducible refine awp_regAM (id := 3) [(1, some 1), (3, some 3)] mixed (by kernel_rfl) (by kernel_rfl) ?_; intro K hK)
    | (with_reducible refine awp_regAM (id := 16) [(1, some 1), (3, some 3)] mixed (by kernel_rfl) (by kernel_rfl) ?_; intro K hK)
    | (with_reducible refine a_cond (ht := ?_) (hf := ?_) <;> intro hb <;> (try simp at hb) <;> (try contradiction) <;> (try subst hb) <;> (try omega))
    | (with_reducible first | refine a_move (hr := ?_) | refine a_assign (hr := ?_) | refine a_load (hr := ?_) | refine a_fieldAddr (hr := ?_) | refine a_nilCheck (hr := ?_) | refine a_bin (hr := ?_) | refine a_lenS (hr := ?_) | refine a_lenR (hr := ?_) | refine a_extract (hr := ?_) | refine a_un (hr := ?_) | refine a_store (hr := ?_) | refine a_box (hr := ?_) | refine a_alloc (hr := ?_) | refine a_eqP (hr := ?_) | refine a_neP (hr := ?_) | refine a_neB (hr := ?_) | refine a_neS (hr := ?_) | refine a_index (hr := ?_) | refine a_buildSlice (hr := ?_) | refine a_append (hr := ?_) | refine a_append0 (hr := ?_) | refine a_appendX (hr := ?_) | refine a_callP (p := 1) (hcall := c_text0 116 _ _ _ _ _ _ _ _ (by decide) (by decide) (by decide) (by decide)) (hr := ?_) | refine a_callP (p := 1) (hcall := c_number 116 _ _ _ _ _ _ _ _) (hr := ?_) | refine a_call0 (hcall := c_Number _ t1 t2) (hr := ?_))
    | fail)
          exact ⟨(i + 1, ([] : List ByteArray) ++ [strOfNums (hexs t)], ⟨k, n, y, d, ii, 0, o, a⟩), by simp only; omega, ⟨by simp only; omega, by simp only [List.length_append, List.length_singleton]; omega, hst, by simpa using g4, g5⟩, by dsimp only; rw [if_neg (by simp), if_neg (by simp)]; exact weak_ren 60 49 (by decide) (by decide) (by simp) (by simp) (by simp)⟩
        by_cases c111 : c = 111
        · subst c111
          have e : stepP 111 ⟨k, n, y, d, ii, t, o, a⟩ = (strOfNums (hexs o), ⟨k, n, y, d, ii, t, 0, a⟩) := rfl
          rw [e] at g4 g5 hst
          simp only at g4 g5 hst
          repeat' (first
    | (with_reducible refine run_n ?_; with_reducible first | refine hK _ _ (by simp) ?_ | refine hK _ _ ?_; clear hK K)
    | (with_reducible first | refine awp_seq ?_ | refine then_n ?_ | refine then_r ?_ | refine then_e ?_ | refine awp_skip ?_ | refine awp_label ?_ | refine awp_ret ?_ | refine awp_exit ?_ | refine awp_block ?_ | refine awp_scope ?_ | refine in_n ?_ | refine in_r ?_ | refine in_e ?_ | refine in_ne (by decide) ?_ | refine ng_n ?_ | refine ng_r ?_ | refine ng_e ?_)
    | (with_reducible refine awp_regT (by kernel_rfl) ?_; intro K hK)
    | (with_reducible refine awp_regAM (id := 3) [(1, some 1), (3, some 3)] mixed (by kernel_rfl) (by kernel_rfl) ?_; intro K hK)
    | (with_reducible refine awp_regAM (id := 16) [(1, some 1), (3, some 3)] mixed (by kernel_rfl) (by kernel_rfl) ?_; intro K hK)
    | (with_reducible refine a_cond (ht := ?_) (hf := ?_) <;> intro hb <;> (try simp at hb) <;> (try contradiction) <;> (try subst hb) <;> (try omega))
    | (with_reducible first | refine a_move (hr := ?_) | refine a_assign (hr := ?_) | refine a_load (hr := ?_) | refine a_fieldAddr (hr := ?_) | refine a_nilCheck (hr := ?_) | refine a_bin (hr := ?_) | refine a_lenS (hr := ?_) | refine a_lenR (hr := ?_) | refine a_extract (hr := ?_) | refine a_un (hr := ?_) | refine a_store (hr := ?_) | refine a_box (hr := ?_) | refine a_alloc (hr := ?_) | refine a_eqP (hr := ?_) | refine a_neP (hr := ?_) | refine a_neB (hr := ?_) | refine a_neS (hr := ?_) | refine a_index (hr := ?_) | refine a_buildSlice (hr := ?_) | refine a_append (hr := ?_) | refine a_append0 (hr := ?_) | refine a_appendX (hr := ?_) | refine a_callP (p := 1) (hcall := c_text0 111 _ _ _ _ _ _ _ _ (by decide) (by decide) (by decide) (by decide)) (hr := ?_) | refine a_callP (p := 1) (hcall := c_number 111 _ _ _ _ _ _ _ _) (hr := ?_) | refine a_call0 (hcall := c_Number _ o1 o2) (hr := ?_))
    | fail)
          exact ⟨(i + 1, ([] : List ByteArray) ++ [strOfNums (hexs o)], ⟨k, n, y, d, ii, t, 0, a⟩), by simp only; omega, ⟨by simp only; omega, by simp only [List.length_append, List.length_singleton]; omega, hst, by simpa using g4, g5⟩, by dsimp only; rw [if_neg (by simp), if_neg (by simp)]; exact weak_ren 60 49 (by decide) (by decide) (by simp) (by simp) (by simp)⟩
        have e : stepP c ⟨k, n, y, d, ii, t, o, a⟩ = (strOfNums (hexs a), ⟨k, n, y, d, ii, t, o, 0⟩) := by unfold stepP; rw [if_neg c110, if_neg c107, if_neg c100, if_neg c105, if_neg c116, if_neg c111]
        rw [e] at g4 g5 hst
        simp only at g4 g5 hst
        repeat' (first
    | (with_reducible refine run_n ?_; with_reducible first | refine hK _ _ (by simp) ?_ | refine hK _ _ ?_; clear hK K)
    | (with_reducible first | refine awp_seq ?_ | refine then_n ?_ | refine then_r ?_ | refine then_e ?_ | refine awp_skip ?_ | refine awp_label ?_ | refine awp_ret ?_ | refine awp_exit ?_ | refine awp_block ?_ | refine awp_scope ?_ | refine in_n ?_ | refine in_r ?_ | refine in_e ?_ | refine in_ne (by decide) ?_ | refine ng_n ?_ | refine ng_r ?_ | refine ng_e ?_)
    | (with_reducible refine awp_regT (by kernel_rfl) ?_; intro K hK)
    | (with_reducible refine awp_regAM (id := 3) [(1, some 1), (3, some 3)] mixed (by kernel_rfl) (by kernel_rfl) ?_; intro K hK)
    | (with_reducible refine awp_regAM (id := 16) [(1, some 1), (3, some 3)] mixed (by kernel_rfl) (by kernel_rfl) ?_; intro K hK)
    | (with_reducible refine a_cond (ht := ?_) (hf := ?_) <;> intro hb <;> (try simp at hb) <;> (try contradiction) <;> (try subst hb) <;> (try omega))
    | (with_reducible first | refine a_move (hr := ?_) | refine a_assign (hr := ?_) | refine a_load (hr := ?_) | refine a_fieldAddr (hr := ?_) | refine a_nilCheck (hr := ?_) | refine a_bin (hr := ?_) | refine a_lenS (hr := ?_) | refine a_lenR (hr := ?_) | refine a_extract (hr := ?_) | refine a_un (hr := ?_) | refine a_store (hr := ?_) | refine a_box (hr := ?_) | refine a_alloc (hr := ?_) | refine a_eqP (hr := ?_) | refine a_neP (hr := ?_) | refine a_neB (hr := ?_) | refine a_neS (hr := ?_) | refine a_index (hr := ?_) | refine a_buildSlice (hr := ?_) | refine a_append (hr := ?_) | refine a_append0 (hr := ?_) | refine a_appendX (hr := ?_) | refine a_callP (p := 1) (hcall := c_text0 c _ _ _ _ _ _ _ _ c110 c107 c100 c105) (hr := ?_) | refine a_callP (p := 1) (hcall := c_numA c _ _ _ _ _ _ _ _ c116 c111) (hr := ?_) | refine a_call0 (hcall := c_Number _ a1 a2) (hr := ?_))
    | fail)
        exact ⟨(i + 1, ([] : List ByteArray) ++ [strOfNums (hexs a)], ⟨k, n, y, d, ii, t, o, 0⟩), by simp only; omega, ⟨by simp only; omega, by simp only [List.length_append, List.length_singleton]; omega, hst, by simpa using g4, g5⟩, by dsimp only; rw [if_neg (by simp), if_neg (by simp)]; exact weak_ren 60 49 (by decide) (by decide) (by simp) (by simp) (by simp)⟩
      · rw [if_neg hout, if_neg hout]
        by_cases c110 : c = 110
        · subst c110
          have e : stepP 110 ⟨k, n, y, d, ii, t, o, a⟩ = (n, ⟨k, ⟨#[]⟩, y, d, ii, t, o, a⟩) := rfl
          rw [e] at g4 g5 hst
          simp only at g4 g5 hst
          repeat' (first
    | (with_reducible refine run_n ?_; with_reducible first | refine hK _ _ (by simp) ?_ | refine hK _ _ ?_; clear hK K)
    | (with_reducible first | refine awp_seq ?_ | refine then_n ?_ | refine then_r ?_ | refine then_e ?_ | refine awp_skip ?_ | refine awp_label ?_ | refine awp_ret ?_ | refine awp_exit ?_ | refine awp_block ?_ | refine awp_scope ?_ | refine in_n ?_ | refine in_r ?_ | refine in_e ?_ | refine in_ne (by decide) ?_ | refine ng_n ?_ | refine ng_r ?_ | refine ng_e ?_)
    | (with_reducible refine awp_regT (by kernel_rfl) ?_; intro K hK)
    | (with_reducible refine awp_regAM (id := 3) [(1, some 1), (3, some 3)] mixed (by kernel_rfl) (by kernel_rfl) ?_; intro K hK)
    | (with_reducible refine awp_regAM (id := 16) [(1, some 1), (3, some 3)] mixed (by kernel_rfl) (by kernel_rfl) ?_; intro K hK)
    | (with_reducible refine a_cond (ht := ?_) (hf := ?_) <;> intro hb <;> (try simp at hb) <;> (try contradiction) <;> (try subst hb) <;> (try omega))
    | (with_reducible first | refine a_move (hr := ?_) | refine a_assign (hr := ?_) | refine a_load (hr := ?_) | refine a_fieldAddr (hr := ?_) | refine a_nilCheck (hr := ?_) | refine a_bin (hr := ?_) | refine a_lenS (hr := ?_) | refine a_lenR (hr := ?_) | refine a_extract (hr := ?_) | refine a_un (hr := ?_) | refine a_store (hr := ?_) | refine a_box (hr := ?_) | refine a_alloc (hr := ?_) | refine a_eqP (hr := ?_) | refine a_neP (hr := ?_) | refine a_neB (hr := ?_) | refine a_neS (hr := ?_) | refine a_index (hr := ?_) | refine a_buildSlice (hr := ?_) | refine a_append (hr := ?_) | refine a_append0 (hr := ?_) | refine a_appendX (hr := ?_) | refine a_callP (p := 1) (hcall := c_text 110 _ _ _ _ _ _ _ _) (hr := ?_))
    | fail)
          exact ⟨(i + 1, out ++ [n], ⟨k, ⟨#[]⟩, y, d, ii, t, o, a⟩), by simp only; omega, ⟨by simp only; omega, by simp only [List.length_append, List.length_singleton]; omega, hst, by simpa using g4, g5⟩, by dsimp only; rw [if_neg (by simp), if_neg (by simp)]; exact weak_ren 60 36 (by decide) (by decide) (by simp) (by simp) (by simp)⟩
        by_cases c107 : c = 107
        · subst c107
          have e : stepP 107 ⟨k, n, y, d, ii, t, o, a⟩ = (y, ⟨k, n, ⟨#[]⟩, d, ii, t, o, a⟩) := rfl
          rw [e] at g4 g5 hst
          simp only at g4 g5 hst
          repeat' (first
    | (with_reducible refine run_n ?_; with_reducible first | refine hK _ _ (by simp) ?_ | refine hK _ _ ?_; clear hK K)
    | (with_reducible first | refine awp_seq ?_ | refine then_n ?_ | refine then_r ?_ | refine then_e ?_ | refine awp_skip ?_ | refine awp_label ?_ | refine awp_ret ?_ | refine awp_exit ?_ | refine awp_block ?_ | refine awp_scope ?_ | refine in_n ?_ | refine in_r ?_ | refine in_e ?_ | refine in_ne (by decide) ?_ | refine ng_n ?_ | refine ng_r ?_ | refine ng_e ?_)
    | (with_reducible refine awp_regT (by kernel_rfl) ?_; intro K hK)
    | (with_reducible refine awp_regAM (id := 3) [(1, some 1), (3, some 3)] mixed (by kernel_rfl) (by kernel_rfl) ?_; intro K hK)
    | (with_reducible refine awp_regAM (id := 16) [(1, some 1), (3, some 3)] mixed (by kernel_rfl) (by kernel_rfl) ?_; intro K hK)
    | (with_reducible refine a_cond (ht := ?_) (hf := ?_) <;> intro hb <;> (try simp at hb) <;> (try contradiction) <;> (try subst hb) <;> (try omega))
    | (with_reducible first | refine a_move (hr := ?_) | refine a_assign (hr := ?_) | refine a_load (hr := ?_) | refine a_fieldAddr (hr := ?_) | refine a_nilCheck (hr := ?_) | refine a_bin (hr := ?_) | refine a_lenS (hr := ?_) | refine a_lenR (hr := ?_) | refine a_extract (hr := ?_) | refine a_un (hr := ?_) | refine a_store (hr := ?_) | refine a_box (hr := ?_) | refine a_alloc (hr := ?_) | refine a_eqP (hr := ?_) | refine a_neP (hr := ?_) | refine a_neB (hr := ?_) | refine a_neS (hr := ?_) | refine a_index (hr := ?_) | refine a_buildSlice (hr := ?_) | refine a_append (hr := ?_) | refine a_append0 (hr := ?_) | refine a_appendX (hr := ?_) | refine a_callP (p := 1) (hcall := c_text 107 _ _ _ _ _ _ _ _) (hr := ?_))
    | fail)
          exact ⟨(i + 1, out ++ [y], ⟨k, n, ⟨#[]⟩, d, ii, t, o, a⟩), by simp only; omega, ⟨by simp only; omega, by simp only [List.length_append, List.length_singleton]; omega, hst, by simpa using g4, g5⟩, by dsimp only; rw [if_neg (by simp), if_neg (by simp)]; exact weak_ren 60 36 (by decide) (by decide) (by simp) (by simp) (by simp)⟩
        by_cases c100 : c = 100
        · subst c100
          have e : stepP 100 ⟨k, n, y, d, ii, t, o, a⟩ = (d, ⟨k, n, y, ⟨#[]⟩, ii, t, o, a⟩) := rfl
          rw [e] at g4 g5 hst
          simp only at g4 g5 hst
          repeat' (first
    | (with_reducible refine run_n ?_; with_reducible first | refine hK _ _ (by simp) ?_ | refine hK _ _ ?_; clear hK K)
    | (with_reducible first | refine awp_seq ?_ | refine then_n ?_ | refine then_r ?_ | refine then_e ?_ | refine awp_skip ?_ | refine awp_label ?_ | refine awp_ret ?_ | refine awp_exit ?_ | refine awp_block ?_ | refine awp_scope ?_ | refine in_n ?_ | refine in_r ?_ | refine in_e ?_ | refine in_ne (by decide) ?_ | refine ng_n ?_ | refine ng_r ?_ | refine ng_e ?_)
    | (with_reducible refine awp_regT (by kernel_rfl) ?_; intro K hK)
    | (with_reducible refine awp_regAM (id := 3) [(1, some 1), (3, some 3)] mixed (by kernel_rfl) (by kernel_rfl) ?_; intro K hK)
    | (with_reducible refine awp_regAM (id := 16) [(1, some 1), (3, some 3)] mixed (by kernel_rfl) (by kernel_rfl) ?_; intro K hK)
    | (with_reducible refine a_cond (ht := ?_) (hf := ?_) <;> intro hb <;> (try simp at hb) <;> (try contradiction) <;> (try subst hb) <;> (try omega))
    | (with_reducible first | refine a_move (hr := ?_) | refine a_assign (hr := ?_) | refine a_load (hr := ?_) | refine a_fieldAddr (hr := ?_) | refine a_nilCheck (hr := ?_) | refine a_bin (hr := ?_) | refine a_lenS (hr := ?_) | refine a_lenR (hr := ?_) | refine a_extract (hr := ?_) | refine a_un (hr := ?_) | refine a_store (hr := ?_) | refine a_box (hr := ?_) | refine a_alloc (hr := ?_) | refine a_eqP (hr := ?_) | refine a_neP (hr := ?_) | refine a_neB (hr := ?_) | refine a_neS (hr := ?_) | refine a_index (hr := ?_) | refine a_buildSlice (hr := ?_) | refine a_append (hr := ?_) | refine a_append0 (hr := ?_) | refine a_appendX (hr := ?_) | refine a_callP (p := 1) (hcall := c_text 100 _ _ _ _ _ _ _ _) (hr := ?_))
    | fail)
          exact ⟨(i + 1, out ++ [d], ⟨k, n, y, ⟨#[]⟩, ii, t, o, a⟩), by simp only; omega, ⟨by simp only; omega, by simp only [List.length_append, List.length_singleton]; omega, hst, by simpa using g4, g5⟩, by dsimp only; rw [if_neg (by simp), if_neg (by simp)]; exact weak_ren 60 36 (by decide) (by decide) (by simp) (by simp) (by simp)⟩
        by_cases c105 : c = 105
        · subst c105
          have e : stepP 105 ⟨k, n, y, d, ii, t, o, a⟩ = (ii, ⟨k, n, y, d, ⟨#[]⟩, t, o, a⟩) := rfl
          rw [e] at g4 g5 hst
          simp only at g4 g5 hst
          repeat' (first
    | (with_reducible refine run_n ?_; with_reducible first | refine hK _ _ (by simp) ?_ | refine hK _ _ ?_; clear hK K)
    | (with_reducible first | refine awp_seq ?_ | refine then_n ?_ | refine then_r ?_ | refine then_e ?_ | refine awp_skip ?_ | refine awp_label ?_ | refine awp_ret ?_ | refine awp_exit ?_ | refine awp_block ?_ | refine awp_scope ?_ | refine in_n ?_ | refine in_r ?_ | refine in_e ?_ | refine in_ne (by decide) ?_ | refine ng_n ?_ | refine ng_r ?_ | refine ng_e ?_)
    | (with_reducible refine awp_regT (by kernel_rfl) ?_; intro K hK)
    | (with_reducible refine awp_regAM (id := 3) [(1, some 1), (3, some 3)] mixed (by kernel_rfl) (by kernel_rfl) ?_; intro K hK)
    | (with_reducible refine awp_regAM (id := 16) [(1, some 1), (3, some 3)] mixed (by kernel_rfl) (by kernel_rfl) ?_; intro K hK)
    | (with_reducible refine a_cond (ht := ?_) (hf := ?_) <;> intro hb <;> (try simp at hb) <;> (try contradiction) <;> (try subst hb) <;> (try omega))
    | (with_reducible first | refine a_move (hr := ?_) | refine a_assign (hr := ?_) | refine a_load (hr := ?_) | refine a_fieldAddr (hr := ?_) | refine a_nilCheck (hr := ?_) | refine a_bin (hr := ?_) | refine a_lenS (hr := ?_) | refine a_lenR (hr := ?_) | refine a_extract (hr := ?_) | refine a_un (hr := ?_) | refine a_store (hr := ?_) | refine a_box (hr := ?_) | refine a_alloc (hr := ?_) | refine a_eqP (hr := ?_) | refine a_neP (hr := ?_) | refine a_neB (hr := ?_) | refine a_neS (hr := ?_) | refine a_index (hr := ?_) | refine a_buildSlice (hr := ?_) | refine a_append (hr := ?_) | refine a_append0 (hr := ?_) | refine a_appendX (hr := ?_) | refine a_callP (p := 1) (hcall := c_text 105 _ _ _ _ _ _ _ _) (hr := ?_))
    | fail)
          exact ⟨(i + 1, out ++ [ii], ⟨k, n, y, d, ⟨#[]⟩, t, o, a⟩), by simp only; omega, ⟨by simp only; omega, by simp only [List.length_append, List.length_singleton]; omega, hst, by simpa using g4, g5⟩, by dsimp only; rw [if_neg (by simp), if_neg (by simp)]; exact weak_ren 60 36 (by decide) (by decide) (by simp) (by simp) (by simp)⟩
        by_cases c116 : c = 116
        · subst c116
          have e : stepP 116 ⟨k, n, y, d, ii, t, o, a⟩ = (strOfNums (hexs t), ⟨k, n, y, d, ii, 0, o, a⟩) := rfl
          rw [e] at g4 g5 hst
          simp only at g4 g5 hst
          repeat' (first
    | (with_reducible refine run_n ?_; with_reducible first | refine hK _ _ (by simp) ?_ | refine hK _ _ ?_; clear hK K)
    | (with_reducible first | refine awp_seq ?_ | refine then_n ?_ | refine then_r ?_ | refine then_e ?_ | refine awp_skip ?_ | refine awp_label ?_ | refine awp_ret ?_ | refine awp_exit ?_ | refine awp_block ?_ | refine awp_scope ?_ | refine in_n ?_ | refine in_r ?_ | refine in_e ?_ | refine in_ne (by decide) ?_ | refine ng_n ?_ | refine ng_r ?_ | refine ng_e ?_)
    | (with_reducible refine awp_regT (by kernel_rfl) ?_; intro K hK)
    | (with_reducible refine awp_regAM (id := 3) [(1, some 1), (3, some 3)] mixed (by kernel_rfl) (by kernel_rfl) ?_; intro K hK)
    | (with_reducible refine awp_regAM (id := 16) [(1, some 1), (3, some 3)] mixed (by kernel_rfl) (by kernel_rfl) ?_; intro K hK)
    | (with_reducible refine a_cond (ht := ?_) (hf := ?_) <;> intro hb <;> (try simp at hb) <;> (try contradiction) <;> (try subst hb) <;> (try omega))
    | (with_reducible first | refine a_move (hr := ?_) | refine a_assign (hr := ?_) | refine a_load (hr := ?_) | refine a_fieldAddr (hr := ?_) | refine a_nilCheck (hr := ?_) | refine a_bin (hr := ?_) | refine a_lenS (hr := ?_) | refine a_lenR (hr := ?_) | refine a_extract (hr := ?_) | refine a_un (hr := ?_) | refine a_store (hr := ?_) | refine a_box (hr := ?_) | refine a_alloc (hr := ?_) | refine a_eqP (hr := ?_) | refine a_neP (hr := ?_) | refine a_neB (hr := ?_) | refine a_neS (hr := ?_) | refine a_index (hr := ?_) | refine a_buildSlice (hr := ?_) | refine a_append (hr := ?_) | refine a_append0 (hr := ?_) | refine a_appendX (hr := ?_) | refine a_callP (p := 1) (hcall := c_text0 116 _ _ _ _ _ _ _ _ (by decide) (by decide) (by decide) (by decide)) (hr := ?_) | refine a_callP (p := 1) (hcall := c_number 116 _ _ _ _ _ _ _ _) (hr := ?_) | refine a_call0 (hcall := c_Number _ t1 t2) (hr := ?_))
    | fail)
          exact ⟨(i + 1, out ++ [strOfNums (hexs t)], ⟨k, n, y, d, ii, 0, o, a⟩), by simp only; omega, ⟨by simp only; omega, by simp only [List.length_append, List.length_singleton]; omega, hst, by simpa using g4, g5⟩, by dsimp only; rw [if_neg (by simp), if_neg (by simp)]; exact weak_ren 60 49 (by decide) (by decide) (by simp) (by simp) (by simp)⟩
        by_cases c111 : c = 111
        · subst c111
          have e : stepP 111 ⟨k, n, y, d, ii, t, o, a⟩ = (strOfNums (hexs o), ⟨k, n, y, d, ii, t, 0, a⟩) := rfl
          rw [e] at g4 g5 hst
          simp only at g4 g5 hst
          repeat' (first
    | (with_reducible refine run_n ?_; with_reducible first | refine hK _ _ (by simp) ?_ | refine hK _ _ ?_; clear hK K)
    | (with_reducible first | refine awp_seq ?_ | refine then_n ?_ | refine then_r ?_ | refine then_e ?_ | refine awp_skip ?_ | refine awp_label ?_ | refine awp_ret ?_ | refine awp_exit ?_ | refine awp_block ?_ | refine awp_scope ?_ | refine in_n ?_ | refine in_r ?_ | refine in_e ?_ | refine in_ne (by decide) ?_ | refine ng_n ?_ | refine ng_r ?_ | refine ng_e ?_)
    | (with_reducible refine awp_regT (by kernel_rfl) ?_; intro K hK)
    | (with_reducible refine awp_regAM (id := 3) [(1, some 1), (3, some 3)] mixed (by kernel_rfl) (by kernel_rfl) ?_; intro K hK)
    | (with_reducible refine awp_regAM (id := 16) [(1, some 1), (3, some 3)] mixed (by kernel_rfl) (by kernel_rfl) ?_; intro K hK)
    | (with_reducible refine a_cond (ht := ?_) (hf := ?_) <;> intro hb <;> (try simp at hb) <;> (try contradiction) <;> (try subst hb) <;> (try omega))
    | (with_reducible first | refine a_move (hr := ?_) | refine a_assign (hr := ?_) | refine a_load (hr := ?_) | refine a_fieldAddr (hr := ?_) | refine a_nilCheck (hr := ?_) | refine a_bin (hr := ?_) | refine a_lenS (hr := ?_) | refine a_lenR (hr := ?_) | refine a_extract (hr := ?_) | refine a_un (hr := ?_) | refine a_store (hr := ?_) | refine a_box (hr := ?_) | refine a_alloc (hr := ?_) | refine a_eqP (hr := ?_) | refine a_neP (hr := ?_) | refine a_neB (hr := ?_) | refine a_neS (hr := ?_) | refine a_index (hr := ?_) | refine a_buildSlice (hr := ?_) | refine a_append (hr := ?_) | refine a_append0 (hr := ?_) | refine a_appendX (hr := ?_) | refine a_callP (p := 1) (hcall := c_text0 111 _ _ _ _ _ _ _ _ (by decide) (by decide) (by decide) (by decide)) (hr := ?_) | refine a_callP (p := 1) (hcall := c_number 111 _ _ _ _ _ _ _ _) (hr := ?_) | refine a_call0 (hcall := c_Number _ o1 o2) (hr := ?_))
    | fail)
          exact ⟨(i + 1, out ++ [strOfNums (hexs o)], ⟨k, n, y, d, ii, t, 0, a⟩), by simp only; omega, ⟨by simp only; omega, by simp only [List.length_append, List.length_singleton]; omega, hst, by simpa using g4, g5⟩, by dsimp only; rw [if_neg (by simp), if_neg (by simp)]; exact weak_ren 60 49 (by decide) (by decide) (by simp) (by simp) (by simp)⟩
        have e : stepP c ⟨k, n, y, d, ii, t, o, a⟩ = (strOfNums (hexs a), ⟨k, n, y, d, ii, t, o, 0⟩) := by unfold stepP; rw [if_neg c110, if_neg c107, if_neg c100, if_neg c105, if_neg c116, if_neg c111]
        rw [e] at g4 g5 hst
        simp only at g4 g5 hst
        repeat' (first
    | (with_reducible refine run_n ?_; with_reducible first | refine hK _ _ (by simp) ?_ | refine hK _ _ ?_; clear hK K)
    | (with_reducible first | refine awp_seq ?_ | refine then_n ?_ | refine then_r ?_ | refine then_e ?_ | refine awp_skip ?_ | refine awp_label ?_ | refine awp_ret ?_ | refine awp_exit ?_ | refine awp_block ?_ | refine awp_scope ?_ | refine in_n ?_ | refine in_r ?_ | refine in_e ?_ | refine in_ne (by decide) ?_ | refine ng_n ?_ | refine ng_r ?_ | refine ng_e ?_)
    | (with_reducible refine awp_regT (by kernel_rfl) ?_; intro K hK)
    | (with_reducible refine awp_regAM (id := 3) [(1, some 1), (3, some 3)] mixed (by kernel_rfl) (by kernel_rfl) ?_; intro K hK)
    | (with_reducible refine awp_regAM (id := 16) [(1, some 1), (3, some 3)] mixed (by kernel_rfl) (by kernel_rfl) ?_; intro K hK)
    | (with_reducible refine a_cond (ht := ?_) (hf := ?_) <;> intro hb <;> (try simp at hb) <;> (try contradiction) <;> (try subst hb) <;> (try omega))
    | (with_reducible first | refine a_move (hr := ?_) | refine a_assign (hr := ?_) | refine a_load (hr := ?_) | refine a_fieldAddr (hr := ?_) | refine a_nilCheck (hr := ?_) | refine a_bin (hr := ?_) | refine a_lenS (hr := ?_) | refine a_lenR (hr := ?_) | refine a_extract (hr := ?_) | refine a_un (hr := ?_) | refine a_store (hr := ?_) | refine a_box (hr := ?_) | refine a_alloc (hr := ?_) | refine a_eqP (hr := ?_) | refine a_neP (hr := ?_) | refine a_neB (hr := ?_) | refine a_neS (hr := ?_) | refine a_index (hr := ?_) | refine a_buildSlice (hr := ?_) | refine a_append (hr := ?_) | refine a_append0 (hr := ?_) | refine a_appendX (hr := ?_) | refine a_callP (p := 1) (hcall := c_text0 c _ _ _ _ _ _ _ _ c110 c107 c100 c105) (hr := ?_) | refine a_callP (p := 1) (hcall := c_numA c _ _ _ _ _ _ _ _ c116 c111) (hr := ?_) | refine a_call0 (hcall := c_Number _ a1 a2) (hr := ?_))
    | fail)
        exact ⟨(i + 1, out ++ [strOfNums (hexs a)], ⟨k, n, y, d, ii, t, o, 0⟩), by simp only; omega, ⟨by simp only; omega, by simp only [List.length_append, List.length_singleton]; omega, hst, by simpa using g4, g5⟩, by dsimp only; rw [if_neg (by simp), if_neg (by simp)]; exact weak_ren 60 49 (by decide) (by decide) (by simp) (by simp) (by simp)⟩
    · obtain rfl : i = s.size := by omega
      rw [List.drop_of_length_le (by rw [len_bytes]; omega)] at g4 g5
      simp only [partsL, List.append_nil] at g4 g5
      rw [← g4, ← g5] at hQ
      by_cases hout : out = []
      · rw [if_pos hout, if_pos hout]
        subst hout
        repeat' (first
    | (with_reducible refine run_n ?_; with_reducible first | refine hK _ _ (by simp) ?_ | refine hK _ _ ?_; clear hK K)
    | (with_reducible first | refine awp_seq ?_ | refine then_n ?_ | refine then_r ?_ | refine then_e ?_ | refine awp_skip ?_ | refine awp_label ?_ | refine awp_ret ?_ | refine awp_exit ?_ | refine awp_block ?_ | refine awp_scope ?_ | refine in_n ?_ | refine in_r ?_ | refine in_e ?_ | refine in_ne (by decide) ?_ | refine ng_n ?_ | refine ng_r ?_ | refine ng_e ?_)
    | (with_reducible refine awp_regT (by kernel_rfl) ?_; intro K hK)
    | (with_reducible refine awp_regAM (id := 3) [(1, some 1), (3, some 3)] mixed (by kernel_rfl) (by kernel_rfl) ?_; intro K hK)
    | (with_reducible refine awp_regAM (id := 16) [(1, some 1), (3, some 3)] mixed (by kernel_rfl) (by kernel_rfl) ?_; intro K hK)
    | (with_reducible refine a_cond (ht := ?_) (hf := ?_) <;> intro hb <;> (try simp at hb) <;> (try contradiction) <;> (try subst hb) <;> (try omega))
    | (with_reducible first | refine a_move (hr := ?_) | refine a_assign (hr := ?_) | refine a_load (hr := ?_) | refine a_fieldAddr (hr := ?_) | refine a_nilCheck (hr := ?_) | refine a_bin (hr := ?_) | refine a_lenS (hr := ?_) | refine a_lenR (hr := ?_) | refine a_extract (hr := ?_) | refine a_un (hr := ?_) | refine a_store (hr := ?_) | refine a_box (hr := ?_) | refine a_alloc (hr := ?_) | refine a_eqP (hr := ?_) | refine a_neP (hr := ?_) | refine a_neB (hr := ?_) | refine a_neS (hr := ?_) | refine a_index (hr := ?_) | refine a_buildSlice (hr := ?_) | refine a_append (hr := ?_) | refine a_append0 (hr := ?_) | refine a_appendX (hr := ?_))
    | fail)
        (refine hQ _ _ _ _ (by first | exact .inr rfl | exact .inl rfl) (by simp; exact .r) (by simp; exact .r) ?_)
        exact (Fin.drop (by simp; exact .r) (by simp)).trans Fin.tupNil
      · rw [if_neg hout, if_neg hout]
        repeat' (first
    | (with_reducible refine run_n ?_; with_reducible first | refine hK _ _ (by simp) ?_ | refine hK _ _ ?_; clear hK K)
    | (with_reducible first | refine awp_seq ?_ | refine then_n ?_ | refine then_r ?_ | refine then_e ?_ | refine awp_skip ?_ | refine awp_label ?_ | refine awp_ret ?_ | refine awp_exit ?_ | refine awp_block ?_ | refine awp_scope ?_ | refine in_n ?_ | refine in_r ?_ | refine in_e ?_ | refine in_ne (by decide) ?_ | refine ng_n ?_ | refine ng_r ?_ | refine ng_e ?_)
    | (with_reducible refine awp_regT (by kernel_rfl) ?_; intro K hK)
    | (with_reducible refine awp_regAM (id := 3) [(1, some 1), (3, some 3)] mixed (by kernel_rfl) (by kernel_rfl) ?_; intro K hK)
    | (with_reducible refine awp_regAM (id := 16) [(1, some 1), (3, some 3)] mixed (by kernel_rfl) (by kernel_rfl) ?_; intro K hK)
    | (with_reducible refine a_cond (ht := ?_) (hf := ?_) <;> intro hb <;> (try simp at hb) <;> (try contradiction) <;> (try subst hb) <;> (try omega))
    | (with_reducible first | refine a_move (hr := ?_) | refine a_assign (hr := ?_) | refine a_load (hr := ?_) | refine a_fieldAddr (hr := ?_) | refine a_nilCheck (hr := ?_) | refine a_bin (hr := ?_) | refine a_lenS (hr := ?_) | refine a_lenR (hr := ?_) | refine a_extract (hr := ?_) | refine a_un (hr := ?_) | refine a_store (hr := ?_) | refine a_box (hr := ?_) | refine a_alloc (hr := ?_) | refine a_eqP (hr := ?_) | refine a_neP (hr := ?_) | refine a_neB (hr := ?_) | refine a_neS (hr := ?_) | refine a_index (hr := ?_) | refine a_buildSlice (hr := ?_) | refine a_append (hr := ?_) | refine a_append0 (hr := ?_) | refine a_appendX (hr := ?_))
    | fail)
        (refine hQ _ _ _ _ (by first | exact .inr rfl | exact .inl rfl) (by simp; exact .r) (by simp; exact .r) ?_)
        exact Fin.frzR (by simp; exact .r) (by simp; exact .r) (by simp; exact .r) (by simp)
  · rw [if_neg hk]
    have hk' : (lay r.k).2 = false := by simpa using hk
    rw [hk'] at hL
    refine calls_go (nt := 55) (rs := [.tmp 2, .cell 3 27, .tmp 4]) Try.func45 rfl rfl rfl (by simp) (by intro id h; simp at h <;> omega) ?_; intro Q hQ hW
    repeat' (first
    | (with_reducible refine run_n ?_; with_reducible first | refine hK _ _ (by simp) ?_ | refine hK _ _ ?_; clear hK K)
    | (with_reducible first | refine awp_seq ?_ | refine then_n ?_ | refine then_r ?_ | refine then_e ?_ | refine awp_skip ?_ | refine awp_label ?_ | refine awp_ret ?_ | refine awp_exit ?_ | refine awp_block ?_ | refine awp_scope ?_ | refine in_n ?_ | refine in_r ?_ | refine in_e ?_ | refine in_ne (by decide) ?_ | refine ng_n ?_ | refine ng_r ?_ | refine ng_e ?_)
    | (with_reducible refine awp_regT (by kernel_rfl) ?_; intro K hK)
    | (with_reducible refine awp_regAM (id := 3) [(1, some 1), (3, some 3)] mixed (by kernel_rfl) (by kernel_rfl) ?_; intro K hK)
    | (with_reducible refine awp_regAM (id := 16) [(1, some 1), (3, some 3)] mixed (by kernel_rfl) (by kernel_rfl) ?_; intro K hK)
    | (with_reducible refine a_cond (ht := ?_) (hf := ?_) <;> intro hb <;> (try simp at hb) <;> (try contradiction) <;> (try subst hb) <;> (try omega))
    | (with_reducible first | refine a_move (hr := ?_) | refine a_assign (hr := ?_) | refine a_load (hr := ?_) | refine a_fieldAddr (hr := ?_) | refine a_nilCheck (hr := ?_) | refine a_bin (hr := ?_) | refine a_lenS (hr := ?_) | refine a_lenR (hr := ?_) | refine a_extract (hr := ?_) | refine a_un (hr := ?_) | refine a_store (hr := ?_) | refine a_box (hr := ?_) | refine a_alloc (hr := ?_) | refine a_eqP (hr := ?_) | refine a_neP (hr := ?_) | refine a_neB (hr := ?_) | refine a_neS (hr := ?_) | refine a_index (hr := ?_) | refine a_buildSlice (hr := ?_) | refine a_append (hr := ?_) | refine a_append0 (hr := ?_) | refine a_appendX (hr := ?_) | refine a_call0 (hcall := hL) (hr := ?_))
    | fail)
    (refine hQ _ _ _ _ (by first | exact .inr rfl | exact .inl rfl) (by simp; exact .r) (by simp; exact .r) ?_)
    exact (Fin.drop (by simp; exact .r) (by simp)).trans Fin.tupNil
end Go.Proofs.Ytdbdajmgfajcpaa.Asl

namespace Go.Proofs.Ytdbdajmgfajcpaa.Asl
open Go Go.RowKit
set_option linter.unusedVariables false
set_option linter.unusedSimpArgs false
set_option maxRecDepth 100000
set_option maxHeartbeats 2000000
attribute [local simp] AV.flat AV.flats
theorem exKey_eq : strOfNums (keyb 116 [⟨#[97]⟩, strOfNums (hexs 1)]) = ⟨#[116, 97, 0, 1, 48, 48, 48, 48, 48, 48, 48, 48, 48, 48, 48, 48, 48, 48, 48, 49, 0, 1]⟩ := by decide
theorem exParts : partsL (bytesOf (lay 116).1) ⟨116, ⟨#[]⟩, ⟨#[]⟩, ⟨#[]⟩, ⟨#[97]⟩, 1, 0, 0⟩ = ([⟨#[97]⟩, strOfNums (hexs 1)], ⟨116, ⟨#[]⟩, ⟨#[]⟩, ⟨#[]⟩, ⟨#[]⟩, 0, 0, 0⟩) := rfl
theorem c_KeyL : CallD Try.prog 15 [refAV 116 ⟨#[]⟩ ⟨#[]⟩ ⟨#[]⟩ ⟨#[97]⟩ 1 0 0] noHeap (.tup [.raw (.string ⟨#[116, 97, 0, 1, 48, 48, 48, 48, 48, 48, 48, 48, 48, 48, 48, 48, 48, 48, 48, 49, 0, 1]⟩), .raw (.int .i64 0)]) noHeap := by
  have hp := c_parts ⟨116, ⟨#[]⟩, ⟨#[]⟩, ⟨#[]⟩, ⟨#[97]⟩, 1, 0, 0⟩ (by unfold RefV.ok inU; decide)
  rw [if_pos (by decide), exParts] at hp
  have hm := c_Make 116 [⟨#[97]⟩, strOfNums (hexs 1)] (by decide) (by decide) (by decide) (by decide)
  rw [exKey_eq] at hm
  generalize strOfNums (hexs 1) = z at hp hm
  refine calls_go (nt := 25) (rs := [.tmp 2, .tmp 3]) Try.func15 rfl rfl rfl (by simp) (by intro id h; simp at h <;> omega) ?_; intro Q hQ hW
  repeat' (first
    | (with_reducible refine run_n ?_; with_reducible first | refine hK _ _ (by simp) ?_ | refine hK _ _ ?_; clear hK K)
    | (with_reducible first | refine awp_seq ?_ | refine then_n ?_ | refine then_r ?_ | refine then_e ?_ | refine awp_skip ?_ | refine awp_label ?_ | refine awp_ret ?_ | refine awp_exit ?_ | refine awp_block ?_ | refine awp_scope ?_ | refine in_n ?_ | refine in_r ?_ | refine in_e ?_ | refine in_ne (by decide) ?_ | refine ng_n ?_ | refine ng_r ?_ | refine ng_e ?_)
    | (with_reducible refine awp_regT (by kernel_rfl) ?_; intro K hK)
    | (with_reducible refine a_cond (ht := ?_) (hf := ?_) <;> intro hb <;> (try simp at hb) <;> (try contradiction) <;> (try subst hb) <;> (try omega))
    | (with_reducible first | refine a_move (hr := ?_) | refine a_assign (hr := ?_) | refine a_load (hr := ?_) | refine a_fieldAddr (hr := ?_) | refine a_bin (hr := ?_) | refine a_extract (hr := ?_) | refine a_store (hr := ?_) | refine a_box (hr := ?_) | refine a_alloc (hr := ?_) | refine a_neB (hr := ?_) | refine a_neS (hr := ?_) | refine a_build (hr := ?_) | refine a_call0 (hcall := hp) (hr := ?_) | refine a_callL (hcall := hm) (hr := ?_))
    | fail)
  (refine hQ _ _ _ _ (by first | exact .inr rfl | exact .inl rfl) (by simp; exact .r) (by simp; exact .r) ?_)
  exact Fin.drop (by simp; exact .r) (by simp)
theorem c_PutTokenL : CallD Try.prog 27 [tokAV 2 0 (-1)] noHeap (.sl 1 (u8s [2, 0, 0])) noHeap := by
  have := c_PutToken 2 0 (-1) (by decide) (by decide)
  rwa [show putTok 2 0 (-1) = [2, 0, 0] by decide] at this
theorem c_live : CallD Try.prog 11 [] noHeap (.raw (.bool true)) noHeap := by
  refine calls_go (nt := 20) (rs := [.tmp 0]) Try.func11 rfl rfl rfl (by simp) (by intro id h; simp at h <;> omega) ?_; intro Q hQ hW
  repeat' (first
    | (with_reducible refine run_n ?_; with_reducible first | refine hK _ _ (by simp) ?_ | refine hK _ _ ?_; clear hK K)
    | (with_reducible first | refine awp_seq ?_ | refine then_n ?_ | refine then_r ?_ | refine then_e ?_ | refine awp_skip ?_ | refine awp_label ?_ | refine awp_ret ?_ | refine awp_exit ?_ | refine awp_block ?_ | refine awp_scope ?_ | refine in_n ?_ | refine in_r ?_ | refine in_e ?_ | refine in_ne (by decide) ?_ | refine ng_n ?_ | refine ng_r ?_ | refine ng_e ?_)
    | (with_reducible refine awp_regT (by kernel_rfl) ?_; intro K hK)
    | (with_reducible refine a_cond (ht := ?_) (hf := ?_) <;> intro hb <;> (try simp at hb) <;> (try contradiction) <;> (try subst hb) <;> (try omega))
    | (with_reducible first | refine a_move (hr := ?_) | refine a_assign (hr := ?_) | refine a_bin (hr := ?_) | refine a_extract (hr := ?_) | refine a_pick (hr := ?_) | refine a_eqB (hr := ?_) | refine a_conv (hr := ?_) | refine a_bytesStr (hr := ?_) | refine a_strBytes (hr := ?_) | refine a_eqS (hr := ?_) | refine a_build (hr := ?_) | refine a_call0 (hcall := c_KeyL) (hr := ?_) | refine a_callN (hcall := c_PutTokenL) (hr := ?_) | refine a_gT (hr := ?_) | refine a_gF (hr := ?_) | refine a_gU (hr := ?_))
    | (with_reducible refine a_gB (hT := ?_) (hF := ?_) <;> intro hb <;> (try simp at hb) <;> (try contradiction) <;> (try subst hb) <;> (try omega))
    | fail)
  all_goals (try (refine hQ _ _ _ _ (by first | exact .inr rfl | exact .inl rfl) (by simp; exact .r) (by simp; exact .r) ?_))
  all_goals (exact Fin.drop (by simp; exact .r) (by simp))
abbrev armAV (k : Int) (n y : ByteArray) (d : Int) : AV := .agg [.raw (.int .i64 k), .raw (.string n), .raw (.string y), .raw (.int .u64 d)]
end Go.Proofs.Ytdbdajmgfajcpaa.Asl

namespace Go.Proofs.Ytdbdajmgfajcpaa.Asl
open Go Go.RowKit
set_option linter.unusedVariables false
set_option linter.unusedSimpArgs false
set_option maxRecDepth 100000
set_option maxHeartbeats 1000000
def letB (c : Int) : Bool := decide (97 ≤ c) && decide (c ≤ 122)
def chB (c : Int) : Bool := letB c || (decide (48 ≤ c) && decide (c ≤ 57)) || decide (c = 45)
/-- A name. -/
def nameB (l : List Int) : Bool := match l with | [] => false | c :: _ => letB c && l.all chB && decide (l.length ≤ 16)
theorem c_Name (s : ByteArray) (hs : s.size < 9223372036854775808) : CallD Try.prog 97 [.raw (.string s)] noHeap (.raw (.bool (nameB (bytesOf s)))) noHeap := by
  rcases Nat.eq_zero_or_pos s.size with h0 | h0
  · obtain rfl : s = ⟨#[]⟩ := ByteArray.ext (Array.eq_empty_of_size_eq_zero h0)
    refine calls_go (nt := 46) (rs := [.tmp 2]) Try.func97 rfl rfl rfl (by simp) (by intro id h; simp at h <;> omega) ?_; intro Q hQ hW
    repeat' (first
    | (with_reducible refine run_n ?_; with_reducible first | refine hK _ _ (by simp) ?_ | refine hK _ _ ?_; clear hK K)
    | (with_reducible first | refine awp_seq ?_ | refine then_n ?_ | refine then_r ?_ | refine then_e ?_ | refine awp_skip ?_ | refine awp_label ?_ | refine awp_ret ?_ | refine awp_exit ?_ | refine awp_block ?_ | refine awp_scope ?_ | refine in_n ?_ | refine in_r ?_ | refine in_e ?_ | refine in_ne (by decide) ?_ | refine ng_n ?_ | refine ng_r ?_ | refine ng_e ?_)
    | (with_reducible refine awp_regT (by kernel_rfl) ?_; intro K hK)
    | (with_reducible refine a_cond (ht := ?_) (hf := ?_) <;> intro hb <;> (try simp at hb) <;> (try contradiction) <;> (try subst hb) <;> (try omega))
    | (with_reducible first | refine a_move (hr := ?_) | refine a_assign (hr := ?_) | refine a_bin (hr := ?_) | refine a_lenS (hr := ?_) | refine a_lenR (hr := ?_) | refine a_pick (hr := ?_) | refine a_eqB (hr := ?_) | refine a_eqS (hr := ?_) | refine a_index (hr := ?_) | refine a_gT (hr := ?_) | refine a_gF (hr := ?_) | refine a_gU (hr := ?_))
    | (with_reducible refine a_gB (hT := ?_) (hF := ?_) <;> intro hb <;> (try simp at hb) <;> (try contradiction) <;> (try subst hb) <;> (try omega))
    | fail)
    (refine hQ _ _ _ _ (by first | exact .inr rfl | exact .inl rfl) (by simp; exact .r) (by simp; exact .r) ?_)
    exact Fin.drop (by simp; exact .r) (by simp)
  have hne : ¬ s = ⟨#[]⟩ := fun e => by subst e; simp at h0
  have hd := drop_byte s 0 h0
  rw [List.drop_zero] at hd
  have hl := len_bytes s
  by_cases hA : letB (byteAt s 0) = true ∧ s.size ≤ 16
  · have hN : nameB (bytesOf s) = (bytesOf s).all chB := by
      have : nameB (bytesOf s) = (letB (byteAt s 0) && (bytesOf s).all chB && decide ((bytesOf s).length ≤ 16)) := by
        conv => lhs; rw [hd]
        rw [nameB, ← hd]; rfl
      rw [this, hA.1, hl]; simp [hA.2]
    rw [hN]
    have hA1 := hA.1
    simp only [letB, Bool.and_eq_true, decide_eq_true_eq] at hA1
    clear hd
    refine calls_go (nt := 46) (rs := [.tmp 2]) Try.func97 rfl rfl rfl (by simp) (by intro id h; simp at h <;> omega) ?_; intro Q hQ hW
    repeat' (first
    | (with_reducible refine run_n ?_; with_reducible first | refine hK _ _ (by simp) ?_ | refine hK _ _ ?_; clear hK K)
    | (with_reducible first | refine awp_seq ?_ | refine then_n ?_ | refine then_r ?_ | refine then_e ?_ | refine awp_skip ?_ | refine awp_label ?_ | refine awp_ret ?_ | refine awp_exit ?_ | refine awp_block ?_ | refine awp_scope ?_ | refine in_n ?_ | refine in_r ?_ | refine in_e ?_ | refine in_ne (by decide) ?_ | refine ng_n ?_ | refine ng_r ?_ | refine ng_e ?_)
    | (with_reducible refine awp_regT (by kernel_rfl) ?_; intro K hK)
    | (with_reducible refine a_cond (ht := ?_) (hf := ?_) <;> intro hb <;> (try simp at hb) <;> (try contradiction) <;> (try subst hb) <;> (try omega))
    | (with_reducible first | refine a_move (hr := ?_) | refine a_assign (hr := ?_) | refine a_bin (hr := ?_) | refine a_lenS (hr := ?_) | refine a_lenR (hr := ?_) | refine a_pick (hr := ?_) | refine a_eqB (hr := ?_) | refine a_eqS (hr := ?_) | refine a_index (hr := ?_) | refine a_gT (hr := ?_) | refine a_gF (hr := ?_) | refine a_gU (hr := ?_))
    | (with_reducible refine a_gB (hT := ?_) (hF := ?_) <;> intro hb <;> (try simp at hb) <;> (try contradiction) <;> (try subst hb) <;> (try omega))
    | fail)
    refine awp_inv (α := Nat) (fun i => [(0, .raw (.string s)), (23, .raw (.int .i64 s.size)), (24, .raw (.int .i64 i))]) (fun _ => hpL []) (fun i => i ≤ s.size ∧ ((bytesOf s).drop i).all chB = (bytesOf s).all chB) (fun i => s.size - i) 0 ⟨by simp, by simp⟩ (weak_o (by repeat' (first | refine sub_ohp (by first | (simp; done) | (intro hne; simp at hne; simp [hne])) (by simp) ?_ | exact sub_hpL (by simp))) (by simp) (by simp <;> omega)) ?_
    rintro i ⟨g1, g2⟩
    rw [← g2] at hQ
    rcases Nat.lt_or_ge i s.size with hlt | hge
    · have hdi := drop_byte s i hlt
      have hc : chB (byteAt s i) = true ∨ chB (byteAt s i) = false := by cases chB (byteAt s i) <;> simp
      rw [hdi, List.all_cons] at g2 hQ
      generalize hby : byteAt s (i : Int) = c at g2 hQ hc
      rcases hc with hc | hc
      · rw [hc, Bool.true_and] at g2 hQ
        repeat' (first
    | (with_reducible refine run_n ?_; with_reducible first | refine hK _ _ (by simp) ?_ | refine hK _ _ ?_; clear hK K)
    | (with_reducible first | refine awp_seq ?_ | refine then_n ?_ | refine then_r ?_ | refine then_e ?_ | refine awp_skip ?_ | refine awp_label ?_ | refine awp_ret ?_ | refine awp_exit ?_ | refine awp_block ?_ | refine awp_scope ?_ | refine in_n ?_ | refine in_r ?_ | refine in_e ?_ | refine in_ne (by decide) ?_ | refine ng_n ?_ | refine ng_r ?_ | refine ng_e ?_)
    | (with_reducible refine awp_regT (by kernel_rfl) ?_; intro K hK)
    | (with_reducible refine a_cond (ht := ?_) (hf := ?_) <;> intro hb <;> (try simp at hb) <;> (try contradiction) <;> (try subst hb) <;> (try omega))
    | (with_reducible first | refine a_move (hr := ?_) | refine a_assign (hr := ?_) | refine a_bin (hr := ?_) | refine a_lenS (hr := ?_) | refine a_lenR (hr := ?_) | refine a_pick (hr := ?_) | refine a_eqB (hr := ?_) | refine a_eqS (hr := ?_) | refine a_index (hr := ?_) | refine a_gT (hr := ?_) | refine a_gF (hr := ?_) | refine a_gU (hr := ?_))
    | (with_reducible refine a_gB (hT := ?_) (hF := ?_) <;> intro hb <;> (try simp at hb) <;> (try contradiction) <;> (try subst hb) <;> (try omega))
    | fail)
        all_goals (first | exact ⟨i + 1, by omega, ⟨by omega, g2⟩, weak_o (by repeat' (first | refine sub_ohp (by first | (simp; done) | (intro hne; simp at hne; simp [hne])) (by simp) ?_ | exact sub_hpL (by simp))) (by simp) (by simp <;> omega)⟩ | (exfalso; simp [chB, letB] at hc; omega))
      · rw [hc, Bool.false_and] at g2 hQ
        simp [chB, letB] at hc
        repeat' (first
    | (with_reducible refine run_n ?_; with_reducible first | refine hK _ _ (by simp) ?_ | refine hK _ _ ?_; clear hK K)
    | (with_reducible first | refine awp_seq ?_ | refine then_n ?_ | refine then_r ?_ | refine then_e ?_ | refine awp_skip ?_ | refine awp_label ?_ | refine awp_ret ?_ | refine awp_exit ?_ | refine awp_block ?_ | refine awp_scope ?_ | refine in_n ?_ | refine in_r ?_ | refine in_e ?_ | refine in_ne (by decide) ?_ | refine ng_n ?_ | refine ng_r ?_ | refine ng_e ?_)
    | (with_reducible refine awp_regT (by kernel_rfl) ?_; intro K hK)
    | (with_reducible refine a_cond (ht := ?_) (hf := ?_) <;> intro hb <;> (try simp at hb) <;> (try contradiction) <;> (try subst hb) <;> (try omega))
    | (with_reducible first | refine a_move (hr := ?_) | refine a_assign (hr := ?_) | refine a_bin (hr := ?_) | refine a_lenS (hr := ?_) | refine a_lenR (hr := ?_) | refine a_pick (hr := ?_) | refine a_eqB (hr := ?_) | refine a_eqS (hr := ?_) | refine a_index (hr := ?_) | refine a_gT (hr := ?_) | refine a_gF (hr := ?_) | refine a_gU (hr := ?_))
    | (with_reducible refine a_gB (hT := ?_) (hF := ?_) <;> intro hb <;> (try simp at hb) <;> (try contradiction) <;> (try subst hb) <;> (try omega))
    | fail)
        all_goals (first | (exfalso; omega) | ((refine hQ _ _ _ _ (by first | exact .inr rfl | exact .inl rfl) (by simp; exact .r) (by simp; exact .r) ?_); exact Fin.drop (by simp; exact .r) (by simp)))
    · obtain rfl : i = s.size := by omega
      rw [List.drop_of_length_le (by omega)] at hQ
      repeat' (first
    | (with_reducible refine run_n ?_; with_reducible first | refine hK _ _ (by simp) ?_ | refine hK _ _ ?_; clear hK K)
    | (with_reducible first | refine awp_seq ?_ | refine then_n ?_ | refine then_r ?_ | refine then_e ?_ | refine awp_skip ?_ | refine awp_label ?_ | refine awp_ret ?_ | refine awp_exit ?_ | refine awp_block ?_ | refine awp_scope ?_ | refine in_n ?_ | refine in_r ?_ | refine in_e ?_ | refine in_ne (by decide) ?_ | refine ng_n ?_ | refine ng_r ?_ | refine ng_e ?_)
    | (with_reducible refine awp_regT (by kernel_rfl) ?_; intro K hK)
    | (with_reducible refine a_cond (ht := ?_) (hf := ?_) <;> intro hb <;> (try simp at hb) <;> (try contradiction) <;> (try subst hb) <;> (try omega))
    | (with_reducible first | refine a_move (hr := ?_) | refine a_assign (hr := ?_) | refine a_bin (hr := ?_) | refine a_lenS (hr := ?_) | refine a_lenR (hr := ?_) | refine a_pick (hr := ?_) | refine a_eqB (hr := ?_) | refine a_eqS (hr := ?_) | refine a_index (hr := ?_) | refine a_gT (hr := ?_) | refine a_gF (hr := ?_) | refine a_gU (hr := ?_))
    | (with_reducible refine a_gB (hT := ?_) (hF := ?_) <;> intro hb <;> (try simp at hb) <;> (try contradiction) <;> (try subst hb) <;> (try omega))
    | fail)
      (refine hQ _ _ _ _ (by first | exact .inr rfl | exact .inl rfl) (by simp; exact .r) (by simp; exact .r) ?_)
      exact Fin.drop (by simp; exact .r) (by simp)
  · have hN : nameB (bytesOf s) = false := by
      have : nameB (bytesOf s) = (letB (byteAt s 0) && (bytesOf s).all chB && decide ((bytesOf s).length ≤ 16)) := by
        conv => lhs; rw [hd]
        rw [nameB, ← hd]; rfl
      rw [this, hl]
      by_cases h1 : letB (byteAt s 0) = true
      · have : ¬ s.size ≤ 16 := fun h => hA ⟨h1, h⟩
        simp [this]
      · simp [h1]
    rw [hN]
    simp only [letB, Bool.and_eq_true, decide_eq_true_eq] at hA
    clear hd
    refine calls_go (nt := 46) (rs := [.tmp 2]) Try.func97 rfl rfl rfl (by simp) (by intro id h; simp at h <;> omega) ?_; intro Q hQ hW
    repeat' (first
    | (with_reducible refine run_n ?_; with_reducible first | refine hK _ _ (by simp) ?_ | refine hK _ _ ?_; clear hK K)
    | (with_reducible first | refine awp_seq ?_ | refine then_n ?_ | refine then_r ?_ | refine then_e ?_ | refine awp_skip ?_ | refine awp_label ?_ | refine awp_ret ?_ | refine awp_exit ?_ | refine awp_block ?_ | refine awp_scope ?_ | refine in_n ?_ | refine in_r ?_ | refine in_e ?_ | refine in_ne (by decide) ?_ | refine ng_n ?_ | refine ng_r ?_ | refine ng_e ?_)
    | (with_reducible refine awp_regT (by kernel_rfl) ?_; intro K hK)
    | (with_reducible refine a_cond (ht := ?_) (hf := ?_) <;> intro hb <;> (try simp at hb) <;> (try contradiction) <;> (try subst hb) <;> (try omega))
    | (with_reducible first | refine a_move (hr := ?_) | refine a_assign (hr := ?_) | refine a_bin (hr := ?_) | refine a_lenS (hr := ?_) | refine a_lenR (hr := ?_) | refine a_pick (hr := ?_) | refine a_eqB (hr := ?_) | refine a_eqS (hr := ?_) | refine a_index (hr := ?_) | refine a_gT (hr := ?_) | refine a_gF (hr := ?_) | refine a_gU (hr := ?_))
    | (with_reducible refine a_gB (hT := ?_) (hF := ?_) <;> intro hb <;> (try simp at hb) <;> (try contradiction) <;> (try subst hb) <;> (try omega))
    | fail)
    all_goals (first | omega | ((refine hQ _ _ _ _ (by first | exact .inr rfl | exact .inl rfl) (by simp; exact .r) (by simp; exact .r) ?_); exact Fin.drop (by simp; exact .r) (by simp)))
end Go.Proofs.Ytdbdajmgfajcpaa.Asl

