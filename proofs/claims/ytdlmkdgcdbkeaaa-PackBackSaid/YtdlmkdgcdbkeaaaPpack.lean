/- What pack's functions come to. -/
import Derived.Test.YtdlmkdgcdbkeaaaZ1
import Derived.Test.YtdlmkdgcdbkeaaaZ2
import Derived.Test.YtdlmkdgcdbkeaaaZ5
import Derived.Test.YtdlmkdgcdbkeaaaZ4
import Derived.Test.YtdlmkdgcdbkeaaaPenc
import Derived.Laws.DeepNot64
namespace Go.Proofs.Ytdlmkdgcdbkeaaa.P1
open Go.RowKit Go.Proofs.Ytdlmkdgcdbkeaaa.Z Go.Proofs.YtdlmkdgcdbkeaaaW.PrintWords Go.Proofs.YtdlmkdgcdbkeaaaW.PrintLast Go.Proofs.YtdlmkdgcdbkeaaaW.PrintMore Go.Proofs.Ytdlmkdgcdbkeaaa.PB
set_option linter.unusedVariables false
set_option linter.unusedSimpArgs false

/-! bits -/
set_option maxRecDepth 100000 in
theorem or128 {x : Int} (h0 : 0 ≤ x) (h1 : x < 256) : Go.bits .or .u8 x 128 = x % 128 + 128 := by
  obtain ⟨n, rfl⟩ := Int.eq_ofNat_of_zero_le h0
  have hn : n < 256 := by omega
  have H : ∀ m : Fin 256, Go.bits .or .u8 (m.val : Int) 128 = (m.val : Int) % 128 + 128 := by decide
  exact H ⟨n, hn⟩
theorem and127 {x : Int} (h0 : 0 ≤ x) (h1 : x < 256) : Go.bits .and .u8 x 127 = x % 128 := bits_mask .u8 8 (by decide) wraps_u8 7 (by decide) x h0 h1
theorem wraps64 (n : Int) (h₀ : 0 ≤ n) (h₁ : n < 2 ^ 64) : IntKind.u64.wrap n = n := by rw [wu64]; omega
theorem or_comm64 (x y : Int) (hx0 : 0 ≤ x) (hx1 : x < 18446744073709551616) (hy0 : 0 ≤ y) (hy1 : y < 18446744073709551616) : Go.bits .or .u64 x y = Go.bits .or .u64 y x := by
  obtain ⟨a, rfl⟩ := Int.eq_ofNat_of_zero_le hx0
  obtain ⟨b, rfl⟩ := Int.eq_ofNat_of_zero_le hy0
  rw [(bits_nat .u64 64 (by decide) wraps64 a b (by omega) (by omega)).2, (bits_nat .u64 64 (by decide) wraps64 b a (by omega) (by omega)).2, Nat.or_comm]
theorem pow128 (i : Nat) : (128 : Int) ^ i = 2 ^ (7 * i) := by rw [Int.pow_mul]; rfl
theorem or_low {a c : Int} {i : Nat} (hi : i ≤ 9) (ha0 : 0 ≤ a) (ha : a < 128 ^ i) (hc0 : 0 ≤ c) (hc : c * 128 ^ i < 18446744073709551616) : Go.bits .or .u64 a (shl .u64 (IntKind.u64.wrap c) (IntKind.u64.wrap (wrap64 (7 * (i : Int))))) = a + c * 128 ^ i := by
  have hp := pow_pos128 i
  have hcc : c ≤ c * 128 ^ i := by
    have := Int.mul_le_mul_of_nonneg_left (show (1 : Int) ≤ 128 ^ i by omega) hc0
    omega
  have hy : 0 ≤ c * 128 ^ i := Int.mul_nonneg hc0 (Int.le_of_lt hp)
  have e7 : IntKind.u64.wrap (wrap64 (7 * (i : Int))) = ((7 * i : Nat) : Int) := by rw [w64 (by omega) (by omega), wu64]; omega
  have e : shl .u64 (IntKind.u64.wrap c) (IntKind.u64.wrap (wrap64 (7 * (i : Int)))) = c * 128 ^ i := by
    unfold shl
    rw [e7, wu64_in hc0 (by omega), Int.toNat_natCast, Nat.min_eq_left (by show 7 * i ≤ 64; omega), ← pow128, wu64_in hy hc]
  rw [e]
  have hle : (128 : Int) ^ i ≤ 128 ^ 9 := by
    have : (128 : Nat) ^ i ≤ 128 ^ 9 := Nat.pow_le_pow_right (by decide) hi
    exact_mod_cast this
  have h9 : (128 : Int) ^ 9 = 9223372036854775808 := by decide
  rw [or_comm64 _ _ ha0 (by omega) hy hc, bits_join .u64 64 (by decide) wraps64 (7 * i) (c * 128 ^ i) a hy (by rw [pow128]; exact Int.mul_emod_left _ _) (by omega) ha0 (by rw [← pow128]; exact ha) (by omega), Int.add_comm]

/-! what is written -/
theorem ev_uint_l0 : ∀ (f : Nat) (n : Int) (acc : List Int), 0 ≤ n → n < 128 ^ (f + 1) → acc.length + f ≤ 1000 → Ev (fun k => pack_Uint.l0 k n acc) (acc ++ enc f n)
  | 0, n, acc, h0, h1, hl => by
    refine ev_none (fun k => ?_)
    simp only [pack_Uint.l0]
    have : n < 128 := by simpa using h1
    rw [if_neg (by omega), if_pos (by omega), enc, show n % 256 = n by omega]
  | f + 1, n, acc, h0, h1, hl => by
    rw [enc]
    by_cases h : 128 ≤ n
    · rw [if_pos h]
      refine ev_step _ (fun k => by
        simp only [pack_Uint.l0]
        rw [if_pos h, if_pos (by omega), or128 (by omega) (by omega), show n % 256 % 128 + 128 = n % 128 + 128 by omega]) ?_
      refine ev_eq (ev_uint_l0 f (n / 128) (acc ++ [n % 128 + 128]) (by omega) ?_ (by simp; omega)) (by simp)
      rw [Int.pow_succ] at h1
      exact Int.ediv_lt_of_lt_mul (by decide) h1
    · rw [if_neg h]
      refine ev_none (fun k => ?_)
      simp only [pack_Uint.l0]
      rw [if_neg (by omega), if_pos (by omega), show n % 256 = n by omega]
theorem ev_uint {n : Int} (h0 : 0 ≤ n) (h1 : n < 18446744073709551616) : Ev (fun k => pack_Uint.f k n) (enc 9 n) := by
  unfold pack_Uint.f
  simp only [if_pos (show 10 ≤ 281474976710656 by decide)]
  exact ev_uint_l0 9 n [] h0 (Int.lt_trans h1 (by decide)) (by simp)
theorem ev_text (s : ByteArray) (hs : s.size ≤ 140737488351232) : Ev (fun k => pack_Text.f k s) (enc 9 s.size ++ bytesOf s) := by
  unfold pack_Text.f
  have e : IntKind.u64.wrap (s.size : Int) = s.size := wu64_in (by omega) (by omega)
  have hl := (enc_len 9 (s.size : Int)).1
  refine Ev.bind (by rw [e]; exact ev_uint (by omega) (by omega)) ?_
  simp only [if_pos (show (enc 9 (s.size : Int)).length + s.size < 140737488355328 by omega)]
  exact Ev.now _
/-- A number with its sign, as one without. -/
def zig (n : Int) : Int := if n < 0 then -2 * n - 1 else 2 * n
theorem zig_range {n : Int} (h0 : -9223372036854775808 ≤ n) (h1 : n ≤ 9223372036854775807) : 0 ≤ zig n ∧ zig n < 18446744073709551616 := by
  unfold zig; split <;> omega
theorem xor_ones (a : Nat) (ha : a < 18446744073709551616) : a ^^^ 18446744073709551615 = 18446744073709551615 - a := by
  have h := BitVec.toNat_not (x := BitVec.ofNat 64 a)
  rw [← BitVec.xor_allOnes, BitVec.toNat_xor, BitVec.toNat_ofNat, BitVec.toNat_allOnes] at h
  rw [Nat.mod_eq_of_lt (by omega)] at h
  simpa using h
theorem ev_int {n : Int} (h0 : -9223372036854775808 ≤ n) (h1 : n ≤ 9223372036854775807) : Ev (fun k => pack_Int.f k n) (enc 9 (zig n)) := by
  unfold pack_Int.f
  have hz := zig_range h0 h1
  have e : Go.bits .xor .u64 (IntKind.u64.wrap (wrap64 (n * 2))) (IntKind.u64.wrap (n / 9223372036854775808)) = zig n := by
    by_cases h : n < 0
    · have e1 : n / 9223372036854775808 = -1 := by omega
      have e2 : IntKind.u64.wrap (wrap64 (n * 2)) = ((18446744073709551616 + 2 * n).toNat : Int) := by rw [wu64]; unfold wrap64; omega
      have e3 : IntKind.u64.wrap (-1) = ((18446744073709551615 : Nat) : Int) := by rw [wu64]; decide
      rw [e1, e2, e3, u64_xor_nat _ _ (by omega) (by omega), xor_ones _ (by omega)]
      unfold zig; rw [if_pos h]; omega
    · have e1 : n / 9223372036854775808 = 0 := by omega
      have e2 : IntKind.u64.wrap (wrap64 (n * 2)) = ((2 * n).toNat : Int) := by rw [wu64]; unfold wrap64; omega
      have e3 : IntKind.u64.wrap 0 = ((0 : Nat) : Int) := by rw [wu64]; rfl
      rw [e1, e2, e3, u64_xor_nat _ _ (by omega) (by omega), Nat.xor_zero]
      unfold zig; rw [if_neg h]; omega
  rw [e]
  exact Ev.bind (ev_uint hz.1 hz.2) (Ev.now _)

/-! parts together -/
theorem ev_join_l1 (x : List (List Int)) : ∀ (m i : Nat) (acc : List Int), i + m = x.length → x.length ≤ 9223372036854775807 → acc.length + ((x.drop i).flatten).length < 140737488355328 → Ev (fun k => pack_Join.l1 k acc x x.length (i : Int)) (acc ++ (x.drop i).flatten)
  | 0, i, acc, hi, hm, hl => by
    refine ev_none (fun k => ?_)
    simp only [pack_Join.l1]
    rw [if_neg (by omega), List.drop_of_length_le (by omega)]; simp
  | m + 1, i, acc, hi, hm, hl => by
    have hd := List.drop_eq_getElem_cons (l := x) (i := i) (by omega)
    have hr : rd_L1 x (i : Int) = x[i] := by
      unfold rd_L1; rw [Int.toNat_natCast, List.getD_eq_getElem?_getD, List.getElem?_eq_getElem (by omega)]; rfl
    rw [hd, List.flatten_cons, List.length_append] at hl
    refine ev_step _ (fun k => by
      simp only [pack_Join.l1]
      rw [if_pos (by omega), if_pos (by omega), if_pos (by omega), hr, if_pos (by omega), w64 (by omega) (by omega)]) ?_
    refine ev_eq (ev_join_l1 x m (i + 1) (acc ++ x[i]) (by omega) hm (by rw [List.length_append]; omega)) ?_
    rw [hd, List.flatten_cons, List.append_assoc]
theorem ev_join_l0 (x : List (List Int)) : ∀ (m i : Nat) (n : Nat), i + m = x.length → x.length ≤ 9223372036854775807 → n + ((x.drop i).flatten).length = x.flatten.length → x.flatten.length < 140737488355328 → Ev (fun k => pack_Join.l0 k x (n : Int) x x.length (i : Int)) x.flatten
  | 0, i, n, hi, hm, hn, hl => by
    rw [List.drop_of_length_le (by omega)] at hn
    have hn' : n = x.flatten.length := by simpa using hn
    refine ev_step _ (fun k => by
      simp only [pack_Join.l0]
      rw [if_neg (by omega), if_pos (by omega), if_pos (by omega)]) ?_
    exact ev_eq (ev_join_l1 x x.length 0 [] (by omega) hm (by simpa using hl)) (by simp)
  | m + 1, i, n, hi, hm, hn, hl => by
    have hd := List.drop_eq_getElem_cons (l := x) (i := i) (by omega)
    have hr : rd_L1 x (i : Int) = x[i] := by
      unfold rd_L1; rw [Int.toNat_natCast, List.getD_eq_getElem?_getD, List.getElem?_eq_getElem (by omega)]; rfl
    rw [hd, List.flatten_cons, List.length_append] at hn
    refine ev_step _ (fun k => by
      simp only [pack_Join.l0]
      rw [if_pos (by omega), if_pos (by omega), if_pos (by omega), hr, w64 (x := (n : Int) + _) (by omega) (by omega), w64 (by omega) (by omega)]) ?_
    exact ev_join_l0 x m (i + 1) (n + x[i].length) (by omega) hm (by omega) hl
theorem ev_join (x : List (List Int)) (hm : x.length ≤ 9223372036854775807) (hl : x.flatten.length < 140737488355328) : Ev (fun k => pack_Join.f k x) x.flatten := by
  unfold pack_Join.f
  exact ev_join_l0 x x.length 0 0 (by omega) hm (by simp) hl
theorem ev_read (l : List Int) (hl : l.length < 140737488355328) : Ev (fun k => pack_Read.f k l) (true, l, 0, 0) := by
  unfold pack_Read.f
  refine Ev.bind (ev_join [l] (by simp) (by simpa using hl)) ?_
  simp only [List.flatten_cons, List.flatten_nil, List.append_nil]
  exact Ev.now _
end Go.Proofs.Ytdlmkdgcdbkeaaa.P1
