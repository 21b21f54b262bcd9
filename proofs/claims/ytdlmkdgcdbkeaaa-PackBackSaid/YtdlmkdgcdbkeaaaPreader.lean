/- What pack's Reader comes to. -/
import Derived.Test.YtdlmkdgcdbkeaaaZ5
import Derived.Test.YtdlmkdgcdbkeaaaZ7
import Derived.Test.YtdlmkdgcdbkeaaaZ8
import Derived.Test.YtdlmkdgcdbkeaaaZ10
import Derived.Test.YtdlmkdgcdbkeaaaZ12
import Derived.Test.YtdlmkdgcdbkeaaaPpack
namespace Go.Proofs.Ytdlmkdgcdbkeaaa.P1
open Go.RowKit Go.Proofs.Ytdlmkdgcdbkeaaa.Z Go.Proofs.YtdlmkdgcdbkeaaaW.PrintWords Go.Proofs.YtdlmkdgcdbkeaaaW.PrintLast Go.Proofs.YtdlmkdgcdbkeaaaW.PrintMore Go.Proofs.Ytdlmkdgcdbkeaaa.PB
set_option linter.unusedVariables false
set_option linter.unusedSimpArgs false

def big (b : List Int) : Prop := b.length < 140737488355328
theorem ev_scan_l0 (m : Bool) (b : List Int) (at_ : Nat) (e : Int) (hb : IsB b) (hg : big b) : ∀ (l : List Int) (i : Nat) (a : Int), b.drop (at_ + i) = l → at_ + i + l.length = b.length → i ≤ 9 → 0 ≤ a → a < 128 ^ i →
    Ev (fun k => pack_Reader_scan.l0 k a ((b.length - at_ : Nat) : Int) (i : Int) m b (at_ : Int) e) ((dec l i a).1, (dec l i a).2.1, (dec l i a).2.2, m, (at_ : Int), e)
  | [], i, a, hd, hl, hi, h0, h1 => by
    simp only [List.length_nil] at hl
    refine ev_none (fun k => ?_)
    simp only [pack_Reader_scan.l0, dec]
    rw [if_neg (by omega)]
  | c :: l, i, a, hd, hl, hi, h0, h1 => by
    unfold big at hg
    simp only [List.length_cons] at hl
    have hlt : at_ + i < b.length := by omega
    have hd2 := drop_rd b (at_ + i) hlt
    rw [hd] at hd2
    have hc : rd b ((at_ + i : Nat) : Int) = c := (List.cons.inj hd2).1.symm
    have ht : b.drop (at_ + i + 1) = l := (List.cons.inj hd2).2.symm
    have hcb : 0 ≤ c ∧ c ≤ 255 := hb c (List.mem_of_mem_drop (by rw [hd]; exact List.mem_cons_self ..))
    have hw : wrap64 ((at_ : Int) + (i : Int)) = ((at_ + i : Nat) : Int) := by rw [w64 (by omega) (by omega)]; omega
    have hw1 : wrap64 ((i : Int) + 1) = (i : Int) + 1 := w64 (by omega) (by omega)
    have e7 : (0 : Int) ≤ IntKind.u64.wrap (wrap64 (7 * (i : Int))) := by rw [w64 (by omega) (by omega), wu64]; omega
    -- what stands behind the first test
    have h1' : ¬ (i = 9 ∧ 1 < c) → Ev (fun k => pack_Reader_scan.j1 k a (i : Int) c ((b.length - at_ : Nat) : Int) (i : Int) false m b (at_ : Int) e) ((dec (c :: l) i a).1, (dec (c :: l) i a).2.1, (dec (c :: l) i a).2.2, m, (at_ : Int), e) := by
      intro hn
      have hj : Ev (fun k => pack_Reader_scan.j2 k (Go.bits .or .u64 a (shl .u64 (IntKind.u64.wrap (Go.bits .and .u8 c 127)) (IntKind.u64.wrap (wrap64 (7 * (i : Int)))))) (i : Int) c ((b.length - at_ : Nat) : Int) (i : Int) (decide (c = 0 ∧ 0 < i)) m b (at_ : Int) e) ((dec (c :: l) i a).1, (dec (c :: l) i a).2.1, (dec (c :: l) i a).2.2, m, (at_ : Int), e) := by
        rw [dec, if_neg hn]
        by_cases h2 : c = 0 ∧ 0 < i
        · rw [if_pos h2, decide_eq_true h2]
          refine ev_none (fun k => ?_)
          simp only [pack_Reader_scan.j2]
          rw [if_pos (by trivial)]
        rw [if_neg h2, decide_eq_false h2]
        have hp := pow_pos128 i
        have hor : Go.bits .or .u64 a (shl .u64 (IntKind.u64.wrap (Go.bits .and .u8 c 127)) (IntKind.u64.wrap (wrap64 (7 * (i : Int))))) = a + c % 128 * 128 ^ i := by
          rw [and127 hcb.1 (by omega)]
          refine or_low hi h0 h1 (by omega) ?_
          by_cases h9 : i = 9
          · subst h9; simp; omega
          · have h8 : (128 : Int) ^ i ≤ 128 ^ 8 := by
              have : (128 : Nat) ^ i ≤ 128 ^ 8 := Nat.pow_le_pow_right (by decide) (by omega)
              exact_mod_cast this
            have : c % 128 * 128 ^ i ≤ 127 * 128 ^ 8 := Int.mul_le_mul (by omega) h8 (Int.le_of_lt hp) (by decide)
            have e8 : (127 : Int) * 128 ^ 8 < 18446744073709551616 := by decide
            omega
        rw [hor]
        by_cases h3 : c < 128
        · rw [if_pos h3]
          refine ev_none (fun k => ?_)
          simp only [pack_Reader_scan.j2]
          rw [if_neg (by decide), hw1, show c % 128 = c by omega]
          by_cases h4 : c = 0
          · rw [if_pos h4]
          · rw [if_neg h4, if_pos h3]
        · rw [if_neg h3]
          have h9 : i ≠ 9 := fun h9 => hn ⟨h9, by omega⟩
          refine ev_step _ (fun k => by
            simp only [pack_Reader_scan.j2]
            rw [if_neg (by decide), if_neg (by omega), if_neg h3, hw1]) ?_
          have := ev_scan_l0 m b at_ e hb hg l (i + 1) (a + c % 128 * 128 ^ i) ht (by omega) (by omega) (by
              have : 0 ≤ c % 128 * 128 ^ i := Int.mul_nonneg (by omega) (Int.le_of_lt hp)
              omega) (by
              rw [pow_128_succ]
              have : c % 128 * 128 ^ i ≤ 127 * 128 ^ i := Int.mul_le_mul_of_nonneg_right (by omega) (Int.le_of_lt hp)
              omega)
          exact this
      refine ev_step _ (fun k => by
        simp only [pack_Reader_scan.j1]
        rw [if_neg (by decide), if_pos e7]) ?_
      by_cases h4 : c = 0
      · simp only [if_pos h4]
        rw [show decide ((i : Int) > 0) = decide (c = 0 ∧ 0 < i) by rw [decide_eq_decide]; omega]
        exact hj
      · simp only [if_neg h4]
        rw [show false = decide (c = 0 ∧ 0 < i) by symm; rw [decide_eq_false_iff_not]; omega]
        exact hj
    refine ev_step _ (fun k => by
      simp only [pack_Reader_scan.l0]
      rw [if_pos (by omega), hw, if_pos (by omega), if_pos (by omega), hc]) ?_
    by_cases h9 : (i : Int) = 9
    · simp only [if_pos h9]
      by_cases h2 : c > 1
      · rw [decide_eq_true h2]
        refine ev_none (fun k => ?_)
        simp only [pack_Reader_scan.j1]
        rw [if_pos (by trivial), dec, if_pos ⟨by omega, h2⟩]
      · rw [decide_eq_false h2]
        exact h1' (by omega)
    · simp only [if_neg h9]
      exact h1' (by omega)
theorem ev_scan (m : Bool) (b : List Int) (at_ : Nat) (e : Int) (hb : IsB b) (hg : big b) (ha : at_ ≤ b.length) :
    Ev (fun k => pack_Reader_scan.f k m b (at_ : Int) e) ((dec (b.drop at_) 0 0).1, (dec (b.drop at_) 0 0).2.1, (dec (b.drop at_) 0 0).2.2, m, (at_ : Int), e) := by
  unfold pack_Reader_scan.f pack_Reader_Left.f
  have hg' := hg
  unfold big at hg'
  rw [w64 (by omega) (by omega)]
  simp only [Option.bind_some]
  rw [show (b.length : Int) - (at_ : Int) = ((b.length - at_ : Nat) : Int) by omega]
  exact ev_scan_l0 m b at_ e hb hg (b.drop at_) 0 0 rfl (by simp; omega) (by decide) (by decide) (by decide)
theorem err_f (b : List Int) (a e : Int) : pack_Reader_Err.f true b a e = some (e, true, a, e) := rfl
theorem left_f (b : List Int) (at_ : Nat) (e : Int) (hg : big b) (ha : at_ ≤ b.length) : pack_Reader_Left.f true b (at_ : Int) e = some (((b.length - at_ : Nat) : Int), true, (at_ : Int), e) := by
  unfold big at hg
  unfold pack_Reader_Left.f
  rw [w64 (by omega) (by omega)]
  congr 2; omega
theorem ev_rUint (b : List Int) (at_ : Nat) (hb : IsB b) (hg : big b) (ha : at_ ≤ b.length) (most N K E : Int) (hd : dec (b.drop at_) 0 0 = (N, K, E)) (hK : E = 0 → 0 ≤ K ∧ K ≤ 10) :
    Ev (fun k => pack_Reader_Uint.f k true b (at_ : Int) 0 most) (if E = 0 then (if N > most then (0, true, (at_ : Int), 3) else (N, true, (at_ : Int) + K, 0)) else (0, true, (at_ : Int), E)) := by
  have hg' := hg
  unfold big at hg'
  unfold pack_Reader_Uint.f
  rw [err_f]
  simp only [Option.bind_some, if_true]
  refine Ev.bind (ev_scan true b at_ 0 hb hg ha) ?_
  rw [hd]
  by_cases hE : E = 0
  · simp only [if_pos hE]
    have := hK hE
    refine ev_none (fun k => ?_)
    simp only [pack_Reader_Uint.j0]
    by_cases hN : N > most
    · rw [decide_eq_true hN, if_pos (by trivial), if_neg (by decide), if_pos hN]
    · rw [decide_eq_false hN, if_neg (by decide), if_pos hE, if_neg hN, w64 (by omega) (by omega)]
  · simp only [if_neg hE]
    refine ev_none (fun k => ?_)
    simp only [pack_Reader_Uint.j0]
    rw [if_neg (by decide), if_neg hE]
/-- A number that stands at the front. -/
theorem dec_at {b : List Int} {at_ : Nat} {n : Int} {r : List Int} (h0 : 0 ≤ n) (h1 : n < 18446744073709551616) (h : b.drop at_ = enc 9 n ++ r) : dec (b.drop at_) 0 0 = (n, ((enc 9 n).length : Int), 0) := by
  rw [h, dec_enc 9 0 n 0 r (by decide) h0 (by omega) (by simpa using h1)]
  simp
theorem ev_rUint_of (b : List Int) (at_ : Nat) (hb : IsB b) (hg : big b) (ha : at_ ≤ b.length) (most n : Int) (r : List Int) (h0 : 0 ≤ n) (h1 : n < 18446744073709551616) (hm : n ≤ most) (h : b.drop at_ = enc 9 n ++ r) :
    Ev (fun k => pack_Reader_Uint.f k true b (at_ : Int) 0 most) (n, true, ((at_ + (enc 9 n).length : Nat) : Int), 0) := by
  have hl := enc_len 9 n
  refine ev_eq (ev_rUint b at_ hb hg ha most _ _ _ (dec_at h0 h1 h) (fun _ => by omega)) ?_
  rw [if_pos (by trivial), if_neg (by omega)]
  congr 3
def unzig (n : Int) : Int := if n % 2 = 0 then n / 2 else -1 - n / 2
theorem unzig_zig {n : Int} : unzig (zig n) = n := by
  unfold unzig zig
  by_cases h : n < 0
  · rw [if_pos h, if_neg (by omega)]; omega
  · rw [if_neg h, if_pos (by omega)]; omega
theorem zig_unzig {n : Int} (h : 0 ≤ n) : zig (unzig n) = n := by
  unfold unzig zig
  by_cases h2 : n % 2 = 0
  · rw [if_pos h2, if_neg (by omega)]; omega
  · rw [if_neg h2, if_pos (by omega)]; omega
theorem unzig_range {n : Int} (h0 : 0 ≤ n) (h1 : n < 18446744073709551616) : -9223372036854775808 ≤ unzig n ∧ unzig n ≤ 9223372036854775807 := by
  unfold unzig; split <;> omega
theorem unzig_bits {n : Int} (h0 : 0 ≤ n) (h1 : n < 18446744073709551616) : Go.bits .xor .i64 (wrap64 (n / 2)) (wrap64 (-(wrap64 (Go.bits .and .u64 n 1)))) = unzig n := by
  have h2 : Go.bits .and .u64 n 1 = n % 2 := bits_mask .u64 64 (by decide) wraps64 1 (by decide) n h0 h1
  rw [h2, w64 (x := n / 2) (by omega) (by omega)]
  obtain ⟨a, ha⟩ := Int.eq_ofNat_of_zero_le (show 0 ≤ n / 2 by omega)
  unfold unzig
  rw [ha]
  by_cases h3 : n % 2 = 0
  · rw [if_pos h3, h3, show wrap64 (-wrap64 0) = 0 by unfold wrap64; omega]
    show IntKind.i64.wrap ((BitVec.ofInt 64 (a : Int) ^^^ BitVec.ofInt 64 0).toNat : Int) = _
    rw [show BitVec.ofInt 64 0 = 0#64 by decide, BitVec.xor_zero, ofInt_u64 a (by omega)]
    simp [IntKind.wrap, IntKind.bits, IntKind.signed]
    omega
  · rw [if_neg h3, show n % 2 = 1 by omega, show wrap64 (-wrap64 1) = -1 by unfold wrap64; omega]
    have hcomm : Go.bits .xor .i64 (a : Int) (-1) = Go.bits .xor .i64 (-1) (a : Int) := by
      show IntKind.i64.wrap ((BitVec.ofInt 64 (a : Int) ^^^ BitVec.ofInt 64 (-1)).toNat : Int) = IntKind.i64.wrap ((BitVec.ofInt 64 (-1) ^^^ BitVec.ofInt 64 (a : Int)).toNat : Int)
      rw [BitVec.xor_comm]
    rw [hcomm, i64_not a (by omega)]
theorem ev_rInt {b : List Int} {at_ : Nat} {N at' E : Int} (h : Ev (fun k => pack_Reader_Uint.f k true b (at_ : Int) 0 18446744073709551615) (N, true, at', E)) (h0 : 0 ≤ N) (h1 : N < 18446744073709551616) :
    Ev (fun k => pack_Reader_Int.f k true b (at_ : Int) 0) (unzig N, true, at', E) := by
  unfold pack_Reader_Int.f
  refine Ev.bind h ?_
  rw [unzig_bits h0 h1]
  exact Ev.now _
theorem ev_rText (b : List Int) (at_ : Nat) (hb : IsB b) (hg : big b) (ha : at_ ≤ b.length) (most N K E : Int) (hm : most < 140737488355328) (hd : dec (b.drop at_) 0 0 = (N, K, E)) (hK : E = 0 → 0 ≤ N ∧ N < 18446744073709551616 ∧ 0 ≤ K ∧ K ≤ 10 ∧ at_ + K ≤ b.length) :
    Ev (fun k => pack_Reader_Text.f k true b (at_ : Int) 0 most) (if E = 0 then (if N > most ∨ most < 0 then (⟨#[]⟩, true, (at_ : Int), 3) else if N > b.length - at_ - K then (⟨#[]⟩, true, (at_ : Int), 6) else (strOfNums ((b.drop (at_ + K.toNat)).take N.toNat), true, (at_ : Int) + K + N, 0)) else (⟨#[]⟩, true, (at_ : Int), E)) := by
  have hg' := hg
  unfold big at hg'
  unfold pack_Reader_Text.f
  rw [err_f]
  simp only [Option.bind_some, if_true]
  refine Ev.bind (ev_scan true b at_ 0 hb hg ha) ?_
  rw [hd]
  by_cases hE : E = 0
  · subst hE
    obtain ⟨p1, p2, p3, p4, p5⟩ := hK rfl
    simp only [if_true]
    have hshort : ∀ t : Bool, t = true → Ev (fun k => pack_Reader_Text.j0 k N K 0 t true b (at_ : Int) 0) ((⟨#[]⟩ : ByteArray), true, (at_ : Int), 3) := by
      rintro t rfl
      refine ev_none (fun k => ?_)
      simp only [pack_Reader_Text.j0]
      rw [if_pos (by trivial), if_neg (by decide)]
    by_cases h1 : most < 0
    · simp only [if_pos h1, if_pos (show N > most ∨ most < 0 from .inr h1)]; exact hshort _ rfl
    · simp only [if_neg h1]
      by_cases h2 : N > most
      · simp only [if_pos (show N > most ∨ most < 0 from .inl h2)]
        refine hshort _ (decide_eq_true ?_)
        rw [wu64_in (by omega) (by omega)]; exact h2
      · simp only [if_neg (show ¬ (N > most ∨ most < 0) by omega)]
        rw [show decide (N > IntKind.u64.wrap most) = false by rw [wu64_in (by omega) (by omega)]; exact decide_eq_false h2]
        refine ev_none (fun k => ?_)
        simp only [pack_Reader_Text.j0]
        rw [if_neg (by decide), left_f b at_ 0 hg ha]
        simp only [Option.bind_some]
        rw [w64 (x := ((b.length - at_ : Nat) : Int) - K) (by omega) (by omega), wu64_in (by omega) (by omega)]
        by_cases h3 : N > b.length - at_ - K
        · rw [if_pos h3, if_pos (by omega), if_neg (by decide)]
        · rw [if_neg h3, if_neg (by omega), if_pos (by trivial)]
          rw [w64 (x := N) (by omega) (by omega), w64 (x := K + N) (by omega) (by omega), w64 (x := (at_ : Int) + (K + N)) (by omega) (by omega), w64 (x := (at_ : Int) + (K + N) - N) (by omega) (by omega)]
          rw [if_pos (by omega), if_pos (by omega), if_pos (by omega)]
          congr 2
          · congr 1
            rw [List.drop_take, show ((at_ : Int) + (K + N) - N).toNat = at_ + K.toNat by omega, show ((at_ : Int) + (K + N)).toNat - (at_ + K.toNat) = N.toNat by omega]
          · congr 2; omega
  · simp only [if_neg hE]
    exact Ev.now _
end Go.Proofs.Ytdlmkdgcdbkeaaa.P1
