/- PackShort. -/
import Derived.Test.YtdlmkdgcdbkeaaaZ7
import Derived.Test.YtdlmkdgcdbkeaaaOk
import Derived.Test.YtdlmkdgcdbkeaaaPlive
namespace Go.Proofs.Ytdlmkdgcdbkeaaa.P1
open Go.RowKit Go.Proofs.Ytdlmkdgcdbkeaaa.Z Go.Proofs.YtdlmkdgcdbkeaaaW.PrintWords Go.Proofs.YtdlmkdgcdbkeaaaW.PrintLast Go.Proofs.YtdlmkdgcdbkeaaaW.PrintMore Go.Proofs.Ytdlmkdgcdbkeaaa.PB
set_option linter.unusedVariables false
set_option linter.unusedSimpArgs false
/-- How many bytes a number has. -/
theorem enc_room : ∀ (f : Nat) (n : Int), 0 ≤ n → n < 128 ^ (f + 1) → n < 128 ^ (enc f n).length ∧ ((enc f n).length = 1 ∨ 128 ^ ((enc f n).length - 1) ≤ n)
  | 0, n, h0, h1 => by rw [enc]; exact ⟨by simpa using h1, .inl rfl⟩
  | f + 1, n, h0, h1 => by
    rw [enc]
    by_cases h : 128 ≤ n
    · rw [Int.pow_succ] at h1
      obtain ⟨p1, p2⟩ := enc_room f (n / 128) (by omega) (Int.ediv_lt_of_lt_mul (by decide) h1)
      have hl := (enc_len f (n / 128)).2
      rw [if_pos h, List.length_cons, pow_128_succ, Nat.add_sub_cancel]
      refine ⟨by omega, .inr ?_⟩
      rcases p2 with p2 | p2
      · rw [p2]; simpa using h
      · obtain ⟨L, hL⟩ : ∃ L, (enc f (n / 128)).length = L + 1 := ⟨(enc f (n / 128)).length - 1, by omega⟩
        rw [hL, Nat.add_sub_cancel] at p2
        rw [hL, pow_128_succ]; omega
    · rw [if_neg h]; exact ⟨by simp; omega, .inl rfl⟩
theorem enc_up : ∀ (f : Nat) (n m : Int), 0 ≤ n → n ≤ m → (enc f n).length ≤ (enc f m).length
  | 0, n, m, _, _ => by simp [enc]
  | f + 1, n, m, h0, h1 => by
    rw [enc, enc]
    by_cases h : 128 ≤ n
    · rw [if_pos h, if_pos (by omega), List.length_cons, List.length_cons]
      have := enc_up f (n / 128) (m / 128) (by omega) (by omega); omega
    · rw [if_neg h]
      by_cases h2 : 128 ≤ m
      · rw [if_pos h2]; simp
      · rw [if_neg h2]; simp
theorem PackShort' (a b : Int) (ha0 : 0 ≤ a) (ha1 : a < 18446744073709551616) (hb0 : 0 ≤ b) (hb1 : b < 18446744073709551616) : Ev (fun k => conductorlaw01_PackShort.f k a b) true := by
  unfold conductorlaw01_PackShort.f
  refine Ev.bind ev_live ?_
  simp only [if_true]
  have hx : 0 ≤ mn a b ∧ mn a b < 18446744073709551616 ∧ mn a b ≤ mx a b ∧ mx a b < 18446744073709551616 := by
    unfold mn mx
    by_cases h : b < a
    · rw [if_pos h, if_neg (by omega)]; omega
    · rw [if_neg h]
      by_cases h2 : a < b
      · rw [if_pos h2]; omega
      · rw [if_neg h2]; omega
  obtain ⟨x, hxe⟩ : ∃ x, mn a b = x := ⟨_, rfl⟩
  obtain ⟨y, hye⟩ : ∃ y, mx a b = y := ⟨_, rfl⟩
  rw [hxe, hye] at hx ⊢
  obtain ⟨x0, x1, xy, y1⟩ := hx
  refine Ev.bind (ev_uint x0 x1) ?_
  refine Ev.bind (ev_uint (by omega) y1) ?_
  have hlx := enc_len 9 x
  have hly := enc_len 9 y
  have hup := enc_up 9 x y x0 xy
  obtain ⟨r1, r2⟩ := enc_room 9 x x0 (Int.lt_trans x1 (by decide))
  obtain ⟨L, hL⟩ : ∃ L, (enc 9 x).length = L := ⟨_, rfl⟩
  rw [hL] at hlx hup r1 r2 ⊢
  simp only [if_neg (show ¬ ((L : Int) > ((enc 9 y).length : Int)) by omega), if_neg (show ¬ (((enc 9 y).length : Int) > 10) by omega), if_neg (show ¬ ((L : Int) = 0) by omega)]
  rw [w64 (x := (L : Int) * 7) (by omega) (by omega), w64 (x := (L : Int) * 7 - 7) (by omega) (by omega), wu64_in (x := (L : Int) * 7 - 7) (by omega) (by omega), wu64_in (x := (L : Int) * 7) (by omega) (by omega)]
  have hlast : Ev (fun k : Nat => if (L : Int) = 1 then some true else if 0 ≤ (L : Int) * 7 - 7 then some (decide (shr .u64 x ((L : Int) * 7 - 7) > 0)) else none) true := by
    by_cases h1 : L = 1
    · simp only [if_pos (show (L : Int) = 1 by omega)]; exact Ev.now _
    · simp only [if_neg (show ¬ (L : Int) = 1 by omega), if_pos (show 0 ≤ (L : Int) * 7 - 7 by omega)]
      refine ev_eq (Ev.now _) (decide_eq_true ?_)
      have hp := r2.resolve_left h1
      unfold shr
      rw [Nat.min_eq_left (by show ((L : Int) * 7 - 7).toNat ≤ 64; omega), show ((L : Int) * 7 - 7).toNat = 7 * (L - 1) by omega, ← pow128]
      have hpos := pow_pos128 (L - 1)
      have : 1 ≤ x / 128 ^ (L - 1) := Int.le_ediv_of_mul_le hpos (by omega)
      omega
  by_cases h64 : (L : Int) * 7 ≥ 64
  · simp only [if_pos h64]; exact hlast
  · simp only [if_neg h64, if_pos (show 0 ≤ (L : Int) * 7 by omega)]
    have e0 : shr .u64 x ((L : Int) * 7) = 0 := by
      unfold shr
      rw [Nat.min_eq_left (by show ((L : Int) * 7).toNat ≤ 64; omega), show ((L : Int) * 7).toNat = 7 * L by omega, ← pow128]
      exact Int.ediv_eq_zero_of_lt x0 r1
    simp only [if_pos e0]
    exact hlast
end Go.Proofs.Ytdlmkdgcdbkeaaa.P1
namespace Go.Proofs.Ytdlmkdgcdbkeaaa.Pure
open Go.RowKit Go.Proofs.Ytdlmkdgcdbkeaaa.Z Go.Proofs.YtdlmkdgcdbkeaaaW.PrintWords Go.Proofs.YtdlmkdgcdbkeaaaW.PrintLast Go.Proofs.YtdlmkdgcdbkeaaaW.PrintMore Go.Proofs.Ytdlmkdgcdbkeaaa.PB Go.Proofs.Ytdlmkdgcdbkeaaa.P1
theorem PackShort : ∀ (x0 : Int) (x1 : Int), (Lit.int .u64 x0).wf = true → (Lit.int .u64 x1).wf = true → ∃ k, conductorlaw01_PackShort.f k x0 x1 = some true := by
  intro a b ha hb
  obtain ⟨K, h⟩ := PackShort' a b (wf_u64 ha).1 (wf_u64 ha).2 (wf_u64 hb).1 (wf_u64 hb).2
  exact ⟨K, h K (Nat.le_refl _)⟩
end Go.Proofs.Ytdlmkdgcdbkeaaa.Pure
