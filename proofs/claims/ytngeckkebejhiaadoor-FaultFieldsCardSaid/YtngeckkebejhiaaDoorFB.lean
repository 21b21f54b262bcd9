/- fault: numbers in digits, texts. -/
import Derived.Test.YtngeckkebejhiaaDoorFA
namespace Go.Proofs.YtngeckkebejhiaaDoor.Asl
open Go Go.RowKit
open Go.Proofs.YtngeckkebejhiaaDoor.Errs (EV)
set_option linter.unusedVariables false
set_option linter.unusedSimpArgs false
set_option maxRecDepth 100000
set_option maxHeartbeats 4000000
/-- A number that is not below 0, in digits. -/
def nat10 : Nat → Int → List Int
  | 0, _ => []
  | f + 1, n => if n < 10 then [48 + n] else nat10 f (n / 10) ++ [48 + n % 10]
def digs10 (n : Int) : List Int := if n < 0 then 45 :: nat10 20 (-n) else nat10 20 n
theorem nat10_fuel : ∀ (f : Nat) (n : Int), 0 ≤ n → n < 10 ^ (f + 1) → nat10 (f + 1) n = nat10 (f + 2) n
  | 0, n, h0, h1 => by
    have : n < 10 := by simpa using h1
    simp [nat10, this]
  | f + 1, n, h0, h1 => by
    by_cases h : n < 10
    · simp [nat10, h]
    · have h2 : n / 10 < 10 ^ (f + 1) := by
        rw [Int.pow_succ] at h1
        exact Int.ediv_lt_of_lt_mul (by decide) h1
      have ih := nat10_fuel f (n / 10) (by omega) h2
      rw [nat10, if_neg h, ih]
      conv => rhs; rw [nat10]
      rw [if_neg h]
theorem nat10_fuels (n : Int) (h0 : 0 ≤ n) : ∀ (k f : Nat), n < 10 ^ (f + 1) → nat10 (f + 1 + k) n = nat10 (f + 1) n
  | 0, f, _ => rfl
  | k + 1, f, h => by
    have h2 : n < 10 ^ (f + k + 1) := by
      have h3 : (10 : Int) ^ (f + 1) ≤ 10 ^ (f + k + 1) := by
        have : (10 : Nat) ^ (f + 1) ≤ 10 ^ (f + k + 1) := Nat.pow_le_pow_right (by decide) (by omega)
        exact_mod_cast this
      omega
    have := nat10_fuel (f + k) n h0 h2
    rw [show f + 1 + (k + 1) = f + k + 2 by omega, ← this, show f + k + 1 = f + 1 + k by omega]
    exact nat10_fuels n h0 k f h
theorem nat10_len : ∀ (f : Nat) (n : Int), (nat10 f n).length ≤ f
  | 0, _ => by simp [nat10]
  | f + 1, n => by
    have := nat10_len f (n / 10)
    simp only [nat10]; split <;> simp <;> omega
theorem nat10_isB : ∀ (f : Nat) (n : Int), 0 ≤ n → IsB (nat10 f n)
  | 0, _, _ => isB_nil
  | f + 1, n, h => by
    simp only [nat10]; split
    · exact isB_cons.2 ⟨by omega, isB_nil⟩
    · exact isB_app.2 ⟨nat10_isB f _ (by omega), isB_cons.2 ⟨by omega, isB_nil⟩⟩
theorem pow10 : (10 : Int) ^ 19 = 10000000000000000000 := by decide
/-- The array, filled from behind. -/
def fill (s : List Int) : List Int := List.replicate (20 - s.length) 0 ++ s
theorem fill_len {s : List Int} (h : s.length ≤ 20) : (fill s).length = 20 := by simp [fill]; omega
theorem fill_set {s : List Int} (h : s.length < 20) (x : Int) : (fill s).set (19 - s.length) x = fill (x :: s) := by
  have e1 : 20 - s.length = (19 - s.length) + 1 := by omega
  have e2 : 20 - (x :: s).length = 19 - s.length := by rw [List.length_cons]; omega
  unfold fill
  rw [e2, e1, List.replicate_succ', List.append_assoc]
  have h1 : (List.replicate (19 - s.length) (0 : Int)).length = 19 - s.length := by simp
  generalize List.replicate (19 - s.length) (0 : Int) = r at h1 ⊢
  rw [← h1, List.set_append_right _ _ (Nat.le_refl _)]; simp
theorem fill_drop {s : List Int} (h : s.length ≤ 20) : (fill s).drop (20 - s.length) = s := by
  unfold fill
  rw [List.drop_append_of_le_length (by simp)]; simp
theorem c_FDigits (n : Int) (h0 : -9223372036854775808 < n) (h1 : n < 9223372036854775808) : CallD Tryd.prog 26 [.raw (.int .i64 n)] noHeap (.raw (.string (strOfNums (digs10 n)))) noHeap := by
  obtain ⟨N, hN⟩ : ∃ N : Int, N = if n < 0 then -n else n := ⟨_, rfl⟩
  have hN0 : 0 ≤ N ∧ N < 9223372036854775808 := by split at hN <;> omega
  have hd : digs10 n = if n < 0 then 45 :: nat10 20 N else nat10 20 N := by
    unfold digs10
    split
    · rename_i h; rw [if_pos h] at hN; rw [hN]
    · rename_i h; rw [if_neg h] at hN; rw [hN]
  rw [hd]
  clear hd
  obtain ⟨neg, hneg⟩ : ∃ neg : Bool, neg = decide (n < 0) := ⟨_, rfl⟩
  have hn : n = if neg then -N else N := by
    subst hneg
    by_cases h : n < 0
    · rw [if_pos h] at hN; simp [h]; omega
    · rw [if_neg h] at hN; simp [h]; omega
  have hlt : (n < 0) = (neg = true) := by rw [hneg]; simp
  simp only [hlt]
  refine calls_go (nt := 38) (rs := [.tmp 2]) Tryd.func26 rfl rfl rfl (by simp) (by intro id h; simp at h <;> omega) ?_; intro Q hQ hW
  repeat' (first
    | (with_reducible refine run_n ?_; with_reducible first | refine hK _ _ (by simp) ?_ | refine hK _ _ ?_; clear hK K)
    | (refine zzc ?_)
    | (with_reducible refine awp_regT (by kernel_rfl) ?_; intro K hK)
    | (with_reducible refine a_cond (ht := ?_) (hf := ?_) <;> intro hb <;> (try simp at hb) <;> (try contradiction) <;> (try subst hb) <;> (try omega))
    | (with_reducible first | refine a_move (hr:=?_) | refine a_assign (hr:=?_) | refine a_remU (hr:=?_) | refine a_quoU (hr:=?_) | refine a_bin (hr:=?_) | refine a_pick (hr:=?_) | refine a_un (hr:=?_) | refine a_store (hr:=?_) | refine a_alloc (hr:=?_) | refine a_eqB (hr:=?_) | refine a_neB (hr:=?_) | refine a_conv (hr:=?_) | refine a_bytesStr (hr:=?_) | refine a_strBytes (hr:=?_) | refine a_sameSl (hr:=?_) | refine a_idxArr (hr:=?_) | refine a_sliceArr (hr:=?_) | refine a_eqS (hr:=?_) | refine a_neS (hr:=?_) | refine a_sliceS (hr:=?_) | refine a_sliceR (hr:=?_) | refine a_indexAddr (hr:=?_) | refine a_gT (hr:=?_) | refine a_gF (hr:=?_) | refine a_gU (hr:=?_))
    | (with_reducible refine a_gB (hT := ?_) (hF := ?_) <;> intro hb <;> (try simp at hb) <;> (try contradiction) <;> (try subst hb) <;> (try omega))
    | fail)
  have hz : (u8s (fill [])) = [AV.raw (.int .u8 0), AV.raw (.int .u8 0), AV.raw (.int .u8 0), AV.raw (.int .u8 0), AV.raw (.int .u8 0), AV.raw (.int .u8 0), AV.raw (.int .u8 0), AV.raw (.int .u8 0), AV.raw (.int .u8 0), AV.raw (.int .u8 0), AV.raw (.int .u8 0), AV.raw (.int .u8 0), AV.raw (.int .u8 0), AV.raw (.int .u8 0), AV.raw (.int .u8 0), AV.raw (.int .u8 0), AV.raw (.int .u8 0), AV.raw (.int .u8 0), AV.raw (.int .u8 0), AV.raw (.int .u8 0)] := rfl
  refine awp_inv (α := Int × List Int) (fun a => [(0, .raw (.int .i64 (if neg then -a.1 else a.1))), (3, .ptr 3 0), (4, .raw (.int .i64 (20 - a.2.length))), (5, .raw (.bool neg))]) (fun a => hpL [(3, .box (.agg (u8s (fill a.2))))])
    (fun a => 0 ≤ a.1 ∧ a.1 * 10 ^ a.2.length ≤ N ∧ a.2.length ≤ 19 ∧ (if a.2 ≠ [] ∧ a.1 = 0 then a.2 else nat10 (20 - a.2.length) a.1 ++ a.2) = nat10 20 N) (fun a => 20 - a.2.length) (N, []) ⟨hN0.1, by simp, by simp, by simp⟩ (by
      have e1 : (if neg = true then -N else N) = n := hn.symm
      simp only [e1]
      rw [← hz, ← hneg]
      exact zzw) ?_
  rintro ⟨M, s⟩ ⟨g1, g2, g3, g4⟩
  simp only at g1 g2 g3 g4 ⊢
  have hM : M < 9223372036854775808 := by
    have h1 : (1 : Int) ≤ 10 ^ s.length := by
      have := Int.pow_pos (n := 10) (m := s.length) (by decide)
      omega
    have : M * 1 ≤ M * 10 ^ s.length := Int.mul_le_mul_of_nonneg_left h1 g1
    omega
  have hla := fill_len (s := s) (by omega)
  by_cases hst : s ≠ [] ∧ M = 0
  · rw [if_pos hst] at g4
    obtain ⟨hs0, rfl⟩ := hst
    have hsl : s.length ≠ 0 := by simpa using hs0
    rw [← g4] at hQ
    cases neg with
    | false =>
      have hdr := fill_drop (s := s) (by omega)
      have htn : (20 - (s.length : Int)).toNat = 20 - s.length := by omega
      have htl : 20 - (20 - s.length) = s.length := by omega
      generalize fill s = F at hla hdr ⊢
      have hdl : F.drop (20 - s.length) = s := hdr
      have hml : (20 - s.length) + s.length ≤ 20 := by omega
      clear hlt hn hneg hN hz g2 hM g4
      repeat' (first
    | (with_reducible refine run_n ?_; with_reducible first | refine hK _ _ (by simp) ?_ | refine hK _ _ ?_; clear hK K)
    | (refine zzc ?_)
    | (with_reducible refine awp_regT (by kernel_rfl) ?_; intro K hK)
    | (with_reducible refine a_cond (ht := ?_) (hf := ?_) <;> intro hb <;> (try simp at hb) <;> (try contradiction) <;> (try subst hb) <;> (try omega))
    | (with_reducible first | refine a_move (hr:=?_) | refine a_assign (hr:=?_) | refine a_remU (hr:=?_) | refine a_quoU (hr:=?_) | refine a_bin (hr:=?_) | refine a_pick (hr:=?_) | refine a_un (hr:=?_) | refine a_store (hr:=?_) | refine a_alloc (hr:=?_) | refine a_eqB (hr:=?_) | refine a_neB (hr:=?_) | refine a_conv (hr:=?_) | refine a_bytesStr (hr:=?_) | refine a_strBytes (hr:=?_) | refine a_sameSl (hr:=?_) | refine a_idxArr (hr:=?_) | refine a_sliceArr (hr:=?_) | refine a_eqS (hr:=?_) | refine a_neS (hr:=?_) | refine a_sliceS (hr:=?_) | refine a_sliceR (hr:=?_) | refine a_indexAddr (hr:=?_) | refine a_gT (hr:=?_) | refine a_gF (hr:=?_) | refine a_gU (hr:=?_))
    | (with_reducible refine a_gB (hT := ?_) (hF := ?_) <;> intro hb <;> (try simp at hb) <;> (try contradiction) <;> (try subst hb) <;> (try omega))
    | fail)
      (refine zzr hQ ?_)
      exact Fin.drop (by simp; exact .r) (by simp)
    | true =>
      have hdr := fill_drop (s := 45 :: s) (by simp; omega)
      have hset := fill_set (s := s) (by omega) 45
      rw [show 19 - s.length = 20 - s.length - 1 by omega] at hset
      have hla0 := fill_len (s := 45 :: s) (by simp; omega)
      have hla : ((fill s).set (20 - s.length - 1) 45).length = 20 := by rw [hset]; exact hla0
      have htn : (20 - (s.length : Int) - 1).toNat = 20 - s.length - 1 := by omega
      clear hlt hn hneg hN hz g2 hM g4
      repeat' (first
    | (with_reducible refine run_n ?_; with_reducible first | refine hK _ _ (by simp) ?_ | refine hK _ _ ?_; clear hK K)
    | (refine zzc ?_)
    | (with_reducible refine awp_regT (by kernel_rfl) ?_; intro K hK)
    | (with_reducible refine a_cond (ht := ?_) (hf := ?_) <;> intro hb <;> (try simp at hb) <;> (try contradiction) <;> (try subst hb) <;> (try omega))
    | (with_reducible first | refine a_move (hr:=?_) | refine a_assign (hr:=?_) | refine a_remU (hr:=?_) | refine a_quoU (hr:=?_) | refine a_bin (hr:=?_) | refine a_pick (hr:=?_) | refine a_un (hr:=?_) | refine a_store (hr:=?_) | refine a_alloc (hr:=?_) | refine a_eqB (hr:=?_) | refine a_neB (hr:=?_) | refine a_conv (hr:=?_) | refine a_bytesStr (hr:=?_) | refine a_strBytes (hr:=?_) | refine a_sameSl (hr:=?_) | refine a_idxArr (hr:=?_) | refine a_sliceArr (hr:=?_) | refine a_eqS (hr:=?_) | refine a_neS (hr:=?_) | refine a_sliceS (hr:=?_) | refine a_sliceR (hr:=?_) | refine a_indexAddr (hr:=?_) | refine a_gT (hr:=?_) | refine a_gF (hr:=?_) | refine a_gU (hr:=?_))
    | (with_reducible refine a_gB (hT := ?_) (hF := ?_) <;> intro hb <;> (try simp at hb) <;> (try contradiction) <;> (try subst hb) <;> (try omega))
    | fail)
      simp only [hset]
      rw [List.length_cons, show 20 - (s.length + 1) = 20 - s.length - 1 by omega] at hdr
      generalize fill (45 :: s) = F at hla0 hdr ⊢
      have htl : 20 - (20 - s.length - 1) = s.length + 1 := by omega
      have hml : 20 - s.length - 1 + (s.length + 1) ≤ 20 := by omega
      clear hset hla
      repeat' (first
    | (with_reducible refine run_n ?_; with_reducible first | refine hK _ _ (by simp) ?_ | refine hK _ _ ?_; clear hK K)
    | (refine zzc ?_)
    | (with_reducible refine awp_regT (by kernel_rfl) ?_; intro K hK)
    | (with_reducible refine a_cond (ht := ?_) (hf := ?_) <;> intro hb <;> (try simp at hb) <;> (try contradiction) <;> (try subst hb) <;> (try omega))
    | (with_reducible first | refine a_move (hr:=?_) | refine a_assign (hr:=?_) | refine a_remU (hr:=?_) | refine a_quoU (hr:=?_) | refine a_bin (hr:=?_) | refine a_pick (hr:=?_) | refine a_un (hr:=?_) | refine a_store (hr:=?_) | refine a_alloc (hr:=?_) | refine a_eqB (hr:=?_) | refine a_neB (hr:=?_) | refine a_conv (hr:=?_) | refine a_bytesStr (hr:=?_) | refine a_strBytes (hr:=?_) | refine a_sameSl (hr:=?_) | refine a_idxArr (hr:=?_) | refine a_sliceArr (hr:=?_) | refine a_eqS (hr:=?_) | refine a_neS (hr:=?_) | refine a_sliceS (hr:=?_) | refine a_sliceR (hr:=?_) | refine a_indexAddr (hr:=?_) | refine a_gT (hr:=?_) | refine a_gF (hr:=?_) | refine a_gU (hr:=?_))
    | (with_reducible refine a_gB (hT := ?_) (hF := ?_) <;> intro hb <;> (try simp at hb) <;> (try contradiction) <;> (try subst hb) <;> (try omega))
    | fail)
      (refine zzr hQ ?_)
      exact Fin.drop (by simp; exact .r) (by simp)
  · rw [if_neg hst] at g4
    obtain ⟨q, hq⟩ : ∃ q, M / 10 = q := ⟨_, rfl⟩
    obtain ⟨d, hd⟩ : ∃ d, M % 10 = d := ⟨_, rfl⟩
    have hss2 : M.tdiv 10 = q := by rw [Int.tdiv_eq_ediv_of_nonneg g1]; exact hq
    have hss : M.tmod 10 = d := by rw [Int.tmod_eq_emod_of_nonneg g1]; exact hd
    have hM2 : M = 10 * q + d := by omega
    have hd2 : 0 ≤ d ∧ d < 10 := by omega
    have hq2 : 0 ≤ q := by omega
    have hset := fill_set (s := s) (by omega) (48 + d)
    rw [show 19 - s.length = 20 - s.length - 1 by omega] at hset
    have hlen : s.length ≤ 18 := by
      rcases Nat.lt_or_ge s.length 19 with h | h
      · omega
      · have h19 : s.length = 19 := by omega
        rw [h19, pow10] at g2
        exact absurd ⟨fun e => by simp [e] at h19, by omega⟩ hst
    have hnx : (if (48 + d) :: s ≠ [] ∧ q = 0 then (48 + d) :: s else nat10 (20 - ((48 + d) :: s).length) q ++ (48 + d) :: s) = nat10 20 N := by
      rw [← g4, show 20 - s.length = (19 - s.length) + 1 by omega, nat10]
      by_cases hq0 : q = 0
      · rw [if_pos ⟨by simp, hq0⟩, if_pos (by omega), show M = d by omega]; simp
      · rw [if_neg (fun h => hq0 h.2), if_neg (by omega), hq, hd, List.length_cons, show 20 - (s.length + 1) = 19 - s.length by omega]; simp
    have hpw : q * 10 ^ (s.length + 1) ≤ N := by
      rw [Int.pow_succ, Int.mul_comm (10 ^ s.length) 10, ← Int.mul_assoc]
      have h1 : (0 : Int) ≤ 10 ^ s.length := Int.le_of_lt (Int.pow_pos (by decide))
      have : q * 10 * 10 ^ s.length ≤ M * 10 ^ s.length := Int.mul_le_mul_of_nonneg_right (by omega) h1
      omega
    have hgo : (s.length : Int) = 0 ∨ ¬ M = 0 := by
      by_cases e : s = []
      · left; simp [e]
      · right; exact fun h => hst ⟨e, h⟩
    clear g4 hst g2
    cases neg with
    | false =>
      repeat' (first
    | (with_reducible refine run_n ?_; with_reducible first | refine hK _ _ (by simp) ?_ | refine hK _ _ ?_; clear hK K)
    | (refine zzc ?_)
    | (with_reducible refine awp_regT (by kernel_rfl) ?_; intro K hK)
    | (with_reducible refine a_cond (ht := ?_) (hf := ?_) <;> intro hb <;> (try simp at hb) <;> (try contradiction) <;> (try subst hb) <;> (try omega))
    | (with_reducible first | refine a_move (hr:=?_) | refine a_assign (hr:=?_) | refine a_remU (hr:=?_) | refine a_quoU (hr:=?_) | refine a_bin (hr:=?_) | refine a_pick (hr:=?_) | refine a_un (hr:=?_) | refine a_store (hr:=?_) | refine a_alloc (hr:=?_) | refine a_eqB (hr:=?_) | refine a_neB (hr:=?_) | refine a_conv (hr:=?_) | refine a_bytesStr (hr:=?_) | refine a_strBytes (hr:=?_) | refine a_sameSl (hr:=?_) | refine a_idxArr (hr:=?_) | refine a_sliceArr (hr:=?_) | refine a_eqS (hr:=?_) | refine a_neS (hr:=?_) | refine a_sliceS (hr:=?_) | refine a_sliceR (hr:=?_) | refine a_indexAddr (hr:=?_) | refine a_gT (hr:=?_) | refine a_gF (hr:=?_) | refine a_gU (hr:=?_))
    | (with_reducible refine a_gB (hT := ?_) (hF := ?_) <;> intro hb <;> (try simp at hb) <;> (try contradiction) <;> (try subst hb) <;> (try omega))
    | fail)
      all_goals first
        | (exfalso; omega)
        | exact ⟨(q, (48 + d) :: s), by simp; omega, ⟨hq2, hpw, by simp; omega, hnx⟩, weak_o (by rw [hd, hset]; repeat' (first | refine sub_ohp (by first | (simp; done) | (intro hne; simp at hne; simp [hne])) (by simp) ?_ | exact sub_hpL (by simp))) (by simp) (by simp [hd, hq]; omega)⟩
    | true =>
      have e9 : d ≤ 0 → (48 : Int) + -d = 48 + d := fun h => by omega
      repeat' (first
    | (with_reducible refine run_n ?_; with_reducible first | refine hK _ _ (by simp) ?_ | refine hK _ _ ?_; clear hK K)
    | (refine zzc ?_)
    | (with_reducible refine awp_regT (by kernel_rfl) ?_; intro K hK)
    | (with_reducible refine a_cond (ht := ?_) (hf := ?_) <;> intro hb <;> (try simp at hb) <;> (try contradiction) <;> (try subst hb) <;> (try omega))
    | (with_reducible first | refine a_move (hr:=?_) | refine a_assign (hr:=?_) | refine a_remU (hr:=?_) | refine a_quoU (hr:=?_) | refine a_bin (hr:=?_) | refine a_pick (hr:=?_) | refine a_un (hr:=?_) | refine a_store (hr:=?_) | refine a_alloc (hr:=?_) | refine a_eqB (hr:=?_) | refine a_neB (hr:=?_) | refine a_conv (hr:=?_) | refine a_bytesStr (hr:=?_) | refine a_strBytes (hr:=?_) | refine a_sameSl (hr:=?_) | refine a_idxArr (hr:=?_) | refine a_sliceArr (hr:=?_) | refine a_eqS (hr:=?_) | refine a_neS (hr:=?_) | refine a_sliceS (hr:=?_) | refine a_sliceR (hr:=?_) | refine a_indexAddr (hr:=?_) | refine a_gT (hr:=?_) | refine a_gF (hr:=?_) | refine a_gU (hr:=?_))
    | (with_reducible refine a_gB (hT := ?_) (hF := ?_) <;> intro hb <;> (try simp at hb) <;> (try contradiction) <;> (try subst hb) <;> (try omega))
    | fail)
      all_goals first
        | (exfalso; omega)
        | exact ⟨(q, (48 + d) :: s), by simp; omega, ⟨hq2, hpw, by simp; omega, hnx⟩, weak_o (by rw [hset]; repeat' (first | refine sub_ohp (by first | (simp; done) | (intro hne; simp at hne; simp [hne])) (by simp) ?_ | exact sub_hpL (by simp))) (by simp) (by simp; omega)⟩
        | exact ⟨(q, (48 + d) :: s), by simp; omega, ⟨hq2, hpw, by simp; omega, hnx⟩, weak_o (by rw [e9 (by assumption), hset]; repeat' (first | refine sub_ohp (by first | (simp; done) | (intro hne; simp at hne; simp [hne])) (by simp) ?_ | exact sub_hpL (by simp))) (by simp) (by simp; omega)⟩
end Go.Proofs.YtngeckkebejhiaaDoor.Asl
