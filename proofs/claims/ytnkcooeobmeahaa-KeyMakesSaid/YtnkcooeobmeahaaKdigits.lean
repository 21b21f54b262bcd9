/- Digits and numbers, the program's and the document's. -/
import Derived.Test.YtnkcooeobmeahaaZ10
import Derived.Test.YtnkcooeobmeahaaZ11
import Derived.Test.YtnkcooeobmeahaaZ12
import Derived.Test.YtnkcooeobmeahaaKnum
import Derived.Test.YtnkcooeobmeahaaKafter
import Derived.Laws.BitsLemmas
namespace Go.Proofs.Ytnkcooeobmeahaa.K3
open Go.RowKit Go.Proofs.Ytnkcooeobmeahaa.Z Go.Proofs.YtnkcooeobmeahaaW.PrintWords Go.Proofs.YtnkcooeobmeahaaW.PrintLast Go.Proofs.YtnkcooeobmeahaaW.PrintMore Go.Proofs.Ytnkcooeobmeahaa.PB
set_option linter.unusedVariables false
set_option linter.unusedSimpArgs false

/-- What a digit stands for; 16: it is none. -/
def hv (c : Int) : Int := if 48 ≤ c ∧ c ≤ 57 then c - 48 else if 97 ≤ c ∧ c ≤ 102 then c - 87 else 16
def stp (n d : Int) : Int := 16 * n % 18446744073709551616 + d
/-- The number of digits, from n on. -/
def digs : List Int → Int → Option Int
  | [], n => some n
  | c :: r, n => if hv c = 16 then none else digs r (stp n (hv c))
theorem hv_bound (c : Int) : 0 ≤ hv c ∧ hv c ≤ 16 := by unfold hv; split <;> (try split) <;> omega
theorem stp_bound {n d : Int} (h0 : 0 ≤ d) (h1 : d < 16) : 0 ≤ stp n d ∧ stp n d < 18446744073709551616 := by unfold stp; omega
theorem digs_snoc : ∀ (l : List Int) (c n : Int), digs (l ++ [c]) n = (digs l n).bind fun m => if hv c = 16 then none else some (stp m (hv c))
  | [], c, n => by simp [digs]
  | d :: l, c, n => by
    simp only [List.cons_append, digs]
    split
    · rfl
    · exact digs_snoc l c _
theorem hv_dg {x : Int} (h0 : 0 ≤ x) (h1 : x < 16) : hv (dg x) = x := by unfold hv dg; split <;> split <;> (try split) <;> omega
theorem digs_hx : ∀ (k : Nat) (a : Int), 0 ≤ a → a < 16 ^ k → a < 18446744073709551616 → digs (hx a k) 0 = some a
  | 0, a, h0, h1, _ => by simp at h1; simp [hx, digs]; omega
  | k + 1, a, h0, h1, h2 => by
    rw [Int.pow_succ] at h1
    simp only [hx]
    rw [digs_snoc, digs_hx k (a / 16) (by omega) (by omega) (by omega), Option.bind_some, hv_dg (by omega) (by omega), if_neg (by omega)]
    unfold stp
    congr 1
    omega

theorem or_join {x y : Int} (hx0 : 0 ≤ x) (hx1 : x < 18446744073709551616) (hx : x % 16 = 0) (hy0 : 0 ≤ y) (hy1 : y < 16) : Go.bits .or .u64 x y = x + y :=
  bits_join .u64 64 (by decide) key_Number.wraps 4 x y hx0 (by omega) (by omega) hy0 (by omega) (by omega)
theorem or_stp {n d : Int} (h0 : 0 ≤ d) (h1 : d < 16) : Go.bits .or .u64 (IntKind.u64.wrap (n * 16)) d = stp n d := by
  rw [wu64, or_join (by omega) (by omega) (by omega) h0 h1]
  unfold stp; omega

def digR (o : Option Int) : Int × Int := match o with | some v => (v, 0) | none => (0, 31)
theorem ev_kdigits_l0 (s : ByteArray) (hs : s.size = 16) : ∀ (m i : Nat) (n : Int), i + m = 16 → 0 ≤ n → Ev (fun k => key_Digits.l0 k s n (i : Int)) (digR (digs ((bytesOf s).drop i) n))
  | 0, i, n, hi, hn => by
    refine ev_none (fun k => ?_)
    simp only [key_Digits.l0]
    rw [if_neg (by omega), List.drop_eq_nil_of_le (by rw [len_bytes]; omega)]
    rfl
  | m + 1, i, n, hi, hn => by
    rw [drop_bt s i (by omega)]
    have hb := bt_bound s (i : Int)
    have e1 : wrap64 ((i : Int) + 1) = ((i + 1 : Nat) : Int) := by rw [w64 (by omega) (by omega)]; omega
    obtain ⟨c, hc⟩ : ∃ c, bt s (i : Int) = c := ⟨_, rfl⟩
    rw [hc] at hb ⊢
    simp only [digs]
    have go1 : ∀ b : Bool, b = (decide (48 ≤ c) && decide (c ≤ 57)) → Ev (fun k => key_Digits.j1 k s n c (i : Int) b) (digR (if hv c = 16 then none else digs ((bytesOf s).drop (i + 1)) (stp n (hv c)))) := by
      intro b hbb
      by_cases h1 : 48 ≤ c ∧ c ≤ 57
      · have hv1 : hv c = c - 48 := by unfold hv; rw [if_pos h1]
        rw [if_neg (by omega)]
        refine ev_step _ (fun k => ?_) (ev_kdigits_l0 s hs m (i + 1) (stp n (hv c)) (by omega) (stp_bound (by omega) (by omega)).1)
        simp only [key_Digits.j1]
        rw [if_pos (by rw [hbb]; simp [h1]), e1, show (c - 48) % 256 = c - 48 by omega, or_stp (by omega) (by omega), hv1]
      · have hb0 : b = false := by rw [hbb]; simp; omega
        subst hb0
        by_cases h2 : 97 ≤ c ∧ c ≤ 102
        · have hv1 : hv c = c - 87 := by unfold hv; rw [if_neg h1, if_pos h2]
          rw [if_neg (by omega)]
          refine ev_step _ (fun k => ?_) (ev_kdigits_l0 s hs m (i + 1) (stp n (hv c)) (by omega) (stp_bound (by omega) (by omega)).1)
          simp only [key_Digits.j1]
          rw [if_neg (by decide), if_pos (by omega), if_pos (by omega), e1, show ((c - 97) % 256 + 10) % 256 = c - 87 by omega, or_stp (by omega) (by omega), hv1]
        · have hv1 : hv c = 16 := by unfold hv; rw [if_neg h1, if_neg h2]
          rw [if_pos hv1]
          refine ev_none (fun k => ?_)
          simp only [key_Digits.j1]
          rw [if_neg (by decide)]
          by_cases h3 : c ≥ 97
          · rw [if_pos h3, if_neg (by omega)]; rfl
          · rw [if_neg h3]; rfl
    refine ev_step (fun k => key_Digits.j1 k s n c (i : Int) (decide (48 ≤ c) && decide (c ≤ 57))) (fun k => ?_) (go1 _ rfl)
    simp only [key_Digits.l0, hc]
    rw [if_pos (by omega), if_pos (by omega), if_pos (by omega)]
    by_cases h1 : c ≥ 48
    · rw [if_pos h1, show decide (48 ≤ c) = true by simpa using h1, Bool.true_and]
    · rw [if_neg h1, show decide (48 ≤ c) = false by simpa using h1, Bool.false_and]
theorem ev_kdigits (s : ByteArray) : Ev (fun k => key_Digits.f k s) (if s.size = 16 then digR (digs (bytesOf s) 0) else (0, 31)) := by
  unfold key_Digits.f
  by_cases h : s.size = 16
  · rw [if_pos h]
    simp only [if_pos (show (s.size : Int) = 16 by omega)]
    exact ev_kdigits_l0 s h 16 0 0 (by omega) (by omega)
  · rw [if_neg h]
    simp only [if_neg (show ¬ (s.size : Int) = 16 by omega)]
    exact Ev.now _

/-! the document's -/
def hexS : ByteArray := ⟨#[48, 49, 50, 51, 52, 53, 54, 55, 56, 57, 97, 98, 99, 100, 101, 102]⟩
theorem hexS_bt : ∀ j : Fin 16, bt hexS (j.val : Int) = dg (j.val : Int) := by decide +kernel
/-- What the inner loop finds, with m rounds left. -/
def fin (c : Int) : Nat → Int → Int
  | 0, x => x
  | m + 1, x => fin c m (if dg (16 - ((m : Int) + 1)) = c then 16 - ((m : Int) + 1) else x)
theorem fin_hv : ∀ c : Fin 256, fin (c.val : Int) 16 16 = hv (c.val : Int) := by decide +kernel
theorem ev_rdigits_l1 (s : ByteArray) (n sz : Int) (i : Nat) (hi : i < s.size) (r : Int × Int) : ∀ (m : Nat) (x : Int), m ≤ 16 →
    Ev (fun k => if fin (bt s (i : Int)) m x = 16 then some (0, 31) else conductorref03_Digits.l0 k s (IntKind.u64.wrap ((IntKind.u64.wrap (16 * n)) + fin (bt s (i : Int)) m x)) sz (wrap64 ((i : Int) + 1))) r →
    Ev (fun k => conductorref03_Digits.l1 k s n (i : Int) x sz (i : Int) (16 - (m : Int))) r
  | 0, x, _, h => by
    refine ev_step _ (fun k => ?_) h
    simp only [conductorref03_Digits.l1, fin]
    rw [if_neg (by omega)]
    rfl
  | m + 1, x, hm, h => by
    have ih := ev_rdigits_l1 s n sz i hi r m (if dg (16 - ((m : Int) + 1)) = bt s (i : Int) then 16 - ((m : Int) + 1) else x) (by omega) h
    have e1 : (16 : Int) - ((m + 1 : Nat) : Int) = ((15 - m : Nat) : Int) := by omega
    have e2 : bt hexS ((15 - m : Nat) : Int) = dg (16 - ((m : Int) + 1)) := by
      have := hexS_bt ⟨15 - m, by omega⟩
      rw [this]; congr 1; simp only; omega
    have e3 : IntKind.u64.wrap (((15 - m : Nat) : Int) + 1) = 16 - (m : Int) := by rw [wu64_in (by omega) (by omega)]; omega
    refine ev_step _ (fun k => ?_) ih
    simp only [conductorref03_Digits.l1, e1]
    rw [if_pos (by omega), if_pos (by omega), if_pos (by omega), if_pos (by omega), e3]
    rw [show (⟨#[48, 49, 50, 51, 52, 53, 54, 55, 56, 57, 97, 98, 99, 100, 101, 102]⟩ : ByteArray) = hexS from rfl, e2]
    by_cases h2 : dg (16 - ((m : Int) + 1)) = bt s (i : Int)
    · rw [if_pos h2, if_pos h2, show ((15 - m : Nat) : Int) = 16 - ((m : Int) + 1) by omega]
    · rw [if_neg h2, if_neg h2]
theorem ev_rdigits_l0 (s : ByteArray) (hs : s.size ≤ 4611686018427387904) : ∀ (m i : Nat) (n : Int), i + m = s.size → Ev (fun k => conductorref03_Digits.l0 k s n (s.size : Int) (i : Int)) (if s.size = 16 then digR (digs ((bytesOf s).drop i) n) else (0, 31))
  | 0, i, n, hi => by
    refine ev_none (fun k => ?_)
    simp only [conductorref03_Digits.l0]
    rw [if_neg (by omega), List.drop_eq_nil_of_le (by rw [len_bytes]; omega)]
    by_cases h : s.size = 16
    · rw [if_pos h, if_pos (by omega)]; rfl
    · rw [if_neg h, if_neg (by omega)]
  | m + 1, i, n, hi => by
    have ih := ev_rdigits_l0 s hs m (i + 1)
    rw [drop_bt s i (by omega)]
    have hb := bt_bound s (i : Int)
    have e1 : wrap64 ((i : Int) + 1) = ((i + 1 : Nat) : Int) := by rw [w64 (by omega) (by omega)]; omega
    have ef : fin (bt s (i : Int)) 16 16 = hv (bt s (i : Int)) := by
      have := fin_hv ⟨(bt s (i : Int)).toNat, by omega⟩
      rw [show (((⟨(bt s (i : Int)).toNat, by omega⟩ : Fin 256).val : Nat) : Int) = bt s (i : Int) by simp only; omega] at this
      exact this
    have hvb := hv_bound (bt s (i : Int))
    refine ev_step (fun k => conductorref03_Digits.l1 k s n (i : Int) 16 (s.size : Int) (i : Int) (16 - ((16 : Nat) : Int))) (fun k => ?_) (ev_rdigits_l1 s n (s.size : Int) i (by omega) _ 16 16 (by omega) ?_)
    · simp only [conductorref03_Digits.l0]
      rw [if_pos (by omega)]; rfl
    · rw [ef, e1]
      simp only [digs]
      by_cases h : hv (bt s (i : Int)) = 16
      · simp only [if_pos h]
        refine ev_eq (Ev.now _) ?_
        split <;> rfl
      · simp only [if_neg h]
        have e2 : IntKind.u64.wrap (IntKind.u64.wrap (16 * n) + hv (bt s (i : Int))) = stp n (hv (bt s (i : Int))) := by
          rw [wu64, wu64]; unfold stp; omega
        rw [e2]
        exact ih _ (by omega)
theorem ev_rdigits (s : ByteArray) (hs : s.size ≤ 4611686018427387904) : Ev (fun k => conductorref03_Digits.f k s) (if s.size = 16 then digR (digs (bytesOf s) 0) else (0, 31)) :=
  ev_rdigits_l0 s hs s.size 0 0 (by omega)
theorem hexS_cut : ∀ j : Fin 16, bytesOf (hexS.extract j.val (j.val + 1)) = [dg (j.val : Int)] := by decide +kernel
theorem ev_rnumber_l0 : ∀ (m : Nat) (a : Int) (x : ByteArray), m ≤ 16 → 0 ≤ a → a < 18446744073709551616 → x.size + m ≤ 1000 → Ev (fun k => conductorref03_Number.l0 k a x (16 - (m : Int))) (strOfNums (hx a m) ++ x)
  | 0, a, x, _, h0, h1, _ => by
    refine ev_none (fun k => ?_)
    simp only [conductorref03_Number.l0]
    rw [if_neg (by omega), show strOfNums (hx a 0) ++ x = x from bytes_inj (by rw [bytes_app]; rfl)]
  | m + 1, a, x, hm, h0, h1, hx0 => by
    have em : Int.tmod a 16 = a % 16 := Int.tmod_eq_emod_of_nonneg h0
    have ed : Int.tdiv a 16 = a / 16 := Int.tdiv_eq_ediv_of_nonneg h0
    have e3 : IntKind.u64.wrap (a % 16 + 1) = a % 16 + 1 := wu64_in (by omega) (by omega)
    have e4 : IntKind.u64.wrap (a / 16) = a / 16 := wu64_in (by omega) (by omega)
    have e5 : wrap64 (16 - ((m + 1 : Nat) : Int) + 1) = 16 - (m : Int) := by rw [w64 (by omega) (by omega)]; omega
    obtain ⟨y, hy⟩ : ∃ y, hexS.extract (a % 16).toNat (a % 16 + 1).toNat = y := ⟨_, rfl⟩
    have hyb : bytesOf y = [dg (a % 16)] := by
      have := hexS_cut ⟨(a % 16).toNat, by omega⟩
      rw [← hy, show (a % 16 + 1).toNat = (a % 16).toNat + 1 by omega, this]
      congr 2; simp only; omega
    have hys : y.size = 1 := by rw [← len_bytes, hyb]; rfl
    have ih := ev_rnumber_l0 m (a / 16) (y ++ x) (by omega) (by omega) (by omega) (by rw [size_app]; omega)
    refine ev_step _ (fun k => ?_) (ev_eq ih ?_)
    · simp only [conductorref03_Number.l0, em, ed, e3, e4, e5]
      rw [show (⟨#[48, 49, 50, 51, 52, 53, 54, 55, 56, 57, 97, 98, 99, 100, 101, 102]⟩ : ByteArray) = hexS from rfl, hy]
      rw [if_pos (by omega), if_pos (by omega), if_pos (by omega), if_pos (by omega), if_pos (by omega)]
    · apply bytes_inj
      have hB : IsB (hx (a / 16) m ++ [dg (a % 16)]) := hx_isB a (m + 1)
      simp only [bytes_app, bytes_of_nums (hx_isB _ _), hyb, hx, bytes_of_nums hB, List.append_assoc]
theorem ev_rnumber (a : Int) (h0 : 0 ≤ a) (h1 : a < 18446744073709551616) : Ev (fun k => conductorref03_Number.f k a) (strOfNums (hx a 16)) := by
  have h := ev_rnumber_l0 16 a ⟨#[]⟩ (by omega) h0 h1 (by decide)
  refine ev_eq h ?_
  apply bytes_inj
  rw [bytes_app, bytes_empty, List.append_nil]
theorem ev_rafter : ∀ (n : Nat) (s : ByteArray), s.size = n → s.size ≤ 4611686018427387904 → Ev (fun k => conductorref03_After.f k s) (strOfNums (after (bytesOf s)))
  | 0, s, hn, _ => by
    refine ev_none (fun k => ?_)
    simp only [conductorref03_After.f]
    rw [if_pos (toList_nil.2 hn)]
    have : bytesOf s = [] := List.length_eq_zero_iff.1 (by rw [len_bytes]; exact hn)
    rw [this]; rfl
  | n + 1, s, hn, hs => by
    have e1 : wrap64 ((s.size : Int) - 1) = (n : Int) := by rw [w64 (by omega) (by omega)]; omega
    have hb := bt_bound s (n : Int)
    have ht : bytesOf s = (bytesOf s).take n ++ [bt s (n : Int)] := by
      have := take_succ_bt s n (by omega)
      rw [List.take_of_length_le (by rw [len_bytes]; omega)] at this
      exact this
    have ex : bytesOf (s.extract 0 n) = (bytesOf s).take n := by rw [bytes_extract, List.drop_zero, Nat.sub_zero]
    have exs : (s.extract 0 n).size = n := by rw [← len_bytes, ex, List.length_take, len_bytes]; omega
    have hne : ¬ s.toList = [] := fun h => by have := toList_nil.1 h; omega
    by_cases h : bt s (n : Int) = 255
    · have ih := ev_rafter n (s.extract 0 n) exs (by omega)
      have ea : after (bytesOf s) = after ((bytesOf s).take n) := by rw [ht, after_snoc, if_neg (by omega), ← ht]
      rw [ex, ← ea] at ih
      refine ev_step _ (fun k => ?_) (Ev.bind ih (Ev.now _))
      simp only [conductorref03_After.f, e1]
      rw [if_neg hne, if_pos (by omega), if_pos (by omega), if_pos h, if_pos (by omega)]
      rfl
    · have ea : after (bytesOf s) = (bytesOf s).take n ++ [bt s (n : Int) + 1] := by rw [ht, after_snoc, if_pos (by omega), ← ht]
      refine ev_none (fun k => ?_)
      simp only [conductorref03_After.f, e1]
      rw [if_neg hne, if_pos (by omega), if_pos (by omega), if_neg h, if_pos (by omega)]
      simp only [Option.bind_some, Int.toNat_natCast]
      rw [if_pos (by rw [exs, size_of_nums, List.length_singleton]; omega), ea]
      congr 1
      apply bytes_inj
      rw [bytes_app, ex, bytes_of_nums, bytes_of_nums]
      · rw [show (bt s (n : Int) + 1) % 256 = bt s (n : Int) + 1 by omega]
      · exact isB_app.2 ⟨isB_take (isB_bytes s) n, isB_cons.2 ⟨by omega, isB_nil⟩⟩
      · exact isB_cons.2 ⟨by omega, isB_nil⟩
end Go.Proofs.Ytnkcooeobmeahaa.K3
