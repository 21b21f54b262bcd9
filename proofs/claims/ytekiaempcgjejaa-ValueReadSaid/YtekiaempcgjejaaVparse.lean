/- What is printed of a value is parsed again: numbers and texts. -/
import Derived.Test.YtekiaempcgjejaaZ9
import Derived.Test.YtekiaempcgjejaaZ4
import Derived.Test.YtekiaempcgjejaaZ3
import Derived.Test.YtekiaempcgjejaaZ5
import Derived.Test.YtekiaempcgjejaaZ7
import Derived.Test.YtekiaempcgjejaaPB
import Derived.Laws.BitsLemmas
namespace Go.Proofs.Ytekiaempcgjejaa.V4
open Go.RowKit Go.Proofs.Ytekiaempcgjejaa.Z Go.Proofs.YtekiaempcgjejaaW.PrintWords Go.Proofs.YtekiaempcgjejaaW.PrintLast Go.Proofs.YtekiaempcgjejaaW.PrintMore Go.Proofs.Ytekiaempcgjejaa.PB
set_option linter.unusedVariables false
set_option linter.unusedSimpArgs false

def isD (c : Int) : Prop := 48 ≤ c ∧ c ≤ 57
theorem digit_f (c : Int) : value_digit.f c = some (decide (48 ≤ c ∧ c ≤ 57)) := by
  unfold value_digit.f
  by_cases h : c ≥ 48
  · rw [if_pos h]; congr 1; rw [Bool.eq_iff_iff]; simp; omega
  · rw [if_neg h]; congr 1; symm; simp; omega
def inB (c : Int) : Bool := decide (48 ≤ c ∧ c ≤ 57) || decide (c = 45) || decide (97 ≤ c ∧ c ≤ 122)
theorem inner_f (c : Int) : value_inner.f c = some (inB c) := by
  unfold value_inner.f inB
  rw [digit_f, Option.bind_some]
  by_cases h : 48 ≤ c ∧ c ≤ 57
  · simp [h]
  · rw [if_neg (by simpa using h), show decide (48 ≤ c ∧ c ≤ 57) = false by simpa using h]
    by_cases h2 : c = 45
    · simp [h2]
    · rw [if_neg h2, show decide (c = 45) = false by simpa using h2]
      by_cases h3 : c ≥ 97
      · rw [if_pos h3]; congr 1; rw [Bool.eq_iff_iff]; simp; omega
      · rw [if_neg h3]; congr 1; symm; simp; omega
/-- What may follow. -/
def EndsM (M : List Int) : Prop := ∀ c r, M = c :: r → inB c = false

/-! numbers -/
def dval (l : List Int) (n : Int) : Int := l.foldl (fun n c => 10 * n + (c - 48)) n
theorem dval_snoc (l : List Int) (c n : Int) : dval (l ++ [c]) n = 10 * dval l n + (c - 48) := by simp [dval]
theorem dval_cons (l : List Int) (c n : Int) : dval (c :: l) n = dval l (10 * n + (c - 48)) := rfl
theorem dval_ge : ∀ (l : List Int) (n : Int), (∀ c ∈ l, isD c) → 0 ≤ n → n ≤ dval l n
  | [], n, _, _ => Int.le_refl _
  | c :: l, n, h, hn => by
    have hc : 48 ≤ c ∧ c ≤ 57 := h c List.mem_cons_self
    have := dval_ge l (10 * n + (c - 48)) (fun x hx => h x (List.mem_cons_of_mem _ hx)) (by omega)
    rw [dval_cons]; omega
theorem dec_digits : ∀ (k : Nat) (u : Int), 0 ≤ u → ∀ c ∈ value_number.dec k u, isD c
  | 0, u, _, c, h => by simp [value_number.dec] at h
  | k + 1, u, h0, c, h => by
    rw [value_number.dec] at h
    by_cases h10 : u < 10
    · rw [if_pos h10] at h
      have : c = 48 + u := by simpa using h
      unfold isD; omega
    · rw [if_neg h10] at h
      rcases List.mem_append.1 h with h | h
      · exact dec_digits k (u / 10) (by omega) c h
      · have : c = 48 + u % 10 := by simpa using h
        unfold isD; omega
theorem dec_val : ∀ (k : Nat) (u : Int), 0 ≤ u → u < 10 ^ k → dval (value_number.dec k u) 0 = u
  | 0, u, h0, h1 => by simp at h1; simp [value_number.dec, dval]; omega
  | k + 1, u, h0, h1 => by
    rw [value_number.dec]
    by_cases h10 : u < 10
    · rw [if_pos h10]; simp [dval]; omega
    · rw [Int.pow_succ] at h1
      rw [if_neg h10, dval_snoc, dec_val k (u / 10) (by omega) (by omega)]; omega
theorem dec_head : ∀ (k : Nat) (u : Int), 0 ≤ u → u < 10 ^ (k + 1) → ∃ c r, value_number.dec (k + 1) u = c :: r ∧ (c = 48 → r = []) ∧ (0 < u → ¬ c = 48)
  | 0, u, h0, h1 => by
    have h10 : u < 10 := by simpa using h1
    exact ⟨48 + u, [], by rw [value_number.dec, if_pos h10], fun _ => rfl, fun h => by omega⟩
  | k + 1, u, h0, h1 => by
    by_cases h10 : u < 10
    · exact ⟨48 + u, [], by rw [value_number.dec, if_pos h10], fun _ => rfl, fun h => by omega⟩
    · rw [Int.pow_succ] at h1
      obtain ⟨c, r, e, h2, h3⟩ := dec_head k (u / 10) (by omega) (by omega)
      have h4 := h3 (by omega)
      exact ⟨c, r ++ [48 + u % 10], by rw [value_number.dec, if_neg h10, e]; rfl, fun h => absurd h h4, fun _ => h4⟩
theorem drop_next {s : ByteArray} {i : Nat} {c : Int} {r : List Int} (h : (bytesOf s).drop i = c :: r) : i < s.size ∧ bt s (i : Int) = c ∧ (bytesOf s).drop (i + 1) = r := by
  have hi : i < s.size := by
    apply Nat.lt_of_not_le
    intro h2
    rw [List.drop_eq_nil_of_le (by rw [len_bytes]; exact h2)] at h
    cases h
  have := drop_bt s i hi
  rw [h] at this
  injection this with h1 h2
  exact ⟨hi, h1.symm, h2.symm⟩
theorem drop_end {s : ByteArray} {i : Nat} (h : (bytesOf s).drop i = []) : s.size ≤ i := by
  have := List.drop_eq_nil_iff.1 h
  rw [len_bytes] at this; exact this
theorem step_num (n d most : Int) (hn : 0 ≤ n) (h0 : 0 ≤ d) (h1 : d ≤ 9) (hm : 9 ≤ most) (hm2 : most ≤ 9223372036854775808) (h : 10 * n + d ≤ most) :
    d % 256 = d ∧ IntKind.u64.wrap (IntKind.u64.wrap (10 * n) + d) = 10 * n + d ∧ decide (n > IntKind.u64.wrap (Int.tdiv (IntKind.u64.wrap (most - d)) 10)) = false := by
  have e3 : IntKind.u64.wrap (10 * n) = 10 * n := wu64_in (by omega) (by omega)
  have e4 : IntKind.u64.wrap (10 * n + d) = 10 * n + d := wu64_in (by omega) (by omega)
  have e5 : IntKind.u64.wrap (most - d) = most - d := wu64_in (by omega) (by omega)
  have e6 : Int.tdiv (most - d) 10 = (most - d) / 10 := Int.tdiv_eq_ediv_of_nonneg (by omega)
  have e7 : IntKind.u64.wrap ((most - d) / 10) = (most - d) / 10 := wu64_in (by omega) (by omega)
  refine ⟨by omega, by rw [e3, e4], ?_⟩
  rw [e5, e6, e7]
  simp only [decide_eq_false_iff_not]
  omega
theorem ev_digits_l0 (s : ByteArray) (hs : s.size ≤ 4611686018427387904) (most begin_ : Int) (hm : 9 ≤ most) (hm2 : most ≤ 9223372036854775808) (M : List Int) (hM : EndsM M) (R : Int × Int × ByteArray × Int × Int) (U : Int) (hU : U ≤ most) (e : Nat)
    (hR : Ev (fun k => value_parseInt.j2 k s (e : Int) begin_ U false) R) : ∀ (ds : List Int) (i : Nat) (n : Int), (∀ c ∈ ds, isD c) → (bytesOf s).drop i = ds ++ M → i + ds.length = e → 0 ≤ n → dval ds n = U →
    Ev (fun k => value_parseInt.l0 k s (i : Int) most begin_ n false) R
  | [], i, n, _, hd, hi, hn, hv => by
    have hie : i = e := by simpa using hi
    have hnU : n = U := hv
    subst hie; subst hnU
    refine ev_step _ (fun k => ?_) hR
    simp only [value_parseInt.l0]
    by_cases hlt : (i : Int) < (s.size : Int)
    · rw [if_pos hlt, if_pos (by omega), digit_f, Option.bind_some]
      have : decide (48 ≤ bt s (i : Int) ∧ bt s (i : Int) ≤ 57) = false := by
        rw [List.nil_append] at hd
        have hdi := drop_bt s i (by omega)
        rw [hd] at hdi
        have := hM _ _ hdi
        unfold inB at this
        simp only [Bool.or_eq_false_iff] at this
        exact this.1.1
      rw [this, if_neg (by decide)]
    · rw [if_neg hlt]
  | c :: ds, i, n, hD, hd, hi, hn, hv => by
    obtain ⟨hlt, hc, hd2⟩ := drop_next hd
    have hcd : 48 ≤ c ∧ c ≤ 57 := hD c List.mem_cons_self
    rw [dval_cons] at hv
    have hge := dval_ge ds (10 * n + (c - 48)) (fun x hx => hD x (List.mem_cons_of_mem _ hx)) (by omega)
    have ih := ev_digits_l0 s hs most begin_ hm hm2 M hM R U hU e hR ds (i + 1) (10 * n + (c - 48)) (fun x hx => hD x (List.mem_cons_of_mem _ hx)) hd2 (by rw [List.length_cons] at hi; omega) (by omega) hv
    have e1 : wrap64 ((i : Int) + 1) = ((i + 1 : Nat) : Int) := by rw [w64 (by omega) (by omega)]; omega
    have e8 := step_num n (c - 48) most hn (by omega) (by omega) hm hm2 (by omega)
    refine ev_step _ (fun k => ?_) ih
    simp only [value_parseInt.l0, hc, e1]
    rw [if_pos (Int.ofNat_lt.2 hlt), if_pos (Int.natCast_nonneg i), digit_f, Option.bind_some, if_pos (decide_eq_true hcd), if_neg Bool.false_ne_true, e8.1, e8.2.1, e8.2.2]
/-- A number is read as it was printed. -/
theorem ev_parseInt (n : Int) (h0 : -9223372036854775808 ≤ n) (h1 : n ≤ 9223372036854775807) (s : ByteArray) (hs : s.size ≤ 4611686018427387904) (M : List Int) (hM : EndsM M) (hb : bytesOf s = value_number.list n ++ M) :
    Ev (fun k => value_parseInt.f k s) (1, n, (⟨#[]⟩ : ByteArray), ((value_number.list n).length : Int), 0) := by
  obtain ⟨U, hU⟩ : ∃ U : Int, U = (if n < 0 then -n else n) := ⟨_, rfl⟩
  have hU0 : 0 ≤ U := by rw [hU]; split <;> omega
  have hU1 : U < 10 ^ 20 := by rw [hU]; split <;> omega
  have hU2 : U ≤ 9223372036854775808 := by rw [hU]; split <;> omega
  obtain ⟨c, r, ec, hc1, hc2⟩ := dec_head 19 U hU0 hU1
  have hDd := dec_digits 20 U hU0
  have hval := dec_val 20 U hU0 hU1
  have hlen : (value_number.dec 20 U).length = r.length + 1 := by rw [ec]; rfl
  have hcd : 48 ≤ c ∧ c ≤ 57 := hDd c (by rw [ec]; exact List.mem_cons_self)
  -- where the first digit stands: b
  have main : ∀ (b : Nat) (most : Int), b ≤ 1 → (most = 9223372036854775807 ∧ b = 0 ∧ ¬ n < 0 ∨ most = 9223372036854775808 ∧ b = 1 ∧ n < 0) → (bytesOf s).drop b = value_number.dec 20 U ++ M →
      Ev (fun k => value_parseInt.j0 k s (b : Int) most) (1, n, (⟨#[]⟩ : ByteArray), ((b + (value_number.dec 20 U).length : Nat) : Int), 0) := by
    intro b most hb1 hbm hd
    have hd' : (bytesOf s).drop b = c :: (r ++ M) := by rw [hd, ec]; rfl
    obtain ⟨hlt, hbt, _⟩ := drop_next hd'
    have hsz : b + (value_number.dec 20 U).length ≤ s.size := by
      have := congrArg List.length hd
      rw [List.length_drop, len_bytes, List.length_append] at this; omega
    have hUm : U ≤ most := by
      rcases hbm with ⟨h2, _, h3⟩ | ⟨h2, _, h3⟩
      · rw [hU, if_neg h3]; omega
      · omega
    refine ev_step (fun k => value_parseInt.l0 k s (b : Int) most (b : Int) 0 false) (fun k => by simp only [value_parseInt.j0]) ?_
    refine ev_digits_l0 s hs most (b : Int) (by omega) (by omega) M hM _ U hUm (b + (value_number.dec 20 U).length) ?_ (value_number.dec 20 U) b 0 hDd hd rfl (by omega) hval
    -- behind the digits
    have j3 : Ev (fun k => value_parseInt.j3 k ((b + (value_number.dec 20 U).length : Nat) : Int) (b : Int) U false false) (1, n, (⟨#[]⟩ : ByteArray), ((b + (value_number.dec 20 U).length : Nat) : Int), 0) := by
      refine ev_none (fun k => ?_)
      simp only [value_parseInt.j3, value_Int.f]
      rw [if_neg (by decide), if_neg (by decide)]
      rcases hbm with ⟨_, hb0, hn⟩ | ⟨_, hb0, hn⟩
      · rw [if_neg (by omega)]
        simp only [Option.bind_some]
        rw [hU, if_neg hn, w64 (by omega) (by omega)]
      · rw [if_pos (by omega)]
        simp only [Option.bind_some]
        rw [hU, if_pos hn, show wrap64 (IntKind.u64.wrap (- -n)) = n by rw [wu64]; unfold wrap64; omega]
    have e1 : wrap64 (((b + (value_number.dec 20 U).length : Nat) : Int) - (b : Int)) = ((value_number.dec 20 U).length : Int) := by rw [w64 (by omega) (by omega)]; omega
    refine ev_step _ (fun k => ?_) j3
    simp only [value_parseInt.j2, hbt, e1]
    rw [if_pos (by omega), if_pos (by omega)]
    by_cases h48 : c = 48
    · rw [if_pos h48, if_neg (by rw [hlen, hc1 h48]; simp)]
      rcases hbm with ⟨_, hb0, hn⟩ | ⟨_, hb0, hn⟩
      · rw [show decide ((b : Int) > 0) = false by simp; omega]
      · exact absurd h48 (hc2 (by rw [hU, if_pos hn]; omega))
    · rw [if_neg h48]
  unfold value_parseInt.f
  by_cases hn : n < 0
  · have el : value_number.list n = 45 :: value_number.dec 20 U := by unfold value_number.list; rw [if_pos hn, hU, if_pos hn]
    rw [el] at hb ⊢
    have hd0 : (bytesOf s).drop 0 = 45 :: (value_number.dec 20 U ++ M) := by rw [List.drop_zero, hb]; rfl
    obtain ⟨hlt, hbt, hd1⟩ := drop_next hd0
    have := main 1 9223372036854775808 (by omega) (.inr ⟨rfl, rfl, hn⟩) hd1
    simp only [if_pos (show 0 < (s.size : Int) by omega), if_pos (show bt s 0 = 45 from hbt)]
    refine ev_eq this ?_
    rw [List.length_cons, Nat.add_comm]
  · have el : value_number.list n = value_number.dec 20 U := by unfold value_number.list; rw [if_neg hn, hU, if_neg hn]
    rw [el] at hb ⊢
    have hd0 : (bytesOf s).drop 0 = c :: (r ++ M) := by rw [List.drop_zero, hb, ec]; rfl
    obtain ⟨hlt, hbt, _⟩ := drop_next hd0
    have := main 0 9223372036854775807 (by omega) (.inl ⟨rfl, rfl, hn⟩) (by rw [List.drop_zero]; exact hb)
    simp only [if_pos (show 0 < (s.size : Int) by omega), if_neg (show ¬ bt s 0 = 45 by rw [show bt s 0 = c from hbt]; omega)]
    refine ev_eq this ?_
    rw [Nat.zero_add]

/-! texts -/
def dg (x : Int) : Int := if x < 10 then 48 + x else 87 + x
def esc4 (c : Int) : List Int := if c = 34 ∨ c = 92 then [92, c] else if c < 32 ∨ 126 < c then [92, dg (c / 16), dg (c % 16)] else [c]
def quo (l : List Int) : List Int := 34 :: (l.flatMap esc4 ++ [34])
theorem dg_bound {x : Int} (h0 : 0 ≤ x) (h1 : x < 16) : 48 ≤ dg x ∧ dg x ≤ 102 ∧ dg x ≠ 92 := by unfold dg; split <;> omega
def hexS : ByteArray := ⟨#[48, 49, 50, 51, 52, 53, 54, 55, 56, 57, 97, 98, 99, 100, 101, 102]⟩
theorem hexS_bt {j : Int} (h0 : 0 ≤ j) (h1 : j < 16) : bt hexS j = dg j := by
  have H : ∀ j : Fin 16, bt hexS (j.val : Int) = dg (j.val : Int) := by decide +kernel
  have := H ⟨j.toNat, by omega⟩
  rw [show (((⟨j.toNat, by omega⟩ : Fin 16).val : Nat) : Int) = j by simp only; omega] at this
  exact this
theorem esc4_isB {c : Int} (h : 0 ≤ c ∧ c ≤ 255) : IsB (esc4 c) := by
  have h1 := dg_bound (x := c / 16) (by omega) (by omega)
  have h2 := dg_bound (x := c % 16) (by omega) (by omega)
  unfold esc4
  split
  · exact isB_cons.2 ⟨by omega, isB_cons.2 ⟨h, isB_nil⟩⟩
  · split
    · exact isB_cons.2 ⟨by omega, isB_cons.2 ⟨by omega, isB_cons.2 ⟨by omega, isB_nil⟩⟩⟩
    · exact isB_cons.2 ⟨h, isB_nil⟩
theorem esc4_len (c : Int) : (esc4 c).length ≤ 3 := by
  unfold esc4; split
  · simp
  · split <;> simp
theorem quo_isB {l : List Int} (h : IsB l) : IsB (quo l) := by
  refine isB_cons.2 ⟨by omega, isB_app.2 ⟨fun b hb => ?_, isB_cons.2 ⟨by omega, isB_nil⟩⟩⟩
  obtain ⟨c, hc, hb⟩ := List.mem_flatMap.1 hb
  exact esc4_isB (h c hc) b hb
theorem ev_quote_l0 (s : ByteArray) (hs : s.size ≤ 1000000) : ∀ (m i : Nat) (x : List Int), i + m = s.size → x.length ≤ 1 + 3 * i → Ev (fun k => value_quote.l0 k s x (s.size : Int) (i : Int)) (strOfNums (x ++ ((bytesOf s).drop i).flatMap esc4 ++ [34]))
  | 0, i, x, hi, hx => by
    refine ev_none (fun k => ?_)
    simp only [value_quote.l0]
    rw [if_neg (by omega), if_pos (by omega), List.drop_eq_nil_of_le (by rw [len_bytes]; omega)]
    simp
  | m + 1, i, x, hi, hx => by
    rw [drop_bt s i (by omega), List.flatMap_cons]
    have hb := bt_bound s (i : Int)
    have e1 : wrap64 ((i : Int) + 1) = ((i + 1 : Nat) : Int) := by rw [w64 (by omega) (by omega)]; omega
    obtain ⟨c, hc⟩ : ∃ c, bt s (i : Int) = c := ⟨_, rfl⟩
    rw [hc] at hb ⊢
    have ih := ev_quote_l0 s hs m (i + 1) (x ++ esc4 c) (by omega) (by rw [List.length_append]; have := esc4_len c; omega)
    have ih' := ev_eq ih (show _ = strOfNums (x ++ (esc4 c ++ ((bytesOf s).drop (i + 1)).flatMap esc4) ++ [34]) by simp [List.append_assoc])
    have j1 : ∀ b : Bool, b = decide (c = 34 ∨ c = 92) → Ev (fun k => value_quote.j1 k s x c (s.size : Int) (i : Int) b) (strOfNums (x ++ (esc4 c ++ ((bytesOf s).drop (i + 1)).flatMap esc4) ++ [34])) := by
      intro b hbb
      refine ev_step _ (fun k => ?_) ih'
      simp only [value_quote.j1, e1]
      by_cases h1 : c = 34 ∨ c = 92
      · rw [if_pos (by rw [hbb]; simpa using h1)]
        simp only [Option.bind_some]
        rw [if_pos (by simp; omega), show esc4 c = [92, c] by unfold esc4; rw [if_pos h1]]
      · rw [if_neg (by rw [hbb]; simpa using h1)]
        have ex : bt (⟨#[48, 49, 50, 51, 52, 53, 54, 55, 56, 57, 97, 98, 99, 100, 101, 102]⟩ : ByteArray) (c / 16) = dg (c / 16) := hexS_bt (by omega) (by omega)
        have ea : Go.bits .and .u8 c 15 = c % 16 := u8_and15 c (by omega) (by omega)
        have ey : bt (⟨#[48, 49, 50, 51, 52, 53, 54, 55, 56, 57, 97, 98, 99, 100, 101, 102]⟩ : ByteArray) (c % 16) = dg (c % 16) := hexS_bt (by omega) (by omega)
        simp only [ea, ex, ey, Option.bind_some]
        by_cases h2 : c < 32
        · rw [if_pos h2, if_pos (by omega), if_pos (by omega), if_pos (by omega), if_pos (by omega), if_pos (by simp; omega), show esc4 c = [92, dg (c / 16), dg (c % 16)] by unfold esc4; rw [if_neg h1, if_pos (by omega)]]
        · rw [if_neg h2]
          by_cases h3 : c > 126
          · rw [if_pos h3, if_pos (by omega), if_pos (by omega), if_pos (by omega), if_pos (by omega), if_pos (by simp; omega), show esc4 c = [92, dg (c / 16), dg (c % 16)] by unfold esc4; rw [if_neg h1, if_pos (by omega)]]
          · rw [if_neg h3, if_pos (by omega), show esc4 c = [c] by unfold esc4; rw [if_neg h1, if_neg (by omega)]]
    refine ev_step _ (fun k => ?_) (j1 _ rfl)
    simp only [value_quote.l0, hc]
    rw [if_pos (by omega), if_pos (by omega), if_pos (by omega)]
    by_cases h34 : c = 34
    · rw [if_pos h34, show decide (c = 34 ∨ c = 92) = true by simp [h34]]
    · rw [if_neg h34]
      congr 1
      rw [Bool.eq_iff_iff]; simp [h34]
theorem ev_quote (s : ByteArray) (hs : s.size ≤ 1000000) : Ev (fun k => value_quote.f k s) (strOfNums (quo (bytesOf s))) := by
  have := ev_quote_l0 s hs s.size 0 [34] (by omega) (by simp)
  rw [List.drop_zero] at this
  exact this
theorem nibble_dg {x : Int} (h0 : 0 ≤ x) (h1 : x < 16) : value_nibble.f (dg x) = some x := by
  unfold value_nibble.f
  rw [digit_f, Option.bind_some]
  unfold dg
  by_cases h : x < 10
  · rw [if_pos h, if_pos (by simp; omega)]; congr 1; omega
  · rw [if_neg h, if_neg (by simp; omega), if_pos (by omega), if_pos (by omega)]; congr 1; omega
theorem or_u8 {x y : Int} (hx0 : 0 ≤ x) (hx1 : x < 256) (hx : x % 16 = 0) (hy0 : 0 ≤ y) (hy1 : y < 16) : Go.bits .or .u8 x y = x + y :=
  bits_join .u8 8 (by decide) wraps_u8 4 x y hx0 (by omega) (by omega) hy0 (by omega) (by omega)
theorem escaped_f (s : ByteArray) (c : Int) (hc : 0 ≤ c ∧ c ≤ 255) (hx : c < 32 ∨ 126 < c) (r : List Int) (hb : bytesOf s = dg (c / 16) :: dg (c % 16) :: r) : value_escaped.f s = some (c, true) := by
  have hsz : s.size = r.length + 2 := by rw [← len_bytes, hb]; rfl
  have h0 : bt s 0 = dg (c / 16) := by rw [bt_eq, hb]; rfl
  have h1 : bt s 1 = dg (c % 16) := by rw [bt_eq, hb]; rfl
  unfold value_escaped.f
  rw [if_neg (by omega), if_pos (by omega), h0, h1, nibble_dg (by omega) (by omega), nibble_dg (by omega) (by omega)]
  simp only [Option.bind_some]
  rw [if_pos (by omega), if_neg (by omega), if_neg (by omega), show (c / 16 * 16) % 256 = c / 16 * 16 by omega, or_u8 (by omega) (by omega) (by omega) (by omega) (by omega), show c / 16 * 16 + c % 16 = c by omega]
  by_cases h2 : c < 32
  · rw [if_pos h2]
  · rw [if_neg h2]; congr 2; simp; omega
theorem ev_text_l0 (s : ByteArray) (hs : s.size ≤ 1000000) (M : List Int) (e : Nat) (R : Int × Int × ByteArray × Int × Int) (L : List Int) (hR : Ev (fun k => value_parseText.j4 k s L (e : Int)) R) : ∀ (l : List Int) (i : Nat) (x : List Int), IsB l → (bytesOf s).drop i = l.flatMap esc4 ++ 34 :: M → i + (l.flatMap esc4).length = e → x ++ l = L → x.length ≤ i →
    Ev (fun k => value_parseText.l0 k s x (i : Int)) R
  | [], i, x, hB, hd, hi, hx, hxl => by
    have hie : i = e := by simpa using hi
    have hxe : x = L := by simpa using hx
    subst hie; subst hxe
    obtain ⟨hlt, hbt, _⟩ := drop_next (show (bytesOf s).drop i = 34 :: M from hd)
    refine ev_step _ (fun k => ?_) hR
    simp only [value_parseText.l0, hbt]
    rw [if_pos (by omega), if_pos (by omega), if_pos trivial]
  | c :: l, i, x, hB, hd, hi, hx, hxl => by
    have hBc := isB_cons.1 hB
    rw [List.flatMap_cons, List.append_assoc] at hd
    rw [List.flatMap_cons, List.length_append] at hi
    have ih := fun (m : Nat) (hm : m = i + (esc4 c).length) (hdm : (bytesOf s).drop m = l.flatMap esc4 ++ 34 :: M) => ev_text_l0 s hs M e R L hR l m (x ++ [c]) hBc.2 hdm (by omega) (by rw [List.append_assoc]; exact hx) (by
      have : 1 ≤ (esc4 c).length := by unfold esc4; split <;> (try split) <;> simp
      simp; omega)
    have e1 : ∀ m : Nat, m ≤ 1000002 → wrap64 ((m : Int) + 1) = ((m + 1 : Nat) : Int) := fun m hm => by rw [w64 (by omega) (by omega)]; omega
    have e2 : ∀ m : Nat, m ≤ 1000002 → wrap64 ((m : Int) + 2) = ((m + 2 : Nat) : Int) := fun m hm => by rw [w64 (by omega) (by omega)]; omega
    by_cases h1 : c = 34 ∨ c = 92
    · have ee : esc4 c = [92, c] := by unfold esc4; rw [if_pos h1]
      rw [ee] at hd ih
      obtain ⟨hlt, hbt, hd1⟩ := drop_next (show (bytesOf s).drop i = 92 :: (c :: (l.flatMap esc4 ++ 34 :: M)) from hd)
      obtain ⟨hlt1, hbt1, hd2⟩ := drop_next hd1
      have h3 := ih (i + 2) rfl hd2
      have j3 : Ev (fun k => value_parseText.j3 k s x (i : Int) 92 true) R := by
        refine ev_step _ (fun k => ?_) h3
        simp only [value_parseText.j3, e1 i (by omega), e1 (i + 1) (by omega), hbt1]
        rw [if_pos trivial, if_pos (by omega), if_pos (by omega), if_pos (by omega)]
      have j2 : Ev (fun k => value_parseText.j2 k s x (i : Int) 92 false) R := by
        refine ev_step _ (fun k => ?_) j3
        simp only [value_parseText.j2, e1 i (by omega), hbt1]
        rw [if_neg (by decide), if_pos trivial, if_pos (by omega), if_pos (by omega)]
        by_cases h34 : c = 34
        · rw [if_pos h34]
        · rw [if_neg h34, show (c == 92) = true by rcases h1 with h | h; exact absurd h h34; simp [h]]
      have j1 : Ev (fun k => value_parseText.j1 k s x (i : Int) 92 false) R := by
        refine ev_step _ (fun k => ?_) j2
        simp only [value_parseText.j1, e1 i (by omega)]
        rw [if_neg (by decide), if_pos trivial, show ((((i + 1 : Nat) : Int)) == (s.size : Int)) = false by simp; omega]
      refine ev_step _ (fun k => ?_) j1
      simp only [value_parseText.l0, hbt]
      rw [if_pos (by omega), if_pos (by omega), if_neg (by decide), if_neg (by decide)]
      rfl
    · by_cases h2 : c < 32 ∨ 126 < c
      · have ee : esc4 c = [92, dg (c / 16), dg (c % 16)] := by unfold esc4; rw [if_neg h1, if_pos h2]
        have hg1 := dg_bound (x := c / 16) (by omega) (by omega)
        rw [ee] at hd ih
        obtain ⟨hlt, hbt, hd1⟩ := drop_next (show (bytesOf s).drop i = 92 :: (dg (c / 16) :: (dg (c % 16) :: (l.flatMap esc4 ++ 34 :: M))) from hd)
        obtain ⟨hlt1, hbt1, hd2⟩ := drop_next hd1
        obtain ⟨hlt2, _, hd3⟩ := drop_next hd2
        have h3 := ih (i + 3) rfl hd3
        have hesc : value_escaped.f (s.extract (i + 1) s.size) = some (c, true) := escaped_f _ c hBc.1 h2 (l.flatMap esc4 ++ 34 :: M) (by rw [bytes_extract, hd1, List.take_of_length_le (by have := congrArg List.length hd1; rw [List.length_drop, len_bytes] at this; omega)])
        have j3 : Ev (fun k => value_parseText.j3 k s x (i : Int) 92 false) R := by
          refine ev_step _ (fun k => ?_) h3
          simp only [value_parseText.j3, e1 i (by omega), e2 i (by omega), e1 (i + 2) (by omega), Int.toNat_natCast, hesc, Option.bind_some]
          rw [if_neg (by decide), if_pos trivial, if_pos (by omega), if_pos (by omega), if_pos trivial, if_pos (by omega)]
        have j2 : Ev (fun k => value_parseText.j2 k s x (i : Int) 92 false) R := by
          refine ev_step _ (fun k => ?_) j3
          simp only [value_parseText.j2, e1 i (by omega), hbt1]
          rw [if_neg (by decide), if_pos trivial, if_pos (by omega), if_pos (by omega), if_neg (by omega), show (dg (c / 16) == 92) = false by simp; exact hg1.2.2]
        have j1 : Ev (fun k => value_parseText.j1 k s x (i : Int) 92 false) R := by
          refine ev_step _ (fun k => ?_) j2
          simp only [value_parseText.j1, e1 i (by omega)]
          rw [if_neg (by decide), if_pos trivial, show ((((i + 1 : Nat) : Int)) == (s.size : Int)) = false by simp; omega]
        refine ev_step _ (fun k => ?_) j1
        simp only [value_parseText.l0, hbt]
        rw [if_pos (by omega), if_pos (by omega), if_neg (by decide), if_neg (by decide)]
        rfl
      · have ee : esc4 c = [c] := by unfold esc4; rw [if_neg h1, if_neg h2]
        rw [ee] at hd ih
        obtain ⟨hlt, hbt, hd1⟩ := drop_next (show (bytesOf s).drop i = c :: (l.flatMap esc4 ++ 34 :: M) from hd)
        have h3 := ih (i + 1) rfl hd1
        have h92 : ¬ c = 92 := fun h => h1 (.inr h)
        have h34 : ¬ c = 34 := fun h => h1 (.inl h)
        have j3 : Ev (fun k => value_parseText.j3 k s x (i : Int) c false) R := by
          refine ev_step _ (fun k => ?_) h3
          simp only [value_parseText.j3, e1 i (by omega)]
          rw [if_neg (by decide), if_neg h92, if_pos (by omega)]
        have j2 : Ev (fun k => value_parseText.j2 k s x (i : Int) c false) R := by
          refine ev_step _ (fun k => ?_) j3
          simp only [value_parseText.j2]
          rw [if_neg (by decide), if_neg h92]
        have j1 : Ev (fun k => value_parseText.j1 k s x (i : Int) c false) R := by
          refine ev_step _ (fun k => ?_) j2
          simp only [value_parseText.j1]
          rw [if_neg (by decide), if_neg h92]
        refine ev_step _ (fun k => ?_) j1
        simp only [value_parseText.l0, hbt]
        rw [if_pos (by omega), if_pos (by omega), if_neg h34, if_neg (by omega), show decide (c > 126) = false by simp; omega]
theorem ev_parseText (t : ByteArray) (ht : t.size ≤ 64) (s : ByteArray) (hs : s.size ≤ 1000000) (M : List Int) (hb : bytesOf s = quo (bytesOf t) ++ M) :
    Ev (fun k => value_parseText.f k s) (3, 0, t, ((quo (bytesOf t)).length : Int), 0) := by
  have hd : (bytesOf s).drop 1 = (bytesOf t).flatMap esc4 ++ 34 :: M := by rw [hb]; simp [quo]
  have hl := congrArg List.length hd
  rw [List.length_drop, len_bytes, List.length_append, List.length_cons] at hl
  have := ev_text_l0 s hs M (1 + ((bytesOf t).flatMap esc4).length) (3, 0, t, ((quo (bytesOf t)).length : Int), 0) (bytesOf t) ?_ (bytesOf t) 1 [] (isB_bytes t) hd rfl rfl (by simp)
  · exact this
  · refine ev_none (fun k => ?_)
    simp only [value_parseText.j4, value_Text.f, Option.bind_some]
    rw [if_neg (by omega), if_neg (by rw [len_bytes]; omega), nums_of_bytes, w64 (by omega) (by omega)]
    congr 4
    simp [quo]; omega
end Go.Proofs.Ytekiaempcgjejaa.V4
