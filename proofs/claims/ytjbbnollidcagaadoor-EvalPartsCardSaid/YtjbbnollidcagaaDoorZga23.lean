/- Part 23 of what the row leans on: abstract values and states, their rules, and the contracts of the functions. -/
import Derived.Test.YtjbbnollidcagaaDoorZga22
namespace Go.Proofs.YtjbbnollidcagaaDoor.Asl
open Go Go.RowKit
open Go.Proofs.YtjbbnollidcagaaDoor.Errs (EV)
set_option linter.unusedVariables false
set_option linter.unusedSimpArgs false
set_option maxRecDepth 100000
set_option maxHeartbeats 4000000
def ofE (c : Int) : Option EV := if c = 0 then none else some (.code c)
theorem c_FOf (c : Int) : CallD Tryd.prog 54 [.raw (.int .i64 c)] noHeap (errO (ofE c)) noHeap := by
  unfold ofE
  by_cases h : c = 0
  · subst h
    rw [if_pos rfl]
    refine calls_go (nt := 7) (rs := [.tmp 2]) Tryd.func54 rfl rfl rfl (by simp) (by intro id h; simp at h <;> omega) ?_; intro Q hQ hW
    repeat' (first
    | (with_reducible refine run_n ?_; with_reducible first | refine hK _ _ (by simp) ?_ | refine hK _ _ ?_; clear hK K)
    | (refine zzc ?_)
    | (with_reducible refine awp_regT (by kernel_rfl) ?_; intro K hK)
    | (with_reducible refine a_cond (ht := ?_) (hf := ?_) <;> intro hb <;> (try simp at hb) <;> (try contradiction) <;> (try subst hb) <;> (try omega))
    | (with_reducible first | refine a_move (hr:=?_) | refine a_assign (hr:=?_) | refine a_bin (hr:=?_) | refine a_makeIf (hr:=?_) | refine a_eqI (hr:=?_) | refine a_neI (hr:=?_) | refine a_eqB (hr:=?_) | refine a_eqS (hr:=?_))
    | fail)
    all_goals ((refine zzr hQ ?_))
    all_goals (exact Fin.drop (by simp; exact .r) (by simp))
  · rw [if_neg h]
    refine calls_go (nt := 7) (rs := [.tmp 2]) Tryd.func54 rfl rfl rfl (by simp) (by intro id h; simp at h <;> omega) ?_; intro Q hQ hW
    repeat' (first
    | (with_reducible refine run_n ?_; with_reducible first | refine hK _ _ (by simp) ?_ | refine hK _ _ ?_; clear hK K)
    | (refine zzc ?_)
    | (with_reducible refine awp_regT (by kernel_rfl) ?_; intro K hK)
    | (with_reducible refine a_cond (ht := ?_) (hf := ?_) <;> intro hb <;> (try simp at hb) <;> (try contradiction) <;> (try subst hb) <;> (try omega))
    | (with_reducible first | refine a_move (hr:=?_) | refine a_assign (hr:=?_) | refine a_bin (hr:=?_) | refine a_makeIf (hr:=?_) | refine a_eqI (hr:=?_) | refine a_neI (hr:=?_) | refine a_eqB (hr:=?_) | refine a_eqS (hr:=?_))
    | fail)
    all_goals ((refine zzr hQ ?_))
    all_goals (exact Fin.drop (by simp; exact .r) (by simp))
theorem c_FWrap (p : ByteArray) (e : Option EV) : CallD Tryd.prog 76 [.raw (.string p), errO e] noHeap (errO (e.map (.wrap p))) noHeap := by
  cases e with
  | none =>
    refine calls_go (nt := 12) (rs := [.tmp 4]) Tryd.func76 rfl rfl rfl (by simp) (by intro id h; simp at h <;> omega) ?_; intro Q hQ hW
    repeat' (first
    | (with_reducible refine run_n ?_; with_reducible first | refine hK _ _ (by simp) ?_ | refine hK _ _ ?_; clear hK K)
    | (refine zzc ?_)
    | (with_reducible refine awp_regT (by kernel_rfl) ?_; intro K hK)
    | (with_reducible refine a_cond (ht := ?_) (hf := ?_) <;> intro hb <;> (try simp at hb) <;> (try contradiction) <;> (try subst hb) <;> (try omega))
    | (with_reducible first | refine a_move (hr:=?_) | refine a_assign (hr:=?_) | refine a_bin (hr:=?_) | refine a_box (hr:=?_) | refine a_makeIf (hr:=?_) | refine a_eqI (hr:=?_) | refine a_neI (hr:=?_) | refine a_eqB (hr:=?_) | refine a_eqS (hr:=?_) | refine a_build (hr:=?_))
    | fail)
    all_goals ((refine zzr hQ ?_))
    all_goals (exact Fin.drop (by simp; exact .r) (by simp))
  | some e =>
    simp only [errO_some, Option.map_some]
    refine calls_go (nt := 12) (rs := [.tmp 4]) Tryd.func76 rfl rfl rfl (by simp) (by intro id h; simp at h <;> omega) ?_; intro Q hQ hW
    repeat' (first
    | (with_reducible refine run_n ?_; with_reducible first | refine hK _ _ (by simp) ?_ | refine hK _ _ ?_; clear hK K)
    | (refine zzc ?_)
    | (with_reducible refine awp_regT (by kernel_rfl) ?_; intro K hK)
    | (with_reducible refine a_cond (ht := ?_) (hf := ?_) <;> intro hb <;> (try simp at hb) <;> (try contradiction) <;> (try subst hb) <;> (try omega))
    | (with_reducible first | refine a_move (hr:=?_) | refine a_assign (hr:=?_) | refine a_bin (hr:=?_) | refine a_box (hr:=?_) | refine a_makeIf (hr:=?_) | refine a_eqI (hr:=?_) | refine a_neI (hr:=?_) | refine a_eqB (hr:=?_) | refine a_eqS (hr:=?_) | refine a_build (hr:=?_))
    | fail)
    (refine zzr hQ ?_)
    exact Fin.fzb (k := 10) (X := .agg [.raw (.string p), errAV e]) (by simp) (by simp) (by simp [errAV]; exact .r) (by simp [errAV]; exact .r) (by simp) (by decide)
def codeE : Option EV → Int
  | none => 0
  | some e => e.num.getD 20
theorem c_FCode (e : Option EV) : CallD Tryd.prog 19 [errO e] noHeap (.raw (.int .i64 (codeE e))) noHeap := by
  cases e with
  | none =>
    refine calls_go (nt := 10) (rs := [.tmp 2]) Tryd.func19 rfl rfl rfl (by simp) (by intro id h; simp at h <;> omega) ?_; intro Q hQ hW
    repeat' (first
    | (with_reducible refine run_n ?_; with_reducible first | refine hK _ _ (by simp) ?_ | refine hK _ _ ?_; clear hK K)
    | (refine zzc ?_)
    | (with_reducible refine awp_regT (by kernel_rfl) ?_; intro K hK)
    | (with_reducible refine a_cond (ht := ?_) (hf := ?_) <;> intro hb <;> (try simp at hb) <;> (try contradiction) <;> (try subst hb) <;> (try omega))
    | (with_reducible first | refine a_move (hr:=?_) | refine a_assign (hr:=?_) | refine a_load (hr:=?_) | refine a_bin (hr:=?_) | refine a_alloc (hr:=?_) | refine a_makeIf (hr:=?_) | refine a_eqI (hr:=?_) | refine a_neI (hr:=?_) | refine a_eqB (hr:=?_) | refine a_eqS (hr:=?_))
    | fail)
    all_goals ((refine zzr hQ ?_))
    all_goals (exact Fin.drop (by simp; exact .r) (by simp))
  | some e =>
    have ha := c_AsCode e 0
    simp only [errO_some, codeE]
    generalize e.num = n at ha ⊢
    cases n with
    | none =>
      refine calls_go (nt := 10) (rs := [.tmp 2]) Tryd.func19 rfl rfl rfl (by simp) (by intro id h; simp at h <;> omega) ?_; intro Q hQ hW
      repeat' (first
    | (with_reducible refine run_n ?_; with_reducible first | refine hK _ _ (by simp) ?_ | refine hK _ _ ?_; clear hK K)
    | (refine zzc ?_)
    | (with_reducible refine awp_regT (by kernel_rfl) ?_; intro K hK)
    | (with_reducible refine a_cond (ht := ?_) (hf := ?_) <;> intro hb <;> (try simp at hb) <;> (try contradiction) <;> (try subst hb) <;> (try omega))
    | (with_reducible first | refine a_move (hr:=?_) | refine a_assign (hr:=?_) | refine a_load (hr:=?_) | refine a_bin (hr:=?_) | refine a_alloc (hr:=?_) | refine a_makeIf (hr:=?_) | refine a_eqI (hr:=?_) | refine a_neI (hr:=?_) | refine a_eqB (hr:=?_) | refine a_eqS (hr:=?_) | refine a_callP (p := 3) (hcall := ha) (hr:=?_))
    | fail)
      all_goals ((refine zzr hQ ?_))
      all_goals (exact Fin.drop (by simp; exact .r) (by simp))
    | some c =>
      refine calls_go (nt := 10) (rs := [.tmp 2]) Tryd.func19 rfl rfl rfl (by simp) (by intro id h; simp at h <;> omega) ?_; intro Q hQ hW
      repeat' (first
    | (with_reducible refine run_n ?_; with_reducible first | refine hK _ _ (by simp) ?_ | refine hK _ _ ?_; clear hK K)
    | (refine zzc ?_)
    | (with_reducible refine awp_regT (by kernel_rfl) ?_; intro K hK)
    | (with_reducible refine a_cond (ht := ?_) (hf := ?_) <;> intro hb <;> (try simp at hb) <;> (try contradiction) <;> (try subst hb) <;> (try omega))
    | (with_reducible first | refine a_move (hr:=?_) | refine a_assign (hr:=?_) | refine a_load (hr:=?_) | refine a_bin (hr:=?_) | refine a_alloc (hr:=?_) | refine a_makeIf (hr:=?_) | refine a_eqI (hr:=?_) | refine a_neI (hr:=?_) | refine a_eqB (hr:=?_) | refine a_eqS (hr:=?_) | refine a_callP (p := 3) (hcall := ha) (hr:=?_))
    | fail)
      all_goals ((refine zzr hQ ?_))
      all_goals (exact Fin.drop (by simp; exact .r) (by simp))
theorem num_code {e : EV} {c : Int} (h2 : c ≠ 20) : (codeE (some e) = c) ↔ (e.num = some c) := by
  simp only [codeE]
  cases h : e.num with
  | none => simp; omega
  | some d => simp
theorem c_FIs (e : Option EV) (c : Int) : CallD Tryd.prog 29 [errO e, .raw (.int .i64 c)] noHeap (.raw (.bool (decide (codeE e = c)))) noHeap := by
  have h1 := c_FCode e
  cases e with
  | none =>
    generalize codeE none = n at h1 ⊢
    refine calls_go (nt := 23) (rs := [.tmp 4]) Tryd.func29 rfl rfl rfl (by simp) (by intro id h; simp at h <;> omega) ?_; intro Q hQ hW
    repeat' (first
    | (with_reducible refine run_n ?_; with_reducible first | refine hK _ _ (by simp) ?_ | refine hK _ _ ?_; clear hK K)
    | (refine zzc ?_)
    | (with_reducible refine awp_regT (by kernel_rfl) ?_; intro K hK)
    | (with_reducible refine a_cond (ht := ?_) (hf := ?_) <;> intro hb <;> (try simp at hb) <;> (try contradiction) <;> (try subst hb) <;> (try omega))
    | (with_reducible first | refine a_move (hr:=?_) | refine a_assign (hr:=?_) | refine a_bin (hr:=?_) | refine a_pick (hr:=?_) | refine a_makeIf (hr:=?_) | refine a_eqI (hr:=?_) | refine a_neI (hr:=?_) | refine a_eqB (hr:=?_) | refine a_eqS (hr:=?_) | refine a_callF (hcall := h1) (hr:=?_) | refine a_gT (hr:=?_) | refine a_gF (hr:=?_) | refine a_gU (hr:=?_))
    | (with_reducible refine a_gB (hT := ?_) (hF := ?_) <;> intro hb <;> (try simp at hb) <;> (try contradiction) <;> (try subst hb) <;> (try omega))
    | fail)
    all_goals ((refine zzr hQ ?_))
    all_goals (exact Fin.drop (by simp; exact .r) (by simp))
  | some e =>
    have h2 := c_IsCode e c
    have hn := num_code (e := e) (c := c)
    simp only [errO_some] at h1 ⊢
    by_cases hc : c = 0 ∨ c = 20
    · generalize codeE (some e) = n at h1 ⊢
      rcases hc with rfl | rfl
      · refine calls_go (nt := 23) (rs := [.tmp 4]) Tryd.func29 rfl rfl rfl (by simp) (by intro id h; simp at h <;> omega) ?_; intro Q hQ hW
        repeat' (first
    | (with_reducible refine run_n ?_; with_reducible first | refine hK _ _ (by simp) ?_ | refine hK _ _ ?_; clear hK K)
    | (refine zzc ?_)
    | (with_reducible refine awp_regT (by kernel_rfl) ?_; intro K hK)
    | (with_reducible refine a_cond (ht := ?_) (hf := ?_) <;> intro hb <;> (try simp at hb) <;> (try contradiction) <;> (try subst hb) <;> (try omega))
    | (with_reducible first | refine a_move (hr:=?_) | refine a_assign (hr:=?_) | refine a_bin (hr:=?_) | refine a_pick (hr:=?_) | refine a_makeIf (hr:=?_) | refine a_eqI (hr:=?_) | refine a_neI (hr:=?_) | refine a_eqB (hr:=?_) | refine a_eqS (hr:=?_) | refine a_callF (hcall := h1) (hr:=?_) | refine a_gT (hr:=?_) | refine a_gF (hr:=?_) | refine a_gU (hr:=?_))
    | (with_reducible refine a_gB (hT := ?_) (hF := ?_) <;> intro hb <;> (try simp at hb) <;> (try contradiction) <;> (try subst hb) <;> (try omega))
    | fail)
        all_goals ((refine zzr hQ ?_))
        all_goals (exact Fin.drop (by simp; exact .r) (by simp))
      · refine calls_go (nt := 23) (rs := [.tmp 4]) Tryd.func29 rfl rfl rfl (by simp) (by intro id h; simp at h <;> omega) ?_; intro Q hQ hW
        repeat' (first
    | (with_reducible refine run_n ?_; with_reducible first | refine hK _ _ (by simp) ?_ | refine hK _ _ ?_; clear hK K)
    | (refine zzc ?_)
    | (with_reducible refine awp_regT (by kernel_rfl) ?_; intro K hK)
    | (with_reducible refine a_cond (ht := ?_) (hf := ?_) <;> intro hb <;> (try simp at hb) <;> (try contradiction) <;> (try subst hb) <;> (try omega))
    | (with_reducible first | refine a_move (hr:=?_) | refine a_assign (hr:=?_) | refine a_bin (hr:=?_) | refine a_pick (hr:=?_) | refine a_makeIf (hr:=?_) | refine a_eqI (hr:=?_) | refine a_neI (hr:=?_) | refine a_eqB (hr:=?_) | refine a_eqS (hr:=?_) | refine a_callF (hcall := h1) (hr:=?_) | refine a_gT (hr:=?_) | refine a_gF (hr:=?_) | refine a_gU (hr:=?_))
    | (with_reducible refine a_gB (hT := ?_) (hF := ?_) <;> intro hb <;> (try simp at hb) <;> (try contradiction) <;> (try subst hb) <;> (try omega))
    | fail)
        all_goals ((refine zzr hQ ?_))
        all_goals (exact Fin.drop (by simp; exact .r) (by simp))
    · have hc0 : ¬ c = 0 := fun h => hc (.inl h)
      have hc2 : ¬ c = 20 := fun h => hc (.inr h)
      rw [decide_eq_decide.2 (hn hc2)]
      obtain ⟨b, hb⟩ : ∃ b, decide (e.num = some c) = b := ⟨_, rfl⟩
      rw [hb] at h2 ⊢
      refine calls_go (nt := 23) (rs := [.tmp 4]) Tryd.func29 rfl rfl rfl (by simp) (by intro id h; simp at h <;> omega) ?_; intro Q hQ hW
      repeat' (first
    | (with_reducible refine run_n ?_; with_reducible first | refine hK _ _ (by simp) ?_ | refine hK _ _ ?_; clear hK K)
    | (refine zzc ?_)
    | (with_reducible refine awp_regT (by kernel_rfl) ?_; intro K hK)
    | (with_reducible refine a_cond (ht := ?_) (hf := ?_) <;> intro hb <;> (try simp at hb) <;> (try contradiction) <;> (try subst hb) <;> (try omega))
    | (with_reducible first | refine a_move (hr:=?_) | refine a_assign (hr:=?_) | refine a_bin (hr:=?_) | refine a_pick (hr:=?_) | refine a_makeIf (hr:=?_) | refine a_eqI (hr:=?_) | refine a_neI (hr:=?_) | refine a_eqB (hr:=?_) | refine a_eqS (hr:=?_) | refine a_callF (hcall := h1) (hr:=?_) | refine a_callF (hcall := h2) (hr:=?_) | refine a_gT (hr:=?_) | refine a_gF (hr:=?_) | refine a_gU (hr:=?_))
    | (with_reducible refine a_gB (hT := ?_) (hF := ?_) <;> intro hb <;> (try simp at hb) <;> (try contradiction) <;> (try subst hb) <;> (try omega))
    | fail)
      all_goals ((refine zzr hQ ?_))
      all_goals (exact Fin.drop (by simp; exact .r) (by simp))
def fX : Option (ByteArray × EV) → AV
  | none => .raw (.pointer none)
  | some (p, e) => .fp (.agg [.raw (.string p), errAV e])
@[simp ↓ high] theorem fX_noid (x : Option (ByteArray × EV)) : (fX x).noid = true := by
  cases x with
  | none => rfl
  | some x => obtain ⟨p, e⟩ := x; simp [fX]
@[simp ↓ high] theorem fX_size (x : Option (ByteArray × EV)) : (fX x).size = 1 := by
  cases x with
  | none => rfl
  | some x => obtain ⟨p, e⟩ := x; simp [fX]
@[simp ↓ high] theorem fX_isAgg (x : Option (ByteArray × EV)) : (fX x).isAgg = false := by
  cases x with
  | none => rfl
  | some x => rfl
@[simp ↓ high] theorem fX_get (e : Option (ByteArray × EV)) (n : Nat) (ag : Bool) (off : Nat) : AV.get n ag (fX e) off = if off = 0 ∧ n = 1 ∧ ag = false then some (fX e) else none := get_leaf (fX_isAgg e) n ag off
@[simp ↓ high] theorem fX_set (e : Option (ByteArray × EV)) (n : Nat) (y : AV) (off : Nat) : AV.set n y (fX e) off = if off = 0 ∧ n = 1 ∧ y.one = true then some y else none := set_leaf (fX_isAgg e) n y off
@[simp] theorem fX_none : fX none = .raw (.pointer none) := rfl
@[simp] theorem fX_some (p : ByteArray) (e : EV) : fX (some (p, e)) = .fp (.agg [.raw (.string p), errAV e]) := rfl
@[simp] theorem fX_deep (h : Hp) (x : Option (ByteArray × EV)) : (fX x).deep h = fX x := noid_deep.1 _ (fX_noid x) h
@[simp] theorem fX_within (h : Hp) (x : Option (ByteArray × EV)) : (fX x).within h = true := (noid_withins h).1 _ (fX_noid x)
@[simp] theorem fX_ren (π : Nat → Nat) (x : Option (ByteArray × EV)) : (fX x).ren π = fX x := noid_ren.1 _ (fX_noid x) π
@[simp] theorem strs_ne {l : List ByteArray} : strs l = [] ↔ l = [] := by simp [strs]
end Go.Proofs.YtjbbnollidcagaaDoor.Asl

namespace Go.Proofs.YtjbbnollidcagaaDoor.Asl
open Go Go.RowKit
open Go.Proofs.YtjbbnollidcagaaDoor.Errs (EV)
set_option linter.unusedVariables false
set_option linter.unusedSimpArgs false
set_option maxRecDepth 100000
set_option maxHeartbeats 4000000
/-- A number that is not below 0, in digits. -/
def nat10 : Nat → Int → List Int
  | 0, _ => []
  | f + 1, n => if n < 10 then [48 + n] else nat10 f (n / 10) ++ [48 + n % 10]
def digs10 (n : Int) : List Int := if n < 0 then 45 :: nat10 20 (-n) else nat10 20 n
theorem nat10_fuel : ∀ (f : Nat) (n : Int), 0 ≤ n → n < 10 ^ (f + 1) → nat10 (f + 1) n = nat10 (f + 2) n
  | 0, n, h0, h1 => by
    have : n < 10 := by simpa using h1
    simp [nat10, this]
  | f + 1, n, h0, h1 => by
    by_cases h : n < 10
    · simp [nat10, h]
    · have h2 : n / 10 < 10 ^ (f + 1) := by
        rw [Int.pow_succ] at h1
        exact Int.ediv_lt_of_lt_mul (by decide) h1
      have ih := nat10_fuel f (n / 10) (by omega) h2
      rw [nat10, if_neg h, ih]
      conv => rhs; rw [nat10]
      rw [if_neg h]
theorem nat10_len : ∀ (f : Nat) (n : Int), (nat10 f n).length ≤ f
  | 0, _ => by simp [nat10]
  | f + 1, n => by
    have := nat10_len f (n / 10)
    simp only [nat10]; split <;> simp <;> omega
theorem nat10_isB : ∀ (f : Nat) (n : Int), 0 ≤ n → IsB (nat10 f n)
  | 0, _, _ => isB_nil
  | f + 1, n, h => by
    simp only [nat10]; split
    · exact isB_cons.2 ⟨by omega, isB_nil⟩
    · exact isB_app.2 ⟨nat10_isB f _ (by omega), isB_cons.2 ⟨by omega, isB_nil⟩⟩
theorem pow10 : (10 : Int) ^ 19 = 10000000000000000000 := by decide
/-- The array, filled from behind. -/
def fill (s : List Int) : List Int := List.replicate (20 - s.length) 0 ++ s
theorem fill_len {s : List Int} (h : s.length ≤ 20) : (fill s).length = 20 := by simp [fill]; omega
theorem fill_set {s : List Int} (h : s.length < 20) (x : Int) : (fill s).set (19 - s.length) x = fill (x :: s) := by
  have e1 : 20 - s.length = (19 - s.length) + 1 := by omega
  have e2 : 20 - (x :: s).length = 19 - s.length := by rw [List.length_cons]; omega
  unfold fill
  rw [e2, e1, List.replicate_succ', List.append_assoc]
  have h1 : (List.replicate (19 - s.length) (0 : Int)).length = 19 - s.length := by simp
  generalize List.replicate (19 - s.length) (0 : Int) = r at h1 ⊢
  rw [← h1, List.set_append_right _ _ (Nat.le_refl _)]; simp
theorem fill_drop {s : List Int} (h : s.length ≤ 20) : (fill s).drop (20 - s.length) = s := by
  unfold fill
  rw [List.drop_append_of_le_length (by simp)]; simp
end Go.Proofs.YtjbbnollidcagaaDoor.Asl

