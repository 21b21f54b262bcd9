/- fault: texts, and the document's. -/
import Derived.Test.YtngeckkebejhiaaDoorFB
namespace Go.Proofs.YtngeckkebejhiaaDoor.Asl
open Go Go.RowKit
open Go.Proofs.YtngeckkebejhiaaDoor.Errs (EV)
set_option linter.unusedVariables false
set_option linter.unusedSimpArgs false
set_option maxRecDepth 100000
set_option maxHeartbeats 4000000
/-- Places, each with a colon behind. -/
def joinS : List ByteArray → ByteArray → ByteArray
  | [], s => s
  | p :: l, s => joinS l (s ++ (p ++ ⟨#[58, 32]⟩))
@[simp] theorem joinS_nil (s : ByteArray) : joinS [] s = s := rfl
def sumP (l : List ByteArray) : Nat := (l.map fun p => p.size + 2).sum
theorem joinS_snoc (p : ByteArray) : ∀ (l : List ByteArray) (s : ByteArray), joinS (l ++ [p]) s = joinS l s ++ (p ++ ⟨#[58, 32]⟩)
  | [], s => rfl
  | q :: l, s => by simp only [List.cons_append, joinS]; exact joinS_snoc p l _
theorem joinS_size : ∀ (l : List ByteArray) (s : ByteArray), (joinS l s).size = s.size + sumP l
  | [], s => by simp [joinS, sumP]
  | p :: l, s => by
    rw [joinS, joinS_size l]
    simp only [sumP, List.map_cons, List.sum_cons, ByteArray.size_append]
    have : (⟨#[58, 32]⟩ : ByteArray).size = 2 := rfl
    omega
theorem sumP_take (l : List ByteArray) (i : Nat) : sumP (l.take i) ≤ sumP l := by
  have e : sumP l = sumP (l.take i) + sumP (l.drop i) := by
    conv => lhs; rw [← List.take_append_drop i l]
    unfold sumP; rw [List.map_append, List.sum_append]
  omega
theorem sumP_len (l : List ByteArray) : l.length ≤ sumP l := by
  induction l with
  | nil => simp
  | cons p l ih => simp only [sumP, List.map_cons, List.sum_cons, List.length_cons] at *; omega
def tailT (asks : Bool) (c : Int) (s : ByteArray) : ByteArray := if asks then s ++ ⟨#[110, 101, 101, 100]⟩ else (s ++ ⟨#[101, 114, 114, 111, 114, 32]⟩) ++ strOfNums (digs10 c)
def textE : Option EV → ByteArray
  | none => ⟨#[]⟩
  | some e => tailT (needE (some e)).2 (codeE (some e)) (joinS (placesE e) ⟨#[]⟩)
theorem digs10_len (n : Int) : (digs10 n).length ≤ 21 := by
  unfold digs10
  split
  · have := nat10_len 20 (-n); simp; omega
  · have := nat10_len 20 n; omega
theorem digs10_size (n : Int) : (strOfNums (digs10 n)).size ≤ 21 := by
  have := digs10_len n
  unfold strOfNums; show (List.toArray _).size ≤ _; simpa using this
def inI (c : Int) : Prop := -9223372036854775808 < c ∧ c < 9223372036854775808
theorem c_FText (e : Option EV) (hs : sumP (trailE e) ≤ 1000000000000000000) (hl : (trailE e).length ≤ 1000000) (hc : inI (codeE e)) : CallD Tryd.prog 16 [errO e] noHeap (.raw (.string (textE e))) noHeap := by
  cases e with
  | none =>
    refine calls_go (nt := 36) (rs := [.tmp 2]) Tryd.func16 rfl rfl rfl (by simp) (by intro id h; simp at h <;> omega) ?_; intro Q hQ hW
    repeat' (first
    | (with_reducible refine run_n ?_; with_reducible first | refine hK _ _ (by simp) ?_ | refine hK _ _ ?_; clear hK K)
    | (refine zzc ?_)
    | (with_reducible refine awp_regT (by kernel_rfl) ?_; intro K hK)
    | (with_reducible refine a_cond (ht := ?_) (hf := ?_) <;> intro hb <;> (try simp at hb) <;> (try contradiction) <;> (try subst hb) <;> (try omega))
    | (with_reducible first | refine a_move (hr:=?_) | refine a_assign (hr:=?_) | refine a_load (hr:=?_) | refine a_bin (hr:=?_) | refine a_lenS (hr:=?_) | refine a_lenR (hr:=?_) | refine a_extract (hr:=?_) | refine a_store (hr:=?_) | refine a_alloc (hr:=?_) | refine a_eqI (hr:=?_) | refine a_neI (hr:=?_) | refine a_eqB (hr:=?_) | refine a_idxArr (hr:=?_) | refine a_eqS (hr:=?_) | refine a_indexAddr (hr:=?_))
    | fail)
    all_goals ((refine zzr hQ ?_))
    all_goals (exact Fin.drop (by simp; exact .r) (by simp))
  | some e =>
    have h1 := c_FTrail (some e) hl
    have h2 := c_FNeeded (some e)
    have h3 := c_FCode (some e)
    have h4 := c_FDigits (codeE (some e)) hc.1 hc.2
    have hz := digs10_size (codeE (some e))
    simp only [errO_some, textE, trailE] at h1 h2 h3 hs hl ⊢
    generalize codeE (some e) = c at h3 h4 hz ⊢
    generalize needE (some e) = n at h2 ⊢
    obtain ⟨⟨lo, hi⟩, b⟩ := n
    simp only at h2 ⊢
    generalize placesE e = ps at h1 hs hl ⊢
    have hsz := joinS_size ps ⟨#[]⟩
    have h00 : (⟨#[]⟩ : ByteArray).size = 0 := rfl
    unfold tailT
    generalize strOfNums (digs10 c) = ds at h4 hz ⊢
    refine calls_go (nt := 36) (rs := [.tmp 2]) Tryd.func16 rfl rfl rfl (by simp) (by intro id h; simp at h <;> omega) ?_; intro Q hQ hW
    repeat' (first
    | (with_reducible refine run_n ?_; with_reducible first | refine hK _ _ (by simp) ?_ | refine hK _ _ ?_; clear hK K)
    | (refine zzc ?_)
    | (with_reducible refine awp_regT (by kernel_rfl) ?_; intro K hK)
    | (with_reducible refine a_cond (ht := ?_) (hf := ?_) <;> intro hb <;> (try simp at hb) <;> (try contradiction) <;> (try subst hb) <;> (try omega))
    | (with_reducible first | refine a_move (hr:=?_) | refine a_assign (hr:=?_) | refine a_load (hr:=?_) | refine a_bin (hr:=?_) | refine a_lenS (hr:=?_) | refine a_lenR (hr:=?_) | refine a_extract (hr:=?_) | refine a_store (hr:=?_) | refine a_alloc (hr:=?_) | refine a_eqI (hr:=?_) | refine a_neI (hr:=?_) | refine a_eqB (hr:=?_) | refine a_idxArr (hr:=?_) | refine a_eqS (hr:=?_) | refine a_indexAddr (hr:=?_) | refine a_callF (hcall := h1) (hr:=?_))
    | fail)
    refine awp_inv (α := Nat) (fun i => [(0, errAV e), (3, .raw (.string (joinS (ps.take i) ⟨#[]⟩))), (11, .sl 1 (strs ps)), (12, .raw (.int .i64 ps.length)), (13, .raw (.int .i64 i))]) (fun _ => hpL []) (fun i => i ≤ ps.length) (fun i => ps.length - i) 0 (by simp) (zzw) ?_
    intro i g1
    rcases Nat.lt_or_ge i ps.length with hlt | hge
    · have hx := List.getElem?_eq_getElem hlt
      have ht := List.take_succ_eq_append_getElem hlt
      have hti := joinS_size (ps.take (i + 1)) ⟨#[]⟩
      have htk := sumP_take ps (i + 1)
      generalize ps[i] = p at hx ht
      rw [ht, joinS_snoc] at hti
      have hj : joinS (ps.take (i + 1)) ⟨#[]⟩ = joinS (ps.take i) ⟨#[]⟩ ++ (p ++ ⟨#[58, 32]⟩) := by rw [ht, joinS_snoc]
      simp only [ByteArray.size_append] at hti
      rw [← ht] at hti
      generalize joinS (ps.take i) ⟨#[]⟩ = s at hti hj ⊢
      have h22 : (⟨#[58, 32]⟩ : ByteArray).size = 2 := rfl
      clear h1 h2 h3 h4
      repeat' (first
    | (with_reducible refine run_n ?_; with_reducible first | refine hK _ _ (by simp) ?_ | refine hK _ _ ?_; clear hK K)
    | (refine zzc ?_)
    | (with_reducible refine awp_regT (by kernel_rfl) ?_; intro K hK)
    | (with_reducible refine a_cond (ht := ?_) (hf := ?_) <;> intro hb <;> (try simp at hb) <;> (try contradiction) <;> (try subst hb) <;> (try omega))
    | (with_reducible first | refine a_move (hr:=?_) | refine a_assign (hr:=?_) | refine a_load (hr:=?_) | refine a_bin (hr:=?_) | refine a_lenS (hr:=?_) | refine a_lenR (hr:=?_) | refine a_extract (hr:=?_) | refine a_store (hr:=?_) | refine a_alloc (hr:=?_) | refine a_eqI (hr:=?_) | refine a_neI (hr:=?_) | refine a_eqB (hr:=?_) | refine a_idxArr (hr:=?_) | refine a_eqS (hr:=?_) | refine a_indexAddr (hr:=?_))
    | fail)
      exact ⟨i + 1, by omega, by omega, by rw [hj]; exact zzw⟩
    · obtain rfl : i = ps.length := by omega
      rw [List.take_length]
      generalize joinS ps ⟨#[]⟩ = s at hsz hQ ⊢
      have h44 : (⟨#[110, 101, 101, 100]⟩ : ByteArray).size = 4 := rfl
      have h66 : (⟨#[101, 114, 114, 111, 114, 32]⟩ : ByteArray).size = 6 := rfl
      cases b with
      | true =>
        repeat' (first
    | (with_reducible refine run_n ?_; with_reducible first | refine hK _ _ (by simp) ?_ | refine hK _ _ ?_; clear hK K)
    | (refine zzc ?_)
    | (with_reducible refine awp_regT (by kernel_rfl) ?_; intro K hK)
    | (with_reducible refine a_cond (ht := ?_) (hf := ?_) <;> intro hb <;> (try simp at hb) <;> (try contradiction) <;> (try subst hb) <;> (try omega))
    | (with_reducible first | refine a_move (hr:=?_) | refine a_assign (hr:=?_) | refine a_load (hr:=?_) | refine a_bin (hr:=?_) | refine a_lenS (hr:=?_) | refine a_lenR (hr:=?_) | refine a_extract (hr:=?_) | refine a_store (hr:=?_) | refine a_alloc (hr:=?_) | refine a_eqI (hr:=?_) | refine a_neI (hr:=?_) | refine a_eqB (hr:=?_) | refine a_idxArr (hr:=?_) | refine a_eqS (hr:=?_) | refine a_indexAddr (hr:=?_) | refine a_callF (hcall := h2) (hr:=?_) | refine a_callF (hcall := h3) (hr:=?_) | refine a_call0 (hcall := h4) (hr:=?_))
    | fail)
        all_goals ((refine zzr hQ ?_))
        all_goals (exact Fin.drop (by simp; exact .r) (by simp))
      | false =>
        repeat' (first
    | (with_reducible refine run_n ?_; with_reducible first | refine hK _ _ (by simp) ?_ | refine hK _ _ ?_; clear hK K)
    | (refine zzc ?_)
    | (with_reducible refine awp_regT (by kernel_rfl) ?_; intro K hK)
    | (with_reducible refine a_cond (ht := ?_) (hf := ?_) <;> intro hb <;> (try simp at hb) <;> (try contradiction) <;> (try subst hb) <;> (try omega))
    | (with_reducible first | refine a_move (hr:=?_) | refine a_assign (hr:=?_) | refine a_load (hr:=?_) | refine a_bin (hr:=?_) | refine a_lenS (hr:=?_) | refine a_lenR (hr:=?_) | refine a_extract (hr:=?_) | refine a_store (hr:=?_) | refine a_alloc (hr:=?_) | refine a_eqI (hr:=?_) | refine a_neI (hr:=?_) | refine a_eqB (hr:=?_) | refine a_idxArr (hr:=?_) | refine a_eqS (hr:=?_) | refine a_indexAddr (hr:=?_) | refine a_callF (hcall := h2) (hr:=?_) | refine a_callF (hcall := h3) (hr:=?_) | refine a_call0 (hcall := h4) (hr:=?_))
    | fail)
        all_goals ((refine zzr hQ ?_))
        all_goals (exact Fin.drop (by simp; exact .r) (by simp))
instance : FlatF errO := ⟨fun x => by simp⟩
def firstE : List (Option EV) → Option EV
  | [] => none
  | none :: l => firstE l
  | some e :: _ => some e
theorem c_FFirst (l : List (Option EV)) (hl : l.length < 9223372036854775808) : CallD Tryd.prog 21 [.sl 1 (l.map errO)] noHeap (errO (firstE l)) noHeap := by
  refine calls_go (nt := 15) (rs := [.tmp 2]) Tryd.func21 rfl rfl rfl (by simp) (by intro id h; simp at h <;> omega) ?_; intro Q hQ hW
  repeat' (first
    | (with_reducible refine run_n ?_; with_reducible first | refine hK _ _ (by simp) ?_ | refine hK _ _ ?_; clear hK K)
    | (refine zzc ?_)
    | (with_reducible refine awp_regT (by kernel_rfl) ?_; intro K hK)
    | (with_reducible refine a_cond (ht := ?_) (hf := ?_) <;> intro hb <;> (try simp at hb) <;> (try contradiction) <;> (try subst hb) <;> (try omega))
    | (with_reducible first | refine a_move (hr:=?_) | refine a_assign (hr:=?_) | refine a_load (hr:=?_) | refine a_bin (hr:=?_) | refine a_lenS (hr:=?_) | refine a_lenR (hr:=?_) | refine a_eqI (hr:=?_) | refine a_neI (hr:=?_) | refine a_neB (hr:=?_) | refine a_idxArr (hr:=?_) | refine a_neS (hr:=?_) | refine a_indexAddr (hr:=?_))
    | fail)
  refine awp_inv (α := Nat) (fun i => [(5, .sl 1 (l.map errO)), (6, .raw (.int .i64 l.length)), (7, .raw (.int .i64 i))]) (fun _ => hpL []) (fun i => i ≤ l.length ∧ firstE (l.drop i) = firstE l) (fun i => l.length - i) 0 ⟨by simp, by simp⟩ (zzw) ?_
  rintro i ⟨g1, g2⟩
  rw [← g2] at hQ
  rcases Nat.lt_or_ge i l.length with hlt | hge
  · have hx := List.getElem?_eq_getElem hlt
    rw [List.drop_eq_getElem_cons hlt] at g2 hQ
    generalize l[i] = y at hx g2 hQ
    cases y with
    | none =>
      simp only [firstE] at g2 hQ
      repeat' (first
    | (with_reducible refine run_n ?_; with_reducible first | refine hK _ _ (by simp) ?_ | refine hK _ _ ?_; clear hK K)
    | (refine zzc ?_)
    | (with_reducible refine awp_regT (by kernel_rfl) ?_; intro K hK)
    | (with_reducible refine a_cond (ht := ?_) (hf := ?_) <;> intro hb <;> (try simp at hb) <;> (try contradiction) <;> (try subst hb) <;> (try omega))
    | (with_reducible first | refine a_move (hr:=?_) | refine a_assign (hr:=?_) | refine a_load (hr:=?_) | refine a_bin (hr:=?_) | refine a_lenS (hr:=?_) | refine a_lenR (hr:=?_) | refine a_eqI (hr:=?_) | refine a_neI (hr:=?_) | refine a_neB (hr:=?_) | refine a_idxArr (hr:=?_) | refine a_neS (hr:=?_) | refine a_indexAddr (hr:=?_))
    | fail)
      exact ⟨i + 1, by omega, ⟨by omega, g2⟩, zzw⟩
    | some e =>
      simp only [firstE] at g2 hQ
      repeat' (first
    | (with_reducible refine run_n ?_; with_reducible first | refine hK _ _ (by simp) ?_ | refine hK _ _ ?_; clear hK K)
    | (refine zzc ?_)
    | (with_reducible refine awp_regT (by kernel_rfl) ?_; intro K hK)
    | (with_reducible refine a_cond (ht := ?_) (hf := ?_) <;> intro hb <;> (try simp at hb) <;> (try contradiction) <;> (try subst hb) <;> (try omega))
    | (with_reducible first | refine a_move (hr:=?_) | refine a_assign (hr:=?_) | refine a_load (hr:=?_) | refine a_bin (hr:=?_) | refine a_lenS (hr:=?_) | refine a_lenR (hr:=?_) | refine a_eqI (hr:=?_) | refine a_neI (hr:=?_) | refine a_neB (hr:=?_) | refine a_idxArr (hr:=?_) | refine a_neS (hr:=?_) | refine a_indexAddr (hr:=?_))
    | fail)
      (refine zzr hQ ?_)
      exact Fin.drop (by simp; exact .r) (by simp)
  · obtain rfl : i = l.length := by omega
    rw [List.drop_length] at hQ
    simp only [firstE] at hQ
    repeat' (first
    | (with_reducible refine run_n ?_; with_reducible first | refine hK _ _ (by simp) ?_ | refine hK _ _ ?_; clear hK K)
    | (refine zzc ?_)
    | (with_reducible refine awp_regT (by kernel_rfl) ?_; intro K hK)
    | (with_reducible refine a_cond (ht := ?_) (hf := ?_) <;> intro hb <;> (try simp at hb) <;> (try contradiction) <;> (try subst hb) <;> (try omega))
    | (with_reducible first | refine a_move (hr:=?_) | refine a_assign (hr:=?_) | refine a_load (hr:=?_) | refine a_bin (hr:=?_) | refine a_lenS (hr:=?_) | refine a_lenR (hr:=?_) | refine a_eqI (hr:=?_) | refine a_neI (hr:=?_) | refine a_neB (hr:=?_) | refine a_idxArr (hr:=?_) | refine a_neS (hr:=?_) | refine a_indexAddr (hr:=?_))
    | fail)
    (refine zzr hQ ?_)
    exact Fin.drop (by simp; exact .r) (by simp)
theorem strOfNums_app (a b : List Int) : strOfNums a ++ strOfNums b = strOfNums (a ++ b) := by
  apply ByteArray.ext
  rw [ByteArray.data_append]
  unfold strOfNums
  simp only [List.map_append, List.append_toArray]
theorem c_RDig : ∀ (f : Nat) (n : Int), f ≤ 25 → 0 ≤ n → n < 10 ^ (f + 1) → n < 9223372036854775808 → CallD Tryd.prog 30 [.raw (.int .i64 n)] noHeap (.raw (.string (strOfNums (nat10 (f + 1) n)))) noHeap := by
  intro f
  induction f with
  | zero =>
    intro n hf h0 h1 h2
    have h10 : n < 10 := by simpa using h1
    have hm : n % 10 = n := by omega
    rw [nat10, if_pos h10]
    refine calls_go (nt := 24) (rs := [.tmp 2]) Tryd.func30 rfl rfl rfl (by simp) (by intro id h; simp at h <;> omega) ?_; intro Q hQ hW
    repeat' (first
    | (with_reducible refine run_n ?_; with_reducible first | refine hK _ _ (by simp) ?_ | refine hK _ _ ?_; clear hK K)
    | (refine zzc ?_)
    | (with_reducible refine awp_regT (by kernel_rfl) ?_; intro K hK)
    | (with_reducible refine a_cond (ht := ?_) (hf := ?_) <;> intro hb <;> (try simp at hb) <;> (try contradiction) <;> (try subst hb) <;> (try omega))
    | (with_reducible first | refine a_move (hr:=?_) | refine a_assign (hr:=?_) | refine a_remU (hr:=?_) | refine a_quoU (hr:=?_) | refine a_bin (hr:=?_) | refine a_un (hr:=?_) | refine a_conv (hr:=?_) | refine a_bytesStr (hr:=?_) | refine a_strBytes (hr:=?_) | refine a_sameSl (hr:=?_) | refine a_buildSlice (hr:=?_))
    | fail)
    all_goals ((refine zzr hQ ?_))
    all_goals (rw [hm]; exact Fin.drop (by simp; exact .r) (by simp))
  | succ f ih =>
    intro n hf h0 h1 h2
    rw [nat10]
    by_cases h10 : n < 10
    · have hm : n % 10 = n := by omega
      rw [if_pos h10]
      refine calls_go (nt := 24) (rs := [.tmp 2]) Tryd.func30 rfl rfl rfl (by simp) (by intro id h; simp at h <;> omega) ?_; intro Q hQ hW
      repeat' (first
    | (with_reducible refine run_n ?_; with_reducible first | refine hK _ _ (by simp) ?_ | refine hK _ _ ?_; clear hK K)
    | (refine zzc ?_)
    | (with_reducible refine awp_regT (by kernel_rfl) ?_; intro K hK)
    | (with_reducible refine a_cond (ht := ?_) (hf := ?_) <;> intro hb <;> (try simp at hb) <;> (try contradiction) <;> (try subst hb) <;> (try omega))
    | (with_reducible first | refine a_move (hr:=?_) | refine a_assign (hr:=?_) | refine a_remU (hr:=?_) | refine a_quoU (hr:=?_) | refine a_bin (hr:=?_) | refine a_un (hr:=?_) | refine a_conv (hr:=?_) | refine a_bytesStr (hr:=?_) | refine a_strBytes (hr:=?_) | refine a_sameSl (hr:=?_) | refine a_buildSlice (hr:=?_))
    | fail)
      all_goals ((refine zzr hQ ?_))
      all_goals (rw [hm]; exact Fin.drop (by simp; exact .r) (by simp))
    · rw [if_neg h10]
      have h3 : n / 10 < 10 ^ (f + 1) := by
        rw [Int.pow_succ] at h1
        exact Int.ediv_lt_of_lt_mul (by decide) h1
      have ih := ih (n / 10) (by omega) (by omega) h3 (by omega)
      rw [← strOfNums_app]
      have hz : (strOfNums (nat10 (f + 1) (n / 10))).size ≤ f + 1 := by
        have := nat10_len (f + 1) (n / 10)
        unfold strOfNums; show (List.toArray _).size ≤ _; simpa using this
      have hss2 : n.tdiv 10 = n / 10 := Int.tdiv_eq_ediv_of_nonneg h0
      have hss : n.tmod 10 = n % 10 := Int.tmod_eq_emod_of_nonneg h0
      generalize strOfNums (nat10 (f + 1) (n / 10)) = r at ih hz ⊢
      refine calls_go (nt := 24) (rs := [.tmp 2]) Tryd.func30 rfl rfl rfl (by simp) (by intro id h; simp at h <;> omega) ?_; intro Q hQ hW
      repeat' (first
    | (with_reducible refine run_n ?_; with_reducible first | refine hK _ _ (by simp) ?_ | refine hK _ _ ?_; clear hK K)
    | (refine zzc ?_)
    | (with_reducible refine awp_regT (by kernel_rfl) ?_; intro K hK)
    | (with_reducible refine a_cond (ht := ?_) (hf := ?_) <;> intro hb <;> (try simp at hb) <;> (try contradiction) <;> (try subst hb) <;> (try omega))
    | (with_reducible first | refine a_move (hr:=?_) | refine a_assign (hr:=?_) | refine a_remU (hr:=?_) | refine a_quoU (hr:=?_) | refine a_bin (hr:=?_) | refine a_un (hr:=?_) | refine a_conv (hr:=?_) | refine a_bytesStr (hr:=?_) | refine a_strBytes (hr:=?_) | refine a_sameSl (hr:=?_) | refine a_buildSlice (hr:=?_) | refine a_call0 (hcall := ih) (hr:=?_))
    | fail)
      all_goals ((refine zzr hQ ?_))
      all_goals (exact Fin.drop (by simp; exact .r) (by simp))
theorem nat10_20 (n : Int) (h0 : 0 ≤ n) (h1 : n < 9223372036854775808) : nat10 19 n = nat10 20 n := nat10_fuel 18 n h0 (by rw [show (18 + 1 : Nat) = 19 from rfl, pow10]; omega)
theorem c_RDigits (n : Int) (h0 : -9223372036854775808 < n) (h1 : n < 9223372036854775808) : CallD Tryd.prog 30 [.raw (.int .i64 n)] noHeap (.raw (.string (strOfNums (digs10 n)))) noHeap := by
  unfold digs10
  by_cases hn : n < 0
  · rw [if_pos hn]
    have h := c_RDig 19 (-n) (by omega) (by omega) (by rw [Int.pow_succ, pow10]; omega) (by omega)
    have hz : (strOfNums (nat10 20 (-n))).size ≤ 20 := by
      have := nat10_len 20 (-n)
      unfold strOfNums; show (List.toArray _).size ≤ _; simpa using this
    rw [show (45 :: nat10 20 (-n)) = [45] ++ nat10 20 (-n) from rfl, ← strOfNums_app, show strOfNums [45] = ⟨#[45]⟩ from rfl]
    have h1 : (⟨#[45]⟩ : ByteArray).size = 1 := rfl
    generalize strOfNums (nat10 20 (-n)) = r at h hz ⊢
    refine calls_go (nt := 24) (rs := [.tmp 2]) Tryd.func30 rfl rfl rfl (by simp) (by intro id h; simp at h <;> omega) ?_; intro Q hQ hW
    repeat' (first
    | (with_reducible refine run_n ?_; with_reducible first | refine hK _ _ (by simp) ?_ | refine hK _ _ ?_; clear hK K)
    | (refine zzc ?_)
    | (with_reducible refine awp_regT (by kernel_rfl) ?_; intro K hK)
    | (with_reducible refine a_cond (ht := ?_) (hf := ?_) <;> intro hb <;> (try simp at hb) <;> (try contradiction) <;> (try subst hb) <;> (try omega))
    | (with_reducible first | refine a_move (hr:=?_) | refine a_assign (hr:=?_) | refine a_remU (hr:=?_) | refine a_quoU (hr:=?_) | refine a_bin (hr:=?_) | refine a_un (hr:=?_) | refine a_conv (hr:=?_) | refine a_bytesStr (hr:=?_) | refine a_strBytes (hr:=?_) | refine a_sameSl (hr:=?_) | refine a_buildSlice (hr:=?_) | refine a_call0 (hcall := h) (hr:=?_))
    | fail)
    all_goals ((refine zzr hQ ?_))
    all_goals (exact Fin.drop (by simp; exact .r) (by simp))
  · rw [if_neg hn]
    exact c_RDig 19 n (by omega) (by omega) (by rw [Int.pow_succ, pow10]; omega) h1
/-- The document's error: whether there is one, its places, its number, whether it asks, and for what. -/
structure RE where
  is : Bool
  ps : List ByteArray
  c : Int
  asks : Bool
  lo : ByteArray
  hi : ByteArray
def plAV (l : List ByteArray) : AV := if l = [] then .raw (.slice none 0 0) else .sl 1 (strs l)
@[simp] theorem plAV_nil : plAV [] = .raw (.slice none 0 0) := rfl
@[simp] theorem plAV_cons (p : ByteArray) (l : List ByteArray) : plAV (p :: l) = .sl 1 (strs (p :: l)) := rfl
abbrev RE.av (x : RE) : AV := .agg [.raw (.bool x.is), plAV x.ps, .raw (.int .i64 x.c), .raw (.bool x.asks), .agg [.raw (.string x.lo), .raw (.string x.hi)]]
theorem c_ROf (c : Int) : CallD Tryd.prog 27 [.raw (.int .i64 c)] noHeap (RE.av ⟨!decide (c = 0), [], c, false, ⟨#[]⟩, ⟨#[]⟩⟩) noHeap := by
  refine calls_go (nt := 7) (rs := [.cell 2 45]) Tryd.func27 rfl rfl rfl (by simp) (by intro id h; simp at h <;> omega) ?_; intro Q hQ hW
  repeat' (first
    | (with_reducible refine run_n ?_; with_reducible first | refine hK _ _ (by simp) ?_ | refine hK _ _ ?_; clear hK K)
    | (refine zzc ?_)
    | (with_reducible refine awp_regT (by kernel_rfl) ?_; intro K hK)
    | (with_reducible refine a_cond (ht := ?_) (hf := ?_) <;> intro hb <;> (try simp at hb) <;> (try contradiction) <;> (try subst hb) <;> (try omega))
    | (with_reducible first | refine a_move (hr:=?_) | refine a_bin (hr:=?_) | refine a_store (hr:=?_) | refine a_alloc (hr:=?_) | refine a_neB (hr:=?_) | refine a_neS (hr:=?_) | refine a_build (hr:=?_))
    | fail)
  all_goals ((refine zzr hQ ?_))
  all_goals (exact Fin.drop (by simp; exact .r) (by simp))
theorem c_RAsk (lo hi : ByteArray) : CallD Tryd.prog 28 [.raw (.string lo), .raw (.string hi)] noHeap (RE.av ⟨true, [], 20, true, lo, hi⟩) noHeap := by
  refine calls_go (nt := 9) (rs := [.cell 4 45]) Tryd.func28 rfl rfl rfl (by simp) (by intro id h; simp at h <;> omega) ?_; intro Q hQ hW
  repeat' (first
    | (with_reducible refine run_n ?_; with_reducible first | refine hK _ _ (by simp) ?_ | refine hK _ _ ?_; clear hK K)
    | (refine zzc ?_)
    | (with_reducible refine awp_regT (by kernel_rfl) ?_; intro K hK)
    | (with_reducible refine a_cond (ht := ?_) (hf := ?_) <;> intro hb <;> (try simp at hb) <;> (try contradiction) <;> (try subst hb) <;> (try omega))
    | (with_reducible first | refine a_move (hr:=?_) | refine a_store (hr:=?_) | refine a_alloc (hr:=?_) | refine a_build (hr:=?_))
    | fail)
  all_goals ((refine zzr hQ ?_))
  all_goals (exact Fin.drop (by simp; exact .r) (by simp))
theorem c_RWrap (p : ByteArray) (x : RE) (hl : x.ps.length ≤ 1000000) : CallD Tryd.prog 29 [.raw (.string p), x.av] noHeap (RE.av (if x.is then { x with ps := p :: x.ps } else x)) noHeap := by
  obtain ⟨is, ps, c, asks, lo, hi⟩ := x
  cases is with
  | false =>
    simp only [Bool.false_eq_true, if_false]
    cases ps with
    | nil =>
      refine calls_go (nt := 18) (rs := [.cell 4 45]) Tryd.func29 rfl rfl rfl (by simp) (by intro id h; simp at h <;> omega) ?_; intro Q hQ hW
      repeat' (first
    | (with_reducible refine run_n ?_; with_reducible first | refine hK _ _ (by simp) ?_ | refine hK _ _ ?_; clear hK K)
    | (refine zzc ?_)
    | (with_reducible refine awp_regT (by kernel_rfl) ?_; intro K hK)
    | (with_reducible refine a_cond (ht := ?_) (hf := ?_) <;> intro hb <;> (try simp at hb) <;> (try contradiction) <;> (try subst hb) <;> (try omega))
    | (with_reducible first | refine a_move (hr:=?_) | refine a_assign (hr:=?_) | refine a_load (hr:=?_) | refine a_fieldAddr (hr:=?_) | refine a_un (hr:=?_) | refine a_store (hr:=?_) | refine a_box (hr:=?_) | refine a_alloc (hr:=?_) | refine a_buildSlice (hr:=?_) | refine a_append (hr:=?_) | refine a_append0 (hr:=?_) | refine a_appendX (hr:=?_))
    | fail)
      all_goals ((refine zzr hQ ?_))
      all_goals (exact Fin.drop (by simp; exact .r) (by simp))
    | cons q ps =>
      simp only [RE.av, plAV_cons]
      generalize q :: ps = l at hl ⊢
      refine calls_go (nt := 18) (rs := [.cell 4 45]) Tryd.func29 rfl rfl rfl (by simp) (by intro id h; simp at h <;> omega) ?_; intro Q hQ hW
      repeat' (first
    | (with_reducible refine run_n ?_; with_reducible first | refine hK _ _ (by simp) ?_ | refine hK _ _ ?_; clear hK K)
    | (refine zzc ?_)
    | (with_reducible refine awp_regT (by kernel_rfl) ?_; intro K hK)
    | (with_reducible refine a_cond (ht := ?_) (hf := ?_) <;> intro hb <;> (try simp at hb) <;> (try contradiction) <;> (try subst hb) <;> (try omega))
    | (with_reducible first | refine a_move (hr:=?_) | refine a_assign (hr:=?_) | refine a_load (hr:=?_) | refine a_fieldAddr (hr:=?_) | refine a_un (hr:=?_) | refine a_store (hr:=?_) | refine a_box (hr:=?_) | refine a_alloc (hr:=?_) | refine a_buildSlice (hr:=?_) | refine a_append (hr:=?_) | refine a_append0 (hr:=?_) | refine a_appendX (hr:=?_))
    | fail)
      all_goals ((refine zzr hQ ?_))
      all_goals (exact Fin.drop (by simp; exact .r) (by simp))
  | true =>
    simp only [if_true]
    cases ps with
    | nil =>
      refine calls_go (nt := 18) (rs := [.cell 4 45]) Tryd.func29 rfl rfl rfl (by simp) (by intro id h; simp at h <;> omega) ?_; intro Q hQ hW
      repeat' (first
    | (with_reducible refine run_n ?_; with_reducible first | refine hK _ _ (by simp) ?_ | refine hK _ _ ?_; clear hK K)
    | (refine zzc ?_)
    | (with_reducible refine awp_regT (by kernel_rfl) ?_; intro K hK)
    | (with_reducible refine a_cond (ht := ?_) (hf := ?_) <;> intro hb <;> (try simp at hb) <;> (try contradiction) <;> (try subst hb) <;> (try omega))
    | (with_reducible first | refine a_move (hr:=?_) | refine a_assign (hr:=?_) | refine a_load (hr:=?_) | refine a_fieldAddr (hr:=?_) | refine a_un (hr:=?_) | refine a_store (hr:=?_) | refine a_box (hr:=?_) | refine a_alloc (hr:=?_) | refine a_buildSlice (hr:=?_) | refine a_append (hr:=?_) | refine a_append0 (hr:=?_) | refine a_appendX (hr:=?_))
    | fail)
      (refine zzr hQ ?_)
      show Fin _ _ _ (.agg [.raw (.bool true), .sl 1 [.raw (.string p)], .raw (.int .i64 c), .raw (.bool asks), .agg [.raw (.string lo), .raw (.string hi)]])
      exact Fin.frzR (by simp; exact .r) (by simp; exact .r) (by simp; exact .r) (by simp)
    | cons q ps =>
      simp only [RE.av, plAV_cons] at hl ⊢
      generalize q :: ps = l at hl ⊢
      refine calls_go (nt := 18) (rs := [.cell 4 45]) Tryd.func29 rfl rfl rfl (by simp) (by intro id h; simp at h <;> omega) ?_; intro Q hQ hW
      repeat' (first
    | (with_reducible refine run_n ?_; with_reducible first | refine hK _ _ (by simp) ?_ | refine hK _ _ ?_; clear hK K)
    | (refine zzc ?_)
    | (with_reducible refine awp_regT (by kernel_rfl) ?_; intro K hK)
    | (with_reducible refine a_cond (ht := ?_) (hf := ?_) <;> intro hb <;> (try simp at hb) <;> (try contradiction) <;> (try subst hb) <;> (try omega))
    | (with_reducible first | refine a_move (hr:=?_) | refine a_assign (hr:=?_) | refine a_load (hr:=?_) | refine a_fieldAddr (hr:=?_) | refine a_un (hr:=?_) | refine a_store (hr:=?_) | refine a_box (hr:=?_) | refine a_alloc (hr:=?_) | refine a_buildSlice (hr:=?_) | refine a_append (hr:=?_) | refine a_append0 (hr:=?_) | refine a_appendX (hr:=?_))
    | fail)
      (refine zzr hQ ?_)
      show Fin _ _ _ (.agg [.raw (.bool true), .sl 1 (.raw (.string p) :: strs l), .raw (.int .i64 c), .raw (.bool asks), .agg [.raw (.string lo), .raw (.string hi)]])
      exact Fin.frzR (by simp; exact .r) (by simp [List.take_of_length_le, Nat.add_comm 1 l.length]; exact .r) (by simp; exact .r) (by simp)
theorem c_RText (x : RE) (hs : sumP x.ps ≤ 1000000000000000000) (hc : inI x.c) : CallD Tryd.prog 22 [x.av] noHeap (.raw (.string (if x.is then tailT x.asks x.c (joinS x.ps ⟨#[]⟩) else ⟨#[]⟩))) noHeap := by
  obtain ⟨is, ps, c, asks, lo, hi⟩ := x
  simp only at hs hc ⊢
  have h4 := c_RDigits c hc.1 hc.2
  have hz := digs10_size c
  have hsz := joinS_size ps ⟨#[]⟩
  have h00 : (⟨#[]⟩ : ByteArray).size = 0 := rfl
  have h44 : (⟨#[110, 101, 101, 100]⟩ : ByteArray).size = 4 := rfl
  have h66 : (⟨#[101, 114, 114, 111, 114, 32]⟩ : ByteArray).size = 6 := rfl
  have hpl := sumP_len ps
  unfold tailT
  generalize strOfNums (digs10 c) = ds at h4 hz ⊢
  cases is with
  | false =>
    simp only [Bool.false_eq_true, if_false]
    cases ps with
    | nil =>
      refine calls_go (nt := 31) (rs := [.tmp 2]) Tryd.func22 rfl rfl rfl (by simp) (by intro id h; simp at h <;> omega) ?_; intro Q hQ hW
      repeat' (first
    | (with_reducible refine run_n ?_; with_reducible first | refine hK _ _ (by simp) ?_ | refine hK _ _ ?_; clear hK K)
    | (refine zzc ?_)
    | (with_reducible refine awp_regT (by kernel_rfl) ?_; intro K hK)
    | (with_reducible refine a_cond (ht := ?_) (hf := ?_) <;> intro hb <;> (try simp at hb) <;> (try contradiction) <;> (try subst hb) <;> (try omega))
    | (with_reducible first | refine a_move (hr:=?_) | refine a_assign (hr:=?_) | refine a_load (hr:=?_) | refine a_fieldAddr (hr:=?_) | refine a_bin (hr:=?_) | refine a_lenS (hr:=?_) | refine a_lenR (hr:=?_) | refine a_un (hr:=?_) | refine a_box (hr:=?_) | refine a_idxArr (hr:=?_) | refine a_indexAddr (hr:=?_))
    | fail)
      all_goals ((refine zzr hQ ?_))
      all_goals (exact Fin.drop (by simp; exact .r) (by simp))
    | cons q ps =>
      simp only [RE.av, plAV_cons]
      generalize q :: ps = l
      refine calls_go (nt := 31) (rs := [.tmp 2]) Tryd.func22 rfl rfl rfl (by simp) (by intro id h; simp at h <;> omega) ?_; intro Q hQ hW
      repeat' (first
    | (with_reducible refine run_n ?_; with_reducible first | refine hK _ _ (by simp) ?_ | refine hK _ _ ?_; clear hK K)
    | (refine zzc ?_)
    | (with_reducible refine awp_regT (by kernel_rfl) ?_; intro K hK)
    | (with_reducible refine a_cond (ht := ?_) (hf := ?_) <;> intro hb <;> (try simp at hb) <;> (try contradiction) <;> (try subst hb) <;> (try omega))
    | (with_reducible first | refine a_move (hr:=?_) | refine a_assign (hr:=?_) | refine a_load (hr:=?_) | refine a_fieldAddr (hr:=?_) | refine a_bin (hr:=?_) | refine a_lenS (hr:=?_) | refine a_lenR (hr:=?_) | refine a_un (hr:=?_) | refine a_box (hr:=?_) | refine a_idxArr (hr:=?_) | refine a_indexAddr (hr:=?_))
    | fail)
      all_goals ((refine zzr hQ ?_))
      all_goals (exact Fin.drop (by simp; exact .r) (by simp))
  | true =>
    simp only [if_true]
    cases ps with
    | nil =>
      simp only [joinS_nil]
      refine calls_go (nt := 31) (rs := [.tmp 2]) Tryd.func22 rfl rfl rfl (by simp) (by intro id h; simp at h <;> omega) ?_; intro Q hQ hW
      repeat' (first
    | (with_reducible refine run_n ?_; with_reducible first | refine hK _ _ (by simp) ?_ | refine hK _ _ ?_; clear hK K)
    | (refine zzc ?_)
    | (with_reducible refine awp_regT (by kernel_rfl) ?_; intro K hK)
    | (with_reducible refine a_cond (ht := ?_) (hf := ?_) <;> intro hb <;> (try simp at hb) <;> (try contradiction) <;> (try subst hb) <;> (try omega))
    | (with_reducible first | refine a_move (hr:=?_) | refine a_assign (hr:=?_) | refine a_load (hr:=?_) | refine a_fieldAddr (hr:=?_) | refine a_bin (hr:=?_) | refine a_lenS (hr:=?_) | refine a_lenR (hr:=?_) | refine a_un (hr:=?_) | refine a_box (hr:=?_) | refine a_idxArr (hr:=?_) | refine a_indexAddr (hr:=?_))
    | fail)
      refine awp_inv (α := Unit) (fun _ => [(1, .ptr 1 0), (3, .raw (.string ⟨#[]⟩)), (11, .raw (.int .i64 0)), (12, .raw (.int .i64 0))]) (fun _ => hpL [(1, .box (RE.av ⟨true, [], c, asks, lo, hi⟩))]) (fun _ => True) (fun _ => 0) () trivial (zzw) ?_
      intro _ _
      cases asks with
      | true =>
        repeat' (first
    | (with_reducible refine run_n ?_; with_reducible first | refine hK _ _ (by simp) ?_ | refine hK _ _ ?_; clear hK K)
    | (refine zzc ?_)
    | (with_reducible refine awp_regT (by kernel_rfl) ?_; intro K hK)
    | (with_reducible refine a_cond (ht := ?_) (hf := ?_) <;> intro hb <;> (try simp at hb) <;> (try contradiction) <;> (try subst hb) <;> (try omega))
    | (with_reducible first | refine a_move (hr:=?_) | refine a_assign (hr:=?_) | refine a_load (hr:=?_) | refine a_fieldAddr (hr:=?_) | refine a_bin (hr:=?_) | refine a_lenS (hr:=?_) | refine a_lenR (hr:=?_) | refine a_un (hr:=?_) | refine a_box (hr:=?_) | refine a_idxArr (hr:=?_) | refine a_indexAddr (hr:=?_) | refine a_call0 (hcall := h4) (hr:=?_))
    | fail)
        all_goals ((refine zzr hQ ?_))
        all_goals (exact Fin.drop (by simp; exact .r) (by simp))
      | false =>
        repeat' (first
    | (with_reducible refine run_n ?_; with_reducible first | refine hK _ _ (by simp) ?_ | refine hK _ _ ?_; clear hK K)
    | (refine zzc ?_)
    | (with_reducible refine awp_regT (by kernel_rfl) ?_; intro K hK)
    | (with_reducible refine a_cond (ht := ?_) (hf := ?_) <;> intro hb <;> (try simp at hb) <;> (try contradiction) <;> (try subst hb) <;> (try omega))
    | (with_reducible first | refine a_move (hr:=?_) | refine a_assign (hr:=?_) | refine a_load (hr:=?_) | refine a_fieldAddr (hr:=?_) | refine a_bin (hr:=?_) | refine a_lenS (hr:=?_) | refine a_lenR (hr:=?_) | refine a_un (hr:=?_) | refine a_box (hr:=?_) | refine a_idxArr (hr:=?_) | refine a_indexAddr (hr:=?_) | refine a_call0 (hcall := h4) (hr:=?_))
    | fail)
        all_goals ((refine zzr hQ ?_))
        all_goals (exact Fin.drop (by simp; exact .r) (by simp))
    | cons q ps =>
      simp only [RE.av, plAV_cons]
      generalize q :: ps = l at hs hsz hpl ⊢
      refine calls_go (nt := 31) (rs := [.tmp 2]) Tryd.func22 rfl rfl rfl (by simp) (by intro id h; simp at h <;> omega) ?_; intro Q hQ hW
      repeat' (first
    | (with_reducible refine run_n ?_; with_reducible first | refine hK _ _ (by simp) ?_ | refine hK _ _ ?_; clear hK K)
    | (refine zzc ?_)
    | (with_reducible refine awp_regT (by kernel_rfl) ?_; intro K hK)
    | (with_reducible refine a_cond (ht := ?_) (hf := ?_) <;> intro hb <;> (try simp at hb) <;> (try contradiction) <;> (try subst hb) <;> (try omega))
    | (with_reducible first | refine a_move (hr:=?_) | refine a_assign (hr:=?_) | refine a_load (hr:=?_) | refine a_fieldAddr (hr:=?_) | refine a_bin (hr:=?_) | refine a_lenS (hr:=?_) | refine a_lenR (hr:=?_) | refine a_un (hr:=?_) | refine a_box (hr:=?_) | refine a_idxArr (hr:=?_) | refine a_indexAddr (hr:=?_))
    | fail)
      refine awp_inv (α := Nat) (fun i => [(1, .ptr 1 0), (3, .raw (.string (joinS (l.take i) ⟨#[]⟩))), (10, .sl 1 (strs l)), (11, .raw (.int .i64 l.length)), (12, .raw (.int .i64 i))]) (fun _ => hpL [(1, .box (.agg [.raw (.bool true), .sl 1 (strs l), .raw (.int .i64 c), .raw (.bool asks), .agg [.raw (.string lo), .raw (.string hi)]]))]) (fun i => i ≤ l.length) (fun i => l.length - i) 0 (by simp) (zzw) ?_
      intro i g1
      rcases Nat.lt_or_ge i l.length with hlt | hge
      · have hx := List.getElem?_eq_getElem hlt
        have ht := List.take_succ_eq_append_getElem hlt
        have hti := joinS_size (l.take (i + 1)) ⟨#[]⟩
        have htk := sumP_take l (i + 1)
        generalize l[i] = p at hx ht
        rw [ht, joinS_snoc] at hti
        have hj : joinS (l.take (i + 1)) ⟨#[]⟩ = joinS (l.take i) ⟨#[]⟩ ++ (p ++ ⟨#[58, 32]⟩) := by rw [ht, joinS_snoc]
        simp only [ByteArray.size_append] at hti
        rw [← ht] at hti
        generalize joinS (l.take i) ⟨#[]⟩ = s at hti hj ⊢
        have h22 : (⟨#[58, 32]⟩ : ByteArray).size = 2 := rfl
        clear h4
        repeat' (first
    | (with_reducible refine run_n ?_; with_reducible first | refine hK _ _ (by simp) ?_ | refine hK _ _ ?_; clear hK K)
    | (refine zzc ?_)
    | (with_reducible refine awp_regT (by kernel_rfl) ?_; intro K hK)
    | (with_reducible refine a_cond (ht := ?_) (hf := ?_) <;> intro hb <;> (try simp at hb) <;> (try contradiction) <;> (try subst hb) <;> (try omega))
    | (with_reducible first | refine a_move (hr:=?_) | refine a_assign (hr:=?_) | refine a_load (hr:=?_) | refine a_fieldAddr (hr:=?_) | refine a_bin (hr:=?_) | refine a_lenS (hr:=?_) | refine a_lenR (hr:=?_) | refine a_un (hr:=?_) | refine a_box (hr:=?_) | refine a_idxArr (hr:=?_) | refine a_indexAddr (hr:=?_))
    | fail)
        exact ⟨i + 1, by omega, by omega, by rw [hj]; exact zzw⟩
      · obtain rfl : i = l.length := by omega
        rw [List.take_length]
        generalize joinS l ⟨#[]⟩ = s at hsz hQ ⊢
        cases asks with
        | true =>
          repeat' (first
    | (with_reducible refine run_n ?_; with_reducible first | refine hK _ _ (by simp) ?_ | refine hK _ _ ?_; clear hK K)
    | (refine zzc ?_)
    | (with_reducible refine awp_regT (by kernel_rfl) ?_; intro K hK)
    | (with_reducible refine a_cond (ht := ?_) (hf := ?_) <;> intro hb <;> (try simp at hb) <;> (try contradiction) <;> (try subst hb) <;> (try omega))
    | (with_reducible first | refine a_move (hr:=?_) | refine a_assign (hr:=?_) | refine a_load (hr:=?_) | refine a_fieldAddr (hr:=?_) | refine a_bin (hr:=?_) | refine a_lenS (hr:=?_) | refine a_lenR (hr:=?_) | refine a_un (hr:=?_) | refine a_box (hr:=?_) | refine a_idxArr (hr:=?_) | refine a_indexAddr (hr:=?_) | refine a_call0 (hcall := h4) (hr:=?_))
    | fail)
          all_goals ((refine zzr hQ ?_))
          all_goals (exact Fin.drop (by simp; exact .r) (by simp))
        | false =>
          repeat' (first
    | (with_reducible refine run_n ?_; with_reducible first | refine hK _ _ (by simp) ?_ | refine hK _ _ ?_; clear hK K)
    | (refine zzc ?_)
    | (with_reducible refine awp_regT (by kernel_rfl) ?_; intro K hK)
    | (with_reducible refine a_cond (ht := ?_) (hf := ?_) <;> intro hb <;> (try simp at hb) <;> (try contradiction) <;> (try subst hb) <;> (try omega))
    | (with_reducible first | refine a_move (hr:=?_) | refine a_assign (hr:=?_) | refine a_load (hr:=?_) | refine a_fieldAddr (hr:=?_) | refine a_bin (hr:=?_) | refine a_lenS (hr:=?_) | refine a_lenR (hr:=?_) | refine a_un (hr:=?_) | refine a_box (hr:=?_) | refine a_idxArr (hr:=?_) | refine a_indexAddr (hr:=?_) | refine a_call0 (hcall := h4) (hr:=?_))
    | fail)
          all_goals ((refine zzr hQ ?_))
          all_goals (exact Fin.drop (by simp; exact .r) (by simp))
theorem c_RSame (a b : List ByteArray) (ha : a.length < 9223372036854775808) (hb : b.length < 9223372036854775808) : CallD Tryd.prog 15 [.sl 1 (strs a), .sl 1 (strs b)] noHeap (.raw (.bool (decide (a = b)))) noHeap := by
  by_cases hl : a.length = b.length
  · refine calls_go (nt := 26) (rs := [.tmp 4]) Tryd.func15 rfl rfl rfl (by simp) (by intro id h; simp at h <;> omega) ?_; intro Q hQ hW
    repeat' (first
    | (with_reducible refine run_n ?_; with_reducible first | refine hK _ _ (by simp) ?_ | refine hK _ _ ?_; clear hK K)
    | (refine zzc ?_)
    | (with_reducible refine awp_regT (by kernel_rfl) ?_; intro K hK)
    | (with_reducible refine awp_regAM (id := 6) [] mixed (by kernel_rfl) (by kernel_rfl) ?_; intro K hK)
    | (with_reducible refine a_cond (ht := ?_) (hf := ?_) <;> intro hb <;> (try simp at hb) <;> (try contradiction) <;> (try subst hb) <;> (try omega))
    | (with_reducible first | refine a_move (hr:=?_) | refine a_assign (hr:=?_) | refine a_load (hr:=?_) | refine a_bin (hr:=?_) | refine a_lenS (hr:=?_) | refine a_lenR (hr:=?_) | refine a_neB (hr:=?_) | refine a_idxArr (hr:=?_) | refine a_neS (hr:=?_) | refine a_indexAddr (hr:=?_))
    | fail)
    refine awp_inv (α := Nat) (fun i => [(0, .sl 1 (strs a)), (1, .sl 1 (strs b)), (12, .raw (.int .i64 a.length)), (13, .raw (.int .i64 i))]) (fun _ => hpL []) (fun i => i ≤ a.length ∧ a.take i = b.take i) (fun i => a.length - i) 0 ⟨by simp, by simp⟩ (zzw) ?_
    rintro i ⟨g1, g2⟩
    rcases Nat.lt_or_ge i a.length with hlt | hge
    · have hx := List.getElem?_eq_getElem hlt
      have hx2 := List.getElem?_eq_getElem (show i < b.length by omega)
      have e1 := List.take_succ_eq_append_getElem hlt
      have e2 := List.take_succ_eq_append_getElem (show i < b.length by omega)
      generalize a[i] = y at hx e1
      generalize b[i]'(by omega) = z at hx2 e2
      by_cases he : y = z
      · subst he
        repeat' (first
    | (with_reducible refine run_n ?_; with_reducible first | refine hK _ _ (by simp) ?_ | refine hK _ _ ?_; clear hK K)
    | (refine zzc ?_)
    | (with_reducible refine awp_regT (by kernel_rfl) ?_; intro K hK)
    | (with_reducible refine awp_regAM (id := 6) [] mixed (by kernel_rfl) (by kernel_rfl) ?_; intro K hK)
    | (with_reducible refine a_cond (ht := ?_) (hf := ?_) <;> intro hb <;> (try simp at hb) <;> (try contradiction) <;> (try subst hb) <;> (try omega))
    | (with_reducible first | refine a_move (hr:=?_) | refine a_assign (hr:=?_) | refine a_load (hr:=?_) | refine a_bin (hr:=?_) | refine a_lenS (hr:=?_) | refine a_lenR (hr:=?_) | refine a_neB (hr:=?_) | refine a_idxArr (hr:=?_) | refine a_neS (hr:=?_) | refine a_indexAddr (hr:=?_))
    | fail)
        exact ⟨i + 1, by omega, ⟨by omega, by rw [e1, e2, g2]⟩, zzw⟩
      · have hne : a ≠ b := by
          intro e; subst e; rw [hx] at hx2; exact he (Option.some.inj hx2)
        rw [decide_eq_false hne] at hQ
        clear hne
        repeat' (first
    | (with_reducible refine run_n ?_; with_reducible first | refine hK _ _ (by simp) ?_ | refine hK _ _ ?_; clear hK K)
    | (refine zzc ?_)
    | (with_reducible refine awp_regT (by kernel_rfl) ?_; intro K hK)
    | (with_reducible refine awp_regAM (id := 6) [] mixed (by kernel_rfl) (by kernel_rfl) ?_; intro K hK)
    | (with_reducible refine a_cond (ht := ?_) (hf := ?_) <;> intro hb <;> (try simp at hb) <;> (try contradiction) <;> (try subst hb) <;> (try omega))
    | (with_reducible first | refine a_move (hr:=?_) | refine a_assign (hr:=?_) | refine a_load (hr:=?_) | refine a_bin (hr:=?_) | refine a_lenS (hr:=?_) | refine a_lenR (hr:=?_) | refine a_neB (hr:=?_) | refine a_idxArr (hr:=?_) | refine a_neS (hr:=?_) | refine a_indexAddr (hr:=?_))
    | fail)
        all_goals ((refine zzr hQ ?_))
        all_goals (exact Fin.drop (by simp; exact .r) (by simp))
    · obtain rfl : i = a.length := by omega
      rw [List.take_length, hl, List.take_length] at g2
      subst g2
      rw [decide_eq_true rfl] at hQ
      repeat' (first
    | (with_reducible refine run_n ?_; with_reducible first | refine hK _ _ (by simp) ?_ | refine hK _ _ ?_; clear hK K)
    | (refine zzc ?_)
    | (with_reducible refine awp_regT (by kernel_rfl) ?_; intro K hK)
    | (with_reducible refine awp_regAM (id := 6) [] mixed (by kernel_rfl) (by kernel_rfl) ?_; intro K hK)
    | (with_reducible refine a_cond (ht := ?_) (hf := ?_) <;> intro hb <;> (try simp at hb) <;> (try contradiction) <;> (try subst hb) <;> (try omega))
    | (with_reducible first | refine a_move (hr:=?_) | refine a_assign (hr:=?_) | refine a_load (hr:=?_) | refine a_bin (hr:=?_) | refine a_lenS (hr:=?_) | refine a_lenR (hr:=?_) | refine a_neB (hr:=?_) | refine a_idxArr (hr:=?_) | refine a_neS (hr:=?_) | refine a_indexAddr (hr:=?_))
    | fail)
      (refine zzr hQ ?_)
      exact Fin.drop (by simp; exact .r) (by simp)
  · have hne : a ≠ b := fun e => hl (by rw [e])
    rw [decide_eq_false hne]
    refine calls_go (nt := 26) (rs := [.tmp 4]) Tryd.func15 rfl rfl rfl (by simp) (by intro id h; simp at h <;> omega) ?_; intro Q hQ hW
    repeat' (first
    | (with_reducible refine run_n ?_; with_reducible first | refine hK _ _ (by simp) ?_ | refine hK _ _ ?_; clear hK K)
    | (refine zzc ?_)
    | (with_reducible refine awp_regT (by kernel_rfl) ?_; intro K hK)
    | (with_reducible refine awp_regAM (id := 6) [] mixed (by kernel_rfl) (by kernel_rfl) ?_; intro K hK)
    | (with_reducible refine a_cond (ht := ?_) (hf := ?_) <;> intro hb <;> (try simp at hb) <;> (try contradiction) <;> (try subst hb) <;> (try omega))
    | (with_reducible first | refine a_move (hr:=?_) | refine a_assign (hr:=?_) | refine a_load (hr:=?_) | refine a_bin (hr:=?_) | refine a_lenS (hr:=?_) | refine a_lenR (hr:=?_) | refine a_neB (hr:=?_) | refine a_idxArr (hr:=?_) | refine a_neS (hr:=?_) | refine a_indexAddr (hr:=?_))
    | fail)
    (refine zzr hQ ?_)
    exact Fin.drop (by simp; exact .r) (by simp)
end Go.Proofs.YtngeckkebejhiaaDoor.Asl
