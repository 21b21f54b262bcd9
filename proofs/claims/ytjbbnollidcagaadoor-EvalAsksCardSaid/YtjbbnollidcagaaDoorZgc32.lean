/- Part 32 of what the row leans on: abstract values and states, their rules, and the contracts of the functions. -/
import Derived.Test.YtjbbnollidcagaaDoorZgc31
namespace Go.Proofs.YtjbbnollidcagaaDoor.Asl
open Go Go.RowKit
set_option linter.unusedVariables false
set_option linter.unusedSimpArgs false
set_option maxRecDepth 100000
set_option maxHeartbeats 4000000
structure VarV where
  n : ByteArray
  k : Int
  v : Int
  s : ByteArray
  deriving DecidableEq
@[simp] def varAV (x : VarV) : AV := .agg [.raw (.string x.n), valAV x.k x.v x.s]
/-- As it comes in. -/
def vof (x : ByteArray × Int × Int × ByteArray) : VarV := ⟨x.1, x.2.1, x.2.2.1, x.2.2.2⟩
theorem map_vof (l : List (ByteArray × Int × Int × ByteArray)) : (l.map vof).map varAV = l.map fun x => varAV (vof x) := by rw [List.map_map]; rfl
instance : FlatF varAV := ⟨fun x => by simp⟩
def getV : List VarV → ByteArray → (Int × Int × ByteArray) × Bool
  | [], _ => ((0, 0, ⟨#[]⟩), false)
  | x :: l, m => if x.n = m then ((x.k, x.v, x.s), true) else getV l m
abbrev gtAV (t : (Int × Int × ByteArray) × Bool) : AV := .tup [valAV t.1.1 t.1.2.1 t.1.2.2, .raw (.bool t.2)]
theorem c_Get (l : List VarV) (m : ByteArray) (hl : l.length < 9223372036854775808) : CallD Tryd.prog 48 [.sl 4 (l.map varAV), .raw (.string m)] noHeap (gtAV (getV l m)) noHeap := by
  refine zzg (nt := 22) (rs := [.cell 4 23, .tmp 5]) Tryd.func48 ?_; intro Q hQ hW
  repeat' (first
 | (with_reducible refine run_n ?_; with_reducible first | refine hK _ _ (by simp) ?_ | refine hK _ _ ?_; clear hK K)
 | (refine zzc ?_)
 | (with_reducible refine awp_regT (by kernel_rfl) ?_; intro K hK)
 | (with_reducible refine a_cond (ht := ?_) (hf := ?_) <;> intro hb <;> (try simp at hb) <;> (try contradiction) <;> (try subst hb) <;> (try omega))
 | (with_reducible first | refine a_move (hr:=?_) | refine a_assign (hr:=?_) | refine a_load (hr:=?_) | refine a_fieldAddr (hr:=?_) | refine a_bin (hr:=?_) | refine a_lenS (hr:=?_) | refine a_lenR (hr:=?_) | refine a_store (hr:=?_) | refine a_alloc (hr:=?_) | refine a_eqB (hr:=?_) | refine a_idxArr (hr:=?_) | refine a_eqS (hr:=?_) | refine a_indexAddr (hr:=?_) | refine a_build (hr:=?_))
 | fail)
  refine awp_inv (α := Nat) (fun i => [(1, .raw (.string m)), (4, .ptr 4 0), (5, .raw (.bool false)), (8, .sl 4 (l.map varAV)), (9, .raw (.int .i64 l.length)), (10, .raw (.int .i64 i))]) (fun _ => hpL [(4, .box (valAV 0 0 ⟨#[]⟩))]) (fun i => i ≤ l.length ∧ getV (l.drop i) m = getV l m) (fun i => l.length - i) 0 ⟨by simp, by simp⟩ (zzw) ?_
  rintro i ⟨g1, g2⟩
  rw [← g2] at hQ
  rcases Nat.lt_or_ge i l.length with hlt | hge
  · have hx := List.getElem?_eq_getElem hlt
    rw [List.drop_eq_getElem_cons hlt] at g2 hQ
    generalize l[i] = y at hx g2 hQ
    obtain ⟨yn, yk, yv, ys⟩ := y
    simp only [getV] at g2 hQ
    by_cases h1 : yn = m
    · rw [if_pos h1] at hQ
      subst h1
      repeat' (first
 | (with_reducible refine run_n ?_; with_reducible first | refine hK _ _ (by simp) ?_ | refine hK _ _ ?_; clear hK K)
 | (refine zzc ?_)
 | (with_reducible refine awp_regT (by kernel_rfl) ?_; intro K hK)
 | (with_reducible refine a_cond (ht := ?_) (hf := ?_) <;> intro hb <;> (try simp at hb) <;> (try contradiction) <;> (try subst hb) <;> (try omega))
 | (with_reducible first | refine a_move (hr:=?_) | refine a_assign (hr:=?_) | refine a_load (hr:=?_) | refine a_fieldAddr (hr:=?_) | refine a_bin (hr:=?_) | refine a_lenS (hr:=?_) | refine a_lenR (hr:=?_) | refine a_store (hr:=?_) | refine a_alloc (hr:=?_) | refine a_eqB (hr:=?_) | refine a_idxArr (hr:=?_) | refine a_eqS (hr:=?_) | refine a_indexAddr (hr:=?_) | refine a_build (hr:=?_))
 | fail)
      (refine zzr hQ ?_)
      exact zzd
    · rw [if_neg h1] at g2 hQ
      repeat' (first
 | (with_reducible refine run_n ?_; with_reducible first | refine hK _ _ (by simp) ?_ | refine hK _ _ ?_; clear hK K)
 | (refine zzc ?_)
 | (with_reducible refine awp_regT (by kernel_rfl) ?_; intro K hK)
 | (with_reducible refine a_cond (ht := ?_) (hf := ?_) <;> intro hb <;> (try simp at hb) <;> (try contradiction) <;> (try subst hb) <;> (try omega))
 | (with_reducible first | refine a_move (hr:=?_) | refine a_assign (hr:=?_) | refine a_load (hr:=?_) | refine a_fieldAddr (hr:=?_) | refine a_bin (hr:=?_) | refine a_lenS (hr:=?_) | refine a_lenR (hr:=?_) | refine a_store (hr:=?_) | refine a_alloc (hr:=?_) | refine a_eqB (hr:=?_) | refine a_idxArr (hr:=?_) | refine a_eqS (hr:=?_) | refine a_indexAddr (hr:=?_) | refine a_build (hr:=?_))
 | fail)
      exact ⟨i + 1, by omega, ⟨by omega, g2⟩, zzw⟩
  · obtain rfl : i = l.length := by omega
    rw [List.drop_length] at hQ
    simp only [getV] at hQ
    repeat' (first
 | (with_reducible refine run_n ?_; with_reducible first | refine hK _ _ (by simp) ?_ | refine hK _ _ ?_; clear hK K)
 | (refine zzc ?_)
 | (with_reducible refine awp_regT (by kernel_rfl) ?_; intro K hK)
 | (with_reducible refine a_cond (ht := ?_) (hf := ?_) <;> intro hb <;> (try simp at hb) <;> (try contradiction) <;> (try subst hb) <;> (try omega))
 | (with_reducible first | refine a_move (hr:=?_) | refine a_assign (hr:=?_) | refine a_load (hr:=?_) | refine a_fieldAddr (hr:=?_) | refine a_bin (hr:=?_) | refine a_lenS (hr:=?_) | refine a_lenR (hr:=?_) | refine a_store (hr:=?_) | refine a_alloc (hr:=?_) | refine a_eqB (hr:=?_) | refine a_idxArr (hr:=?_) | refine a_eqS (hr:=?_) | refine a_indexAddr (hr:=?_) | refine a_build (hr:=?_))
 | fail)
    (refine zzr hQ ?_)
    exact zzd
end Go.Proofs.YtjbbnollidcagaaDoor.Asl

namespace Go.Proofs.YtjbbnollidcagaaDoor.Asl
open Go Go.RowKit
open Go.Proofs.YtjbbnollidcagaaDoor.Errs (EV)
set_option linter.unusedVariables false
set_option linter.unusedSimpArgs false
set_option maxRecDepth 100000
set_option maxHeartbeats 4000000
/-- Places, each with a colon behind. -/
def joinS : List ByteArray → ByteArray → ByteArray
  | [], s => s
  | p :: l, s => joinS l (s ++ (p ++ ⟨#[58, 32]⟩))
@[simp] theorem joinS_nil (s : ByteArray) : joinS [] s = s := rfl
def sumP (l : List ByteArray) : Nat := (l.map fun p => p.size + 2).sum
theorem joinS_snoc (p : ByteArray) : ∀ (l : List ByteArray) (s : ByteArray), joinS (l ++ [p]) s = joinS l s ++ (p ++ ⟨#[58, 32]⟩)
  | [], s => rfl
  | q :: l, s => by simp only [List.cons_append, joinS]; exact joinS_snoc p l _
theorem joinS_size : ∀ (l : List ByteArray) (s : ByteArray), (joinS l s).size = s.size + sumP l
  | [], s => by simp [joinS, sumP]
  | p :: l, s => by
    rw [joinS, joinS_size l]
    simp only [sumP, List.map_cons, List.sum_cons, ByteArray.size_append]
    have : (⟨#[58, 32]⟩ : ByteArray).size = 2 := rfl
    omega
theorem sumP_take (l : List ByteArray) (i : Nat) : sumP (l.take i) ≤ sumP l := by
  have e : sumP l = sumP (l.take i) + sumP (l.drop i) := by
    conv => lhs; rw [← List.take_append_drop i l]
    unfold sumP; rw [List.map_append, List.sum_append]
  omega
def tailT (asks : Bool) (c : Int) (s : ByteArray) : ByteArray := if asks then s ++ ⟨#[110, 101, 101, 100]⟩ else (s ++ ⟨#[101, 114, 114, 111, 114, 32]⟩) ++ strOfNums (digs10 c)
def textE : Option EV → ByteArray
  | none => ⟨#[]⟩
  | some e => tailT (needE (some e)).2 (codeE (some e)) (joinS (placesE e) ⟨#[]⟩)
theorem digs10_len (n : Int) : (digs10 n).length ≤ 21 := by
  unfold digs10
  split
  · have := nat10_len 20 (-n); simp; omega
  · have := nat10_len 20 n; omega
theorem digs10_size (n : Int) : (strOfNums (digs10 n)).size ≤ 21 := by
  have := digs10_len n
  unfold strOfNums; show (List.toArray _).size ≤ _; simpa using this
def inI (c : Int) : Prop := -9223372036854775808 < c ∧ c < 9223372036854775808
theorem c_FText (e : Option EV) (hs : sumP (trailE e) ≤ 1000000000000000000) (hl : (trailE e).length ≤ 1000000) (hc : inI (codeE e)) : CallD Tryd.prog 32 [errO e] noHeap (.raw (.string (textE e))) noHeap := by
  cases e with
  | none =>
    refine zzg (nt := 36) (rs := [.tmp 2]) Tryd.func32 ?_; intro Q hQ hW
    repeat' (first
 | (with_reducible refine run_n ?_; with_reducible first | refine hK _ _ (by simp) ?_ | refine hK _ _ ?_; clear hK K)
 | (refine zzc ?_)
 | (with_reducible refine awp_regT (by kernel_rfl) ?_; intro K hK)
 | (with_reducible refine a_cond (ht := ?_) (hf := ?_) <;> intro hb <;> (try simp at hb) <;> (try contradiction) <;> (try subst hb) <;> (try omega))
 | (with_reducible first | refine a_move (hr:=?_) | refine a_assign (hr:=?_) | refine a_load (hr:=?_) | refine a_bin (hr:=?_) | refine a_lenS (hr:=?_) | refine a_lenR (hr:=?_) | refine a_extract (hr:=?_) | refine a_store (hr:=?_) | refine a_alloc (hr:=?_) | refine a_eqI (hr:=?_) | refine a_neI (hr:=?_) | refine a_eqB (hr:=?_) | refine a_idxArr (hr:=?_) | refine a_eqS (hr:=?_) | refine a_indexAddr (hr:=?_))
 | fail)
    all_goals ((refine zzr hQ ?_))
    all_goals (exact zzd)
  | some e =>
    have h1 := c_FTrail (some e) hl
    have h2 := c_FNeeded (some e)
    have h3 := c_FCode (some e)
    have h4 := c_FDigits (codeE (some e)) hc.1 hc.2
    have hz := digs10_size (codeE (some e))
    simp only [errO_some, textE, trailE] at h1 h2 h3 hs hl ⊢
    generalize codeE (some e) = c at h3 h4 hz ⊢
    generalize needE (some e) = n at h2 ⊢
    obtain ⟨⟨lo, hi⟩, b⟩ := n
    simp only at h2 ⊢
    generalize placesE e = ps at h1 hs hl ⊢
    have hsz := joinS_size ps ⟨#[]⟩
    have h00 : (⟨#[]⟩ : ByteArray).size = 0 := rfl
    unfold tailT
    generalize strOfNums (digs10 c) = ds at h4 hz ⊢
    refine zzg (nt := 36) (rs := [.tmp 2]) Tryd.func32 ?_; intro Q hQ hW
    repeat' (first
 | (with_reducible refine run_n ?_; with_reducible first | refine hK _ _ (by simp) ?_ | refine hK _ _ ?_; clear hK K)
 | (refine zzc ?_)
 | (with_reducible refine awp_regT (by kernel_rfl) ?_; intro K hK)
 | (with_reducible refine a_cond (ht := ?_) (hf := ?_) <;> intro hb <;> (try simp at hb) <;> (try contradiction) <;> (try subst hb) <;> (try omega))
 | (with_reducible first | refine a_move (hr:=?_) | refine a_assign (hr:=?_) | refine a_load (hr:=?_) | refine a_bin (hr:=?_) | refine a_lenS (hr:=?_) | refine a_lenR (hr:=?_) | refine a_extract (hr:=?_) | refine a_store (hr:=?_) | refine a_alloc (hr:=?_) | refine a_eqI (hr:=?_) | refine a_neI (hr:=?_) | refine a_eqB (hr:=?_) | refine a_idxArr (hr:=?_) | refine a_eqS (hr:=?_) | refine a_indexAddr (hr:=?_) | refine a_callF (hcall := h1) (hr:=?_))
 | fail)
    refine awp_inv (α := Nat) (fun i => [(0, errAV e), (3, .raw (.string (joinS (ps.take i) ⟨#[]⟩))), (11, .sl 1 (strs ps)), (12, .raw (.int .i64 ps.length)), (13, .raw (.int .i64 i))]) (fun _ => hpL []) (fun i => i ≤ ps.length) (fun i => ps.length - i) 0 (by simp) (zzw) ?_
    intro i g1
    rcases Nat.lt_or_ge i ps.length with hlt | hge
    · have hx := List.getElem?_eq_getElem hlt
      have ht := List.take_succ_eq_append_getElem hlt
      have hti := joinS_size (ps.take (i + 1)) ⟨#[]⟩
      have htk := sumP_take ps (i + 1)
      generalize ps[i] = p at hx ht
      rw [ht, joinS_snoc] at hti
      have hj : joinS (ps.take (i + 1)) ⟨#[]⟩ = joinS (ps.take i) ⟨#[]⟩ ++ (p ++ ⟨#[58, 32]⟩) := by rw [ht, joinS_snoc]
      simp only [ByteArray.size_append] at hti
      rw [← ht] at hti
      generalize joinS (ps.take i) ⟨#[]⟩ = s at hti hj ⊢
      have h22 : (⟨#[58, 32]⟩ : ByteArray).size = 2 := rfl
      clear h1 h2 h3 h4
      repeat' (first
 | (with_reducible refine run_n ?_; with_reducible first | refine hK _ _ (by simp) ?_ | refine hK _ _ ?_; clear hK K)
 | (refine zzc ?_)
 | (with_reducible refine awp_regT (by kernel_rfl) ?_; intro K hK)
 | (with_reducible refine a_cond (ht := ?_) (hf := ?_) <;> intro hb <;> (try simp at hb) <;> (try contradiction) <;> (try subst hb) <;> (try omega))
 | (with_reducible first | refine a_move (hr:=?_) | refine a_assign (hr:=?_) | refine a_load (hr:=?_) | refine a_bin (hr:=?_) | refine a_lenS (hr:=?_) | refine a_lenR (hr:=?_) | refine a_extract (hr:=?_) | refine a_store (hr:=?_) | refine a_alloc (hr:=?_) | refine a_eqI (hr:=?_) | refine a_neI (hr:=?_) | refine a_eqB (hr:=?_) | refine a_idxArr (hr:=?_) | refine a_eqS (hr:=?_) | refine a_indexAddr (hr:=?_))
 | fail)
      exact ⟨i + 1, by omega, by omega, by rw [hj]; exact zzw⟩
    · obtain rfl : i = ps.length := by omega
      rw [List.take_length]
      generalize joinS ps ⟨#[]⟩ = s at hsz hQ ⊢
      have h44 : (⟨#[110, 101, 101, 100]⟩ : ByteArray).size = 4 := rfl
      have h66 : (⟨#[101, 114, 114, 111, 114, 32]⟩ : ByteArray).size = 6 := rfl
      cases b with
      | true =>
        repeat' (first
 | (with_reducible refine run_n ?_; with_reducible first | refine hK _ _ (by simp) ?_ | refine hK _ _ ?_; clear hK K)
 | (refine zzc ?_)
 | (with_reducible refine awp_regT (by kernel_rfl) ?_; intro K hK)
 | (with_reducible refine a_cond (ht := ?_) (hf := ?_) <;> intro hb <;> (try simp at hb) <;> (try contradiction) <;> (try subst hb) <;> (try omega))
 | (with_reducible first | refine a_move (hr:=?_) | refine a_assign (hr:=?_) | refine a_load (hr:=?_) | refine a_bin (hr:=?_) | refine a_lenS (hr:=?_) | refine a_lenR (hr:=?_) | refine a_extract (hr:=?_) | refine a_store (hr:=?_) | refine a_alloc (hr:=?_) | refine a_eqI (hr:=?_) | refine a_neI (hr:=?_) | refine a_eqB (hr:=?_) | refine a_idxArr (hr:=?_) | refine a_eqS (hr:=?_) | refine a_indexAddr (hr:=?_) | refine a_callF (hcall := h2) (hr:=?_) | refine a_callF (hcall := h3) (hr:=?_) | refine a_call0 (hcall := h4) (hr:=?_))
 | fail)
        all_goals ((refine zzr hQ ?_))
        all_goals (exact zzd)
      | false =>
        repeat' (first
 | (with_reducible refine run_n ?_; with_reducible first | refine hK _ _ (by simp) ?_ | refine hK _ _ ?_; clear hK K)
 | (refine zzc ?_)
 | (with_reducible refine awp_regT (by kernel_rfl) ?_; intro K hK)
 | (with_reducible refine a_cond (ht := ?_) (hf := ?_) <;> intro hb <;> (try simp at hb) <;> (try contradiction) <;> (try subst hb) <;> (try omega))
 | (with_reducible first | refine a_move (hr:=?_) | refine a_assign (hr:=?_) | refine a_load (hr:=?_) | refine a_bin (hr:=?_) | refine a_lenS (hr:=?_) | refine a_lenR (hr:=?_) | refine a_extract (hr:=?_) | refine a_store (hr:=?_) | refine a_alloc (hr:=?_) | refine a_eqI (hr:=?_) | refine a_neI (hr:=?_) | refine a_eqB (hr:=?_) | refine a_idxArr (hr:=?_) | refine a_eqS (hr:=?_) | refine a_indexAddr (hr:=?_) | refine a_callF (hcall := h2) (hr:=?_) | refine a_callF (hcall := h3) (hr:=?_) | refine a_call0 (hcall := h4) (hr:=?_))
 | fail)
        all_goals ((refine zzr hQ ?_))
        all_goals (exact zzd)
instance : FlatF errO := ⟨fun x => by simp⟩
/-- The document's error: whether there is one, its places, its number, whether it asks, and for what. -/
structure RE where
  is : Bool
  ps : List ByteArray
  c : Int
  asks : Bool
  lo : ByteArray
  hi : ByteArray
def plAV (l : List ByteArray) : AV := if l = [] then .raw (.slice none 0 0) else .sl 1 (strs l)
@[simp] theorem plAV_nil : plAV [] = .raw (.slice none 0 0) := rfl
@[simp] theorem plAV_cons (p : ByteArray) (l : List ByteArray) : plAV (p :: l) = .sl 1 (strs (p :: l)) := rfl
abbrev RE.av (x : RE) : AV := .agg [.raw (.bool x.is), plAV x.ps, .raw (.int .i64 x.c), .raw (.bool x.asks), .agg [.raw (.string x.lo), .raw (.string x.hi)]]
theorem c_RSame (a b : List ByteArray) (ha : a.length < 9223372036854775808) (hb : b.length < 9223372036854775808) : CallD Tryd.prog 23 [.sl 1 (strs a), .sl 1 (strs b)] noHeap (.raw (.bool (decide (a = b)))) noHeap := by
  by_cases hl : a.length = b.length
  · refine zzg (nt := 26) (rs := [.tmp 4]) Tryd.func23 ?_; intro Q hQ hW
    repeat' (first
 | (with_reducible refine run_n ?_; with_reducible first | refine hK _ _ (by simp) ?_ | refine hK _ _ ?_; clear hK K)
 | (refine zzc ?_)
 | (with_reducible refine awp_regT (by kernel_rfl) ?_; intro K hK)
 | (with_reducible refine awp_regAM (id := 6) [] mixed (by kernel_rfl) (by kernel_rfl) ?_; intro K hK)
 | (with_reducible refine a_cond (ht := ?_) (hf := ?_) <;> intro hb <;> (try simp at hb) <;> (try contradiction) <;> (try subst hb) <;> (try omega))
 | (with_reducible first | refine a_move (hr:=?_) | refine a_assign (hr:=?_) | refine a_load (hr:=?_) | refine a_bin (hr:=?_) | refine a_lenS (hr:=?_) | refine a_lenR (hr:=?_) | refine a_neB (hr:=?_) | refine a_idxArr (hr:=?_) | refine a_neS (hr:=?_) | refine a_indexAddr (hr:=?_))
 | fail)
    refine awp_inv (α := Nat) (fun i => [(0, .sl 1 (strs a)), (1, .sl 1 (strs b)), (12, .raw (.int .i64 a.length)), (13, .raw (.int .i64 i))]) (fun _ => hpL []) (fun i => i ≤ a.length ∧ a.take i = b.take i) (fun i => a.length - i) 0 ⟨by simp, by simp⟩ (zzw) ?_
    rintro i ⟨g1, g2⟩
    rcases Nat.lt_or_ge i a.length with hlt | hge
    · have hx := List.getElem?_eq_getElem hlt
      have hx2 := List.getElem?_eq_getElem (show i < b.length by omega)
      have e1 := List.take_succ_eq_append_getElem hlt
      have e2 := List.take_succ_eq_append_getElem (show i < b.length by omega)
      generalize a[i] = y at hx e1
      generalize b[i]'(by omega) = z at hx2 e2
      by_cases he : y = z
      · subst he
        repeat' (first
 | (with_reducible refine run_n ?_; with_reducible first | refine hK _ _ (by simp) ?_ | refine hK _ _ ?_; clear hK K)
 | (refine zzc ?_)
 | (with_reducible refine awp_regT (by kernel_rfl) ?_; intro K hK)
 | (with_reducible refine awp_regAM (id := 6) [] mixed (by kernel_rfl) (by kernel_rfl) ?_; intro K hK)
 | (with_reducible refine a_cond (ht := ?_) (hf := ?_) <;> intro hb <;> (try simp at hb) <;> (try contradiction) <;> (try subst hb) <;> (try omega))
 | (with_reducible first | refine a_move (hr:=?_) | refine a_assign (hr:=?_) | refine a_load (hr:=?_) | refine a_bin (hr:=?_) | refine a_lenS (hr:=?_) | refine a_lenR (hr:=?_) | refine a_neB (hr:=?_) | refine a_idxArr (hr:=?_) | refine a_neS (hr:=?_) | refine a_indexAddr (hr:=?_))
 | fail)
        exact ⟨i + 1, by omega, ⟨by omega, by rw [e1, e2, g2]⟩, zzw⟩
      · have hne : a ≠ b := by
          intro e; subst e; rw [hx] at hx2; exact he (Option.some.inj hx2)
        rw [decide_eq_false hne] at hQ
        clear hne
        repeat' (first
 | (with_reducible refine run_n ?_; with_reducible first | refine hK _ _ (by simp) ?_ | refine hK _ _ ?_; clear hK K)
 | (refine zzc ?_)
 | (with_reducible refine awp_regT (by kernel_rfl) ?_; intro K hK)
 | (with_reducible refine awp_regAM (id := 6) [] mixed (by kernel_rfl) (by kernel_rfl) ?_; intro K hK)
 | (with_reducible refine a_cond (ht := ?_) (hf := ?_) <;> intro hb <;> (try simp at hb) <;> (try contradiction) <;> (try subst hb) <;> (try omega))
 | (with_reducible first | refine a_move (hr:=?_) | refine a_assign (hr:=?_) | refine a_load (hr:=?_) | refine a_bin (hr:=?_) | refine a_lenS (hr:=?_) | refine a_lenR (hr:=?_) | refine a_neB (hr:=?_) | refine a_idxArr (hr:=?_) | refine a_neS (hr:=?_) | refine a_indexAddr (hr:=?_))
 | fail)
        all_goals ((refine zzr hQ ?_))
        all_goals (exact zzd)
    · obtain rfl : i = a.length := by omega
      rw [List.take_length, hl, List.take_length] at g2
      subst g2
      rw [decide_eq_true rfl] at hQ
      repeat' (first
 | (with_reducible refine run_n ?_; with_reducible first | refine hK _ _ (by simp) ?_ | refine hK _ _ ?_; clear hK K)
 | (refine zzc ?_)
 | (with_reducible refine awp_regT (by kernel_rfl) ?_; intro K hK)
 | (with_reducible refine awp_regAM (id := 6) [] mixed (by kernel_rfl) (by kernel_rfl) ?_; intro K hK)
 | (with_reducible refine a_cond (ht := ?_) (hf := ?_) <;> intro hb <;> (try simp at hb) <;> (try contradiction) <;> (try subst hb) <;> (try omega))
 | (with_reducible first | refine a_move (hr:=?_) | refine a_assign (hr:=?_) | refine a_load (hr:=?_) | refine a_bin (hr:=?_) | refine a_lenS (hr:=?_) | refine a_lenR (hr:=?_) | refine a_neB (hr:=?_) | refine a_idxArr (hr:=?_) | refine a_neS (hr:=?_) | refine a_indexAddr (hr:=?_))
 | fail)
      (refine zzr hQ ?_)
      exact zzd
  · have hne : a ≠ b := fun e => hl (by rw [e])
    rw [decide_eq_false hne]
    refine zzg (nt := 26) (rs := [.tmp 4]) Tryd.func23 ?_; intro Q hQ hW
    repeat' (first
 | (with_reducible refine run_n ?_; with_reducible first | refine hK _ _ (by simp) ?_ | refine hK _ _ ?_; clear hK K)
 | (refine zzc ?_)
 | (with_reducible refine awp_regT (by kernel_rfl) ?_; intro K hK)
 | (with_reducible refine awp_regAM (id := 6) [] mixed (by kernel_rfl) (by kernel_rfl) ?_; intro K hK)
 | (with_reducible refine a_cond (ht := ?_) (hf := ?_) <;> intro hb <;> (try simp at hb) <;> (try contradiction) <;> (try subst hb) <;> (try omega))
 | (with_reducible first | refine a_move (hr:=?_) | refine a_assign (hr:=?_) | refine a_load (hr:=?_) | refine a_bin (hr:=?_) | refine a_lenS (hr:=?_) | refine a_lenR (hr:=?_) | refine a_neB (hr:=?_) | refine a_idxArr (hr:=?_) | refine a_neS (hr:=?_) | refine a_indexAddr (hr:=?_))
 | fail)
    (refine zzr hQ ?_)
    exact zzd
end Go.Proofs.YtjbbnollidcagaaDoor.Asl

namespace Go.Proofs.YtjbbnollidcagaaDoor.Asl
open Go Go.RowKit
open Go.Proofs.YtjbbnollidcagaaDoor.Errs (EV)
set_option linter.unusedVariables false
set_option linter.unusedSimpArgs false
set_option maxRecDepth 100000
set_option maxHeartbeats 4000000
structure Mk where
  asks : Bool
  lo : ByteArray
  hi : ByteArray
  c : Int
  ps : List ByteArray
abbrev Mk.av (m : Mk) : AV := .agg [.raw (.bool m.asks), .raw (.string m.lo), .raw (.string m.hi), .raw (.int .i32 m.c), .sl 1 (strs m.ps)]
def wrapsE (b : Option EV) : List ByteArray → Option EV
  | [] => b
  | p :: l => (wrapsE b l).map (.wrap p)
def Mk.base (m : Mk) : Option EV := if m.asks then some (.need m.lo m.hi) else ofE m.c
def Mk.ev (m : Mk) : Option EV := wrapsE m.base m.ps
def Mk.ok (m : Mk) : Prop := -2147483648 ≤ m.c ∧ m.c ≤ 2147483647 ∧ m.ps.length ≤ 140737488351232
def Mk.few (m : Mk) : Bool := m.ps.all (fun p => decide (p.size ≤ 100)) && decide (m.ps.length ≤ 50)
def Mk.re (m : Mk) : RE := if m.asks then ⟨true, m.ps, 20, true, m.lo, m.hi⟩ else if m.c = 0 then ⟨false, [], m.c, false, ⟨#[]⟩, ⟨#[]⟩⟩ else ⟨true, m.ps, m.c, false, ⟨#[]⟩, ⟨#[]⟩⟩
end Go.Proofs.YtjbbnollidcagaaDoor.Asl

namespace Go.Proofs.YtjbbnollidcagaaDoor.Asl
open Go Go.RowKit
open Go.Proofs.YtjbbnollidcagaaDoor.Errs (EV)
set_option linter.unusedVariables false
set_option linter.unusedSimpArgs false
set_option maxRecDepth 100000
set_option maxHeartbeats 4000000
theorem c_Check (e : List TermV) (hw : ∀ t ∈ e, wfT t) (hl : e.length ≤ 140737488351232) : CallD Tryd.prog 53 [.sl 5 (e.map termAV)] noHeap (.raw (.int .i64 (wholeE e).2)) noHeap := by
  have q := c_whole e hw hl
  generalize wholeE e = r at q ⊢
  obtain ⟨⟨a, b, c⟩, d⟩ := r
  refine zzg (nt := 11) (rs := [.tmp 2]) Tryd.func53 ?_; intro Q hQ hW
  repeat' (first
 | (with_reducible refine run_n ?_; with_reducible first | refine hK _ _ (by simp) ?_ | refine hK _ _ ?_; clear hK K)
 | (refine zzc ?_)
 | (with_reducible refine awp_regT (by kernel_rfl) ?_; intro K hK)
 | (with_reducible refine a_cond (ht := ?_) (hf := ?_) <;> intro hb <;> (try simp at hb) <;> (try contradiction) <;> (try subst hb) <;> (try omega))
 | (with_reducible first | refine a_move (hr:=?_) | refine a_assign (hr:=?_) | refine a_extract (hr:=?_) | refine a_store (hr:=?_) | refine a_alloc (hr:=?_) | refine a_callF (hcall := q) (hr:=?_))
 | fail)
  all_goals ((refine zzr hQ ?_))
  all_goals (exact zzd)
/-- What is wrong, in the end. -/
inductive E6 where
  | ok
  | code (c : Int)
  | unset (n : ByteArray)
def E6.ev : E6 → Option EV
  | .ok => none
  | .code c => ofE c
  | .unset n => some (.wrap n (.code 61))
theorem c_coded (a : Val) (c : Int) : CallD Tryd.prog 56 [a.av, .raw (.int .i64 c)] noHeap (.tup [a.av, errO (ofE c)]) noHeap := by
  have q := c_FOf c
  obtain ⟨k, n, s⟩ := a
  generalize ofE c = r at q ⊢
  refine zzg (nt := 9) (rs := [.cell 4 23, .tmp 5]) Tryd.func56 ?_; intro Q hQ hW
  repeat' (first
 | (with_reducible refine run_n ?_; with_reducible first | refine hK _ _ (by simp) ?_ | refine hK _ _ ?_; clear hK K)
 | (refine zzc ?_)
 | (with_reducible refine awp_regT (by kernel_rfl) ?_; intro K hK)
 | (with_reducible refine awp_regCM (id := 1) [(2, some 2), (4, some 4)] [(2, some 2), (4, some 4), (7, none)] mixed (by kernel_rfl) (by kernel_rfl) (by kernel_rfl) ?_; intro K hK)
 | (with_reducible refine a_cond (ht := ?_) (hf := ?_) <;> intro hb <;> (try simp at hb) <;> (try contradiction) <;> (try subst hb) <;> (try omega))
 | (with_reducible first | refine a_move (hr:=?_) | refine a_assign (hr:=?_) | refine a_load (hr:=?_) | refine a_store (hr:=?_) | refine a_box (hr:=?_) | refine a_alloc (hr:=?_) | refine a_eqI (hr:=?_) | refine a_neI (hr:=?_) | refine a_call0 (hcall := q) (hr:=?_))
 | fail)
  all_goals ((refine zzr hQ ?_))
  all_goals (exact zzd)
/-- The function that Of hands on, over its variables. -/
abbrev gF : AV := .fn (.func 47) [] [.ptr 100000 0]
abbrev gH (l : List VarV) : Hp := setH noHeap 100000 (.box (.sl 4 (l.map varAV)))
theorem c_Of1 (l : List VarV) (m : ByteArray) (hl : l.length < 9223372036854775808) : CallD Tryd.prog 47 [.raw (.string m), .ptr 100000 0] (gH l) (.tup [Val.av (getV l m).1, .raw (.bool (getV l m).2), .raw .nilIface]) (gH l) := by
  have q := c_Get l m hl
  generalize getV l m = r at q ⊢
  obtain ⟨⟨k, n, s⟩, b⟩ := r
  refine zzg (nt := 16) (rs := [.cell 3 23, .tmp 4, .tmp 5]) Tryd.func47 ?_; intro Q hQ hW
  repeat' (first
 | (with_reducible refine run_n ?_; with_reducible first | refine hK _ _ (by simp) ?_ | refine hK _ _ ?_; clear hK K)
 | (refine zzc ?_)
 | (with_reducible refine awp_regT (by kernel_rfl) ?_; intro K hK)
 | (with_reducible refine a_cond (ht := ?_) (hf := ?_) <;> intro hb <;> (try simp at hb) <;> (try contradiction) <;> (try subst hb) <;> (try omega))
 | (with_reducible first | refine a_move (hr:=?_) | refine a_assign (hr:=?_) | refine a_load (hr:=?_) | refine a_extract (hr:=?_) | refine a_store (hr:=?_) | refine a_alloc (hr:=?_) | refine a_eqI (hr:=?_) | refine a_neI (hr:=?_) | refine a_callF (hcall := q) (hr:=?_))
 | fail)
  all_goals ((refine zzr hQ ?_))
  all_goals (exact Fin.keep (by simp; exact .r) (by simp; exact .r) (by simp; exact .r) (by simp))
def namE (l : List VarV) (t : TermV) : Val × E6 := if t.op = 1 ∧ (getV l t.n).2 = false then (zV, .unset t.n) else if t.op = 2 then (bV (getV l t.n).2, .ok) else ((getV l t.n).1, .ok)
theorem c_named (l : List VarV) (t : TermV) (ht : t.op = 1 ∨ t.op = 2) (hl : l.length < 9223372036854775808) : CallD Tryd.prog 55 [termAV t, gF] (gH l) (.tup [Val.av (namE l t).1, errO (namE l t).2.ev]) (gH l) := by
  have q := c_Of1 l t.n hl
  obtain ⟨op, k, v, s, n⟩ := t
  simp only at ht q
  unfold namE
  simp only
  generalize getV l n = r at q ⊢
  obtain ⟨⟨gk, gn, gs⟩, b⟩ := r
  simp only at q ⊢
  have q1 := c_FOf 61
  have q2 := c_FWrap n (some (.code 61))
  have e1 : ofE 61 = some (.code 61) := rfl
  rw [e1] at q1
  simp only [errO_some, Option.map_some] at q1 q2
  rcases ht with rfl | rfl
  · cases b with
    | false =>
      rw [if_pos ⟨rfl, rfl⟩]
      unfold zV E6.ev
      simp only [errO_some]
      refine zzg (nt := 42) (rs := [.cell 4 23, .tmp 5]) Tryd.func55 ?_; intro Q hQ hW
      repeat' (first
 | (with_reducible refine run_n ?_; with_reducible first | refine hK _ _ (by simp) ?_ | refine hK _ _ ?_; clear hK K)
 | (refine zzc ?_)
 | (with_reducible refine awp_regT (by kernel_rfl) ?_; intro K hK)
 | (with_reducible refine a_cond (ht := ?_) (hf := ?_) <;> intro hb <;> (try simp at hb) <;> (try contradiction) <;> (try subst hb) <;> (try omega))
 | (with_reducible first | refine a_move (hr:=?_) | refine a_assign (hr:=?_) | refine a_load (hr:=?_) | refine a_fieldAddr (hr:=?_) | refine a_bin (hr:=?_) | refine a_extract (hr:=?_) | refine a_pick (hr:=?_) | refine a_un (hr:=?_) | refine a_store (hr:=?_) | refine a_box (hr:=?_) | refine a_alloc (hr:=?_) | refine a_eqI (hr:=?_) | refine a_neI (hr:=?_) | refine a_eqB (hr:=?_) | refine a_neB (hr:=?_) | refine a_eqS (hr:=?_) | refine a_neS (hr:=?_) | refine a_build (hr:=?_) | refine a_callP (p := 100000) (hcall := q) (hr:=?_) | refine a_call0 (hcall := q1) (hr:=?_) | refine a_callF (hcall := q2) (hr:=?_) | refine a_gT (hr:=?_) | refine a_gF (hr:=?_) | refine a_gU (hr:=?_))
 | (with_reducible refine a_gB (hT := ?_) (hF := ?_) <;> intro hb <;> (try simp at hb) <;> (try contradiction) <;> (try subst hb) <;> (try omega))
 | fail)
      all_goals ((refine zzr hQ ?_))
      all_goals (exact Fin.keep (by simp; exact .r) (by simp; exact .r) (by simp; exact .r) (by simp))
    | true =>
      rw [if_neg (by simp), if_neg (by decide)]
      unfold E6.ev
      simp only [errO_none]
      refine zzg (nt := 42) (rs := [.cell 4 23, .tmp 5]) Tryd.func55 ?_; intro Q hQ hW
      repeat' (first
 | (with_reducible refine run_n ?_; with_reducible first | refine hK _ _ (by simp) ?_ | refine hK _ _ ?_; clear hK K)
 | (refine zzc ?_)
 | (with_reducible refine awp_regT (by kernel_rfl) ?_; intro K hK)
 | (with_reducible refine a_cond (ht := ?_) (hf := ?_) <;> intro hb <;> (try simp at hb) <;> (try contradiction) <;> (try subst hb) <;> (try omega))
 | (with_reducible first | refine a_move (hr:=?_) | refine a_assign (hr:=?_) | refine a_load (hr:=?_) | refine a_fieldAddr (hr:=?_) | refine a_bin (hr:=?_) | refine a_extract (hr:=?_) | refine a_pick (hr:=?_) | refine a_un (hr:=?_) | refine a_store (hr:=?_) | refine a_box (hr:=?_) | refine a_alloc (hr:=?_) | refine a_eqI (hr:=?_) | refine a_neI (hr:=?_) | refine a_eqB (hr:=?_) | refine a_neB (hr:=?_) | refine a_eqS (hr:=?_) | refine a_neS (hr:=?_) | refine a_build (hr:=?_) | refine a_callP (p := 100000) (hcall := q) (hr:=?_) | refine a_call0 (hcall := q1) (hr:=?_) | refine a_callF (hcall := q2) (hr:=?_) | refine a_gT (hr:=?_) | refine a_gF (hr:=?_) | refine a_gU (hr:=?_))
 | (with_reducible refine a_gB (hT := ?_) (hF := ?_) <;> intro hb <;> (try simp at hb) <;> (try contradiction) <;> (try subst hb) <;> (try omega))
 | fail)
      all_goals ((refine zzr hQ ?_))
      all_goals (exact Fin.keep (by simp; exact .r) (by simp; exact .r) (by simp; exact .r) (by simp))
  · rw [if_neg (by simp), if_pos rfl]
    have q3 := c_VBoolV b
    unfold E6.ev
    simp only [errO_none]
    cases b with
    | false =>
      refine zzg (nt := 42) (rs := [.cell 4 23, .tmp 5]) Tryd.func55 ?_; intro Q hQ hW
      repeat' (first
 | (with_reducible refine run_n ?_; with_reducible first | refine hK _ _ (by simp) ?_ | refine hK _ _ ?_; clear hK K)
 | (refine zzc ?_)
 | (with_reducible refine awp_regT (by kernel_rfl) ?_; intro K hK)
 | (with_reducible refine a_cond (ht := ?_) (hf := ?_) <;> intro hb <;> (try simp at hb) <;> (try contradiction) <;> (try subst hb) <;> (try omega))
 | (with_reducible first | refine a_move (hr:=?_) | refine a_assign (hr:=?_) | refine a_load (hr:=?_) | refine a_fieldAddr (hr:=?_) | refine a_bin (hr:=?_) | refine a_extract (hr:=?_) | refine a_pick (hr:=?_) | refine a_un (hr:=?_) | refine a_store (hr:=?_) | refine a_box (hr:=?_) | refine a_alloc (hr:=?_) | refine a_eqI (hr:=?_) | refine a_neI (hr:=?_) | refine a_eqB (hr:=?_) | refine a_neB (hr:=?_) | refine a_eqS (hr:=?_) | refine a_neS (hr:=?_) | refine a_build (hr:=?_) | refine a_callP (p := 100000) (hcall := q) (hr:=?_) | refine a_call0 (hcall := q1) (hr:=?_) | refine a_callF (hcall := q2) (hr:=?_) | refine a_call0 (hcall := q3) (hr:=?_) | refine a_gT (hr:=?_) | refine a_gF (hr:=?_) | refine a_gU (hr:=?_))
 | (with_reducible refine a_gB (hT := ?_) (hF := ?_) <;> intro hb <;> (try simp at hb) <;> (try contradiction) <;> (try subst hb) <;> (try omega))
 | fail)
      all_goals ((refine zzr hQ ?_))
      all_goals (exact Fin.keep (by simp; exact .r) (by simp; exact .r) (by simp; exact .r) (by simp))
    | true =>
      refine zzg (nt := 42) (rs := [.cell 4 23, .tmp 5]) Tryd.func55 ?_; intro Q hQ hW
      repeat' (first
 | (with_reducible refine run_n ?_; with_reducible first | refine hK _ _ (by simp) ?_ | refine hK _ _ ?_; clear hK K)
 | (refine zzc ?_)
 | (with_reducible refine awp_regT (by kernel_rfl) ?_; intro K hK)
 | (with_reducible refine a_cond (ht := ?_) (hf := ?_) <;> intro hb <;> (try simp at hb) <;> (try contradiction) <;> (try subst hb) <;> (try omega))
 | (with_reducible first | refine a_move (hr:=?_) | refine a_assign (hr:=?_) | refine a_load (hr:=?_) | refine a_fieldAddr (hr:=?_) | refine a_bin (hr:=?_) | refine a_extract (hr:=?_) | refine a_pick (hr:=?_) | refine a_un (hr:=?_) | refine a_store (hr:=?_) | refine a_box (hr:=?_) | refine a_alloc (hr:=?_) | refine a_eqI (hr:=?_) | refine a_neI (hr:=?_) | refine a_eqB (hr:=?_) | refine a_neB (hr:=?_) | refine a_eqS (hr:=?_) | refine a_neS (hr:=?_) | refine a_build (hr:=?_) | refine a_callP (p := 100000) (hcall := q) (hr:=?_) | refine a_call0 (hcall := q1) (hr:=?_) | refine a_callF (hcall := q2) (hr:=?_) | refine a_call0 (hcall := q3) (hr:=?_) | refine a_gT (hr:=?_) | refine a_gF (hr:=?_) | refine a_gU (hr:=?_))
 | (with_reducible refine a_gB (hT := ?_) (hF := ?_) <;> intro hb <;> (try simp at hb) <;> (try contradiction) <;> (try subst hb) <;> (try omega))
 | fail)
      all_goals ((refine zzr hQ ?_))
      all_goals (exact Fin.keep (by simp; exact .r) (by simp; exact .r) (by simp; exact .r) (by simp))
end Go.Proofs.YtjbbnollidcagaaDoor.Asl

namespace Go.Proofs.YtjbbnollidcagaaDoor.Asl
open Go Go.RowKit
open Go.Proofs.YtjbbnollidcagaaDoor.Errs (EV)
set_option linter.unusedVariables false
set_option linter.unusedSimpArgs false
set_option maxRecDepth 100000
set_option maxHeartbeats 4000000
def okV (a : Val) : Prop := inR a.2.1 ∧ a.2.2.size ≤ 1000
theorem okV_z : okV zV := ⟨by unfold inR zV; decide, by decide⟩
theorem okV_b (b : Bool) : okV (bV b) := ⟨by unfold bV inR; simp only; split <;> decide, by simp [bV]⟩
theorem numE_ok {op m n : Int} (hm : inR m) (hn : inR n) : okV (numE op m n).1 := by
  have hz : okV zV := okV_z
  have ho : ∀ r, okV (outI r).1 := fun r => by
    unfold outI
    split
    · rename_i h; exact ⟨h, by simp⟩
    · exact hz
  unfold numE
  split
  · exact ho _
  · split
    · exact ho _
    · split
      · exact ho _
      · split
        · exact hz
        · rename_i hn0
          split
          · refine ⟨?_, by simp⟩
            simp only
            rw [tmod_sg]
            have bY := absV_b hn
            have hY0 : 0 < absV n := by unfold absV; split <;> omega
            have d1 : 0 ≤ absV m % absV n := Int.emod_nonneg _ (by omega)
            have d2 : absV m % absV n < absV n := Int.emod_lt_of_pos _ hY0
            unfold inR sgV; split <;> omega
          · exact ho _
theorem oneE_ok {op : Int} {a : Val} (h : okV a) : okV (oneE op a).1 := by
  obtain ⟨h1, h2⟩ := h
  unfold inR at h1
  unfold oneE
  split
  · split
    · exact okV_z
    · split
      · exact okV_z
      · exact ⟨by unfold inR; simp only; omega, by simp⟩
  · split
    · split
      · exact okV_z
      · exact ⟨by unfold inR; simp only; split <;> decide, by simp⟩
    · split
      · split
        · exact okV_z
        · exact ⟨by unfold inR; simp only; omega, by simp⟩
      · exact okV_z
theorem twoE_ok {op : Int} {a b : Val} (ha : okV a) (hb : okV b) : okV (twoE op a b).1 := by
  unfold twoE
  split
  · exact okV_z
  · split
    · exact okV_b _
    · split
      · split
        · exact okV_b _
        · exact okV_z
      · split
        · split
          · exact okV_b _
          · exact okV_z
        · split
          · split
            · exact okV_z
            · exact ⟨by unfold inR; simp, by simp only [ByteArray.size_append]; omega⟩
          · split
            · exact numE_ok ha.1 hb.1
            · exact okV_z
def valT (t : TermV) : Val := (t.k, t.v, t.s)
/-- What a term comes to, what is wrong, and what is left of the values. -/
def stepE (vars : List VarV) (t : TermV) (st : List Val) : Val × E6 × List Val :=
  if t.op = 0 then (valT t, .ok, st)
  else if t.op < 3 then ((namE vars t).1, (namE vars t).2, st)
  else if t.op < 6 then ((oneE t.op ((st[st.length - 1]?).getD zV)).1, .code (oneE t.op ((st[st.length - 1]?).getD zV)).2, st.take (st.length - 1))
  else ((twoE t.op ((st[st.length - 2]?).getD zV) ((st[st.length - 1]?).getD zV)).1, .code (twoE t.op ((st[st.length - 2]?).getD zV) ((st[st.length - 1]?).getD zV)).2, st.take (st.length - 2))
def E6.bad (e : E6) : Bool := e.ev.isSome
def evL (vars : List VarV) : List TermV → Int → List Val → Val × Int × E6
  | [], f, st => (st.headD zV, f, .ok)
  | t :: l, f, st => if f = 0 then (zV, 0, .code 60) else if (stepE vars t st).2.1.bad = true then (zV, f - 1, (stepE vars t st).2.1) else evL vars l (f - 1) ((stepE vars t st).2.2 ++ [(stepE vars t st).1])
def ofE6 (e : List TermV) (vars : List VarV) (fuel : Int) : Val × Int × E6 := if (wholeE e).2 ≠ 0 then (zV, max fuel 0, .code (wholeE e).2) else evL vars e (max fuel 0) []
theorem step_ok {vars : List VarV} {t : TermV} {st : List Val} (hv : ∀ x ∈ vars, okV (x.k, x.v, x.s)) (ht : okV (valT t)) (hst : ∀ a ∈ st, okV a) : okV (stepE vars t st).1 := by
  have hget : okV (getV vars t.n).1 := by
    have : ∀ (l : List VarV) (m : ByteArray), (∀ x ∈ l, okV (x.k, x.v, x.s)) → okV (getV l m).1 := by
      intro l m
      induction l with
      | nil => intro _; exact okV_z
      | cons x l ih =>
        intro h
        rw [getV]
        split
        · exact h x List.mem_cons_self
        · exact ih fun y hy => h y (List.mem_cons_of_mem _ hy)
    exact this vars t.n hv
  have hat : ∀ i : Nat, okV ((st[i]?).getD zV) := fun i => by
    cases hq : st[i]? with
    | none => exact okV_z
    | some x => exact hst x (List.mem_of_getElem? hq)
  unfold stepE
  split
  · exact ht
  · split
    · unfold namE
      split
      · exact okV_z
      · split
        · exact okV_b _
        · exact hget
    · split
      · exact oneE_ok (hat _)
      · exact twoE_ok (hat _) (hat _)
structure EvI (e : List TermV) (vars : List VarV) (RES : Val × Int × E6) (i : Nat) (f : Int) (st : List Val) (ps : List Pc) : Prop where
  iN : i ≤ e.length
  wh : (wholeL (e.drop i) ps).1 = 0 ∧ (wholeL (e.drop i) ps).2.length = 1
  ln : ps.length = st.length
  eq : evL vars (e.drop i) f st = RES
  f0 : 0 ≤ f ∧ f < 9223372036854775808
  ok : ∀ a ∈ st, okV a
  le : st.length ≤ i
theorem EvI.term {e : List TermV} {vars : List VarV} {RES : Val × Int × E6} {i : Nat} {f : Int} {st : List Val} {ps : List Pc} (g : EvI e vars RES i f st ps) {t : TermV} {l : List TermV} (hd : e.drop i = t :: l) : ownE t = 0 ∧ takesE t.op ≤ st.length := by
  have h := g.wh.1
  rw [hd, wholeL] at h
  by_cases ho : ownE t ≠ 0
  · rw [if_pos ho] at h; exact absurd h ho
  rw [if_neg ho] at h
  by_cases hk : ps.length < takesE t.op
  · rw [if_pos hk] at h; exact absurd h (by decide)
  have := g.ln
  exact ⟨by simpa using ho, by omega⟩
theorem EvI.next {e : List TermV} {vars : List VarV} {RES : Val × Int × E6} {i : Nat} {f : Int} {st : List Val} {ps : List Pc} (g : EvI e vars RES i f st ps) {t : TermV} {l : List TermV} (hd : e.drop i = t :: l) (hf : f ≠ 0) (hb : (stepE vars t st).2.1.bad = false) (hv : ∀ x ∈ vars, okV (x.k, x.v, x.s)) (ht : okV (valT t)) : ∃ ps', EvI e vars RES (i + 1) (f - 1) ((stepE vars t st).2.2 ++ [(stepE vars t st).1]) ps' := by
  obtain ⟨ho, hk⟩ := g.term hd
  obtain ⟨h1, h2, h3, h4, h5, h6, h7⟩ := g
  have hlt : i < e.length := by
    rcases Nat.lt_or_ge i e.length with h | h
    · exact h
    · rw [List.drop_of_length_le h] at hd; cases hd
  have hd2 : e.drop (i + 1) = l := by
    have := congrArg (List.drop 1) hd
    rw [List.drop_drop] at this
    simpa using this
  have hop := ownE_op ho
  have hln : (stepE vars t st).2.2.length = st.length - takesE t.op := by
    unfold stepE takesE
    by_cases o0 : t.op = 0
    · rw [if_pos o0, if_pos (by omega)]; simp
    rw [if_neg o0]
    by_cases o3 : t.op < 3
    · rw [if_pos o3, if_pos o3]; simp
    rw [if_neg o3, if_neg o3]
    by_cases o6 : t.op < 6
    · rw [if_pos o6, if_pos o6, List.length_take]; omega
    · rw [if_neg o6, if_neg o6, List.length_take]; omega
  have hmem : ∀ a ∈ (stepE vars t st).2.2, a ∈ st := by
    unfold stepE
    intro a
    split
    · exact fun h => h
    · split
      · exact fun h => h
      · split
        · exact fun h => List.mem_of_mem_take h
        · exact fun h => List.mem_of_mem_take h
  rw [hd, wholeL, if_neg (by simpa using ho), if_neg (by omega)] at h2
  rw [hd, evL, if_neg hf, if_neg (by rw [hb]; decide)] at h4
  refine ⟨_, hlt, by rw [hd2]; exact h2, ?_, by rw [hd2]; exact h4, by omega, ?_, ?_⟩
  · rw [List.length_append, List.length_append, List.length_take, hln, List.length_singleton, List.length_singleton]; omega
  · intro a ha
    rcases List.mem_append.1 ha with ha | ha
    · exact h6 a (hmem a ha)
    · rw [List.mem_singleton.1 ha]; exact step_ok hv ht h6
  · rw [List.length_append, hln, List.length_singleton]; omega
end Go.Proofs.YtjbbnollidcagaaDoor.Asl

