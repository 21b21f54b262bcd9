/- Part 28 of what the row leans on: abstract values and states, their rules, and the contracts of the functions. -/
import Derived.Test.YtjbbnollidcagaaDoorZgc27
namespace Go.Proofs.YtjbbnollidcagaaDoor.Asl
open Go Go.RowKit
set_option linter.unusedVariables false
set_option linter.unusedSimpArgs false
set_option maxRecDepth 100000
set_option maxHeartbeats 4000000
def takesE (op : Int) : Nat := if op < 3 then 0 else if op < 6 then 1 else 2
def strE (op : Int) : Int := if op < 3 ∨ op = 5 then 6 else if op < 6 then 5 else if op < 9 then 4 else if op < 11 then 3 else if op < 17 then 2 else if op < 18 then 1 else 0
def sgnE (op : Int) : ByteArray :=
  if op = 3 ∨ op = 10 then ⟨#[45]⟩ else if op = 4 then ⟨#[33]⟩ else if op = 6 then ⟨#[42]⟩ else if op = 7 then ⟨#[47]⟩ else if op = 8 then ⟨#[37]⟩ else if op = 9 then ⟨#[43]⟩ else if op = 11 then ⟨#[60]⟩ else if op = 12 then ⟨#[60, 61]⟩
  else if op = 13 then ⟨#[62]⟩ else if op = 14 then ⟨#[62, 61]⟩ else if op = 15 then ⟨#[61, 61]⟩ else if op = 16 then ⟨#[33, 61]⟩ else if op = 17 then ⟨#[38, 38]⟩ else if op = 18 then ⟨#[124, 124]⟩ else ⟨#[]⟩
theorem ops {op : Int} (h : 0 ≤ op ∧ op ≤ 18) : op = 0 ∨ op = 1 ∨ op = 2 ∨ op = 3 ∨ op = 4 ∨ op = 5 ∨ op = 6 ∨ op = 7 ∨ op = 8 ∨ op = 9 ∨ op = 10 ∨ op = 11 ∨ op = 12 ∨ op = 13 ∨ op = 14 ∨ op = 15 ∨ op = 16 ∨ op = 17 ∨ op = 18 := by omega
theorem c_takes (op : Int) (h : 0 ≤ op ∧ op ≤ 18) : CallD Tryd.prog 86 [.raw (.int .i64 op)] noHeap (.raw (.int .i64 (takesE op))) noHeap := by
  rcases ops h with rfl | rfl | rfl | rfl | rfl | rfl | rfl | rfl | rfl | rfl | rfl | rfl | rfl | rfl | rfl | rfl | rfl | rfl | rfl
  all_goals
    refine zzg (nt := 9) (rs := [.tmp 2]) Tryd.func86 ?_; intro Q hQ hW
    repeat' (first
 | (with_reducible refine run_n ?_; with_reducible first | refine hK _ _ (by simp) ?_ | refine hK _ _ ?_; clear hK K)
 | (refine zzc ?_)
 | (with_reducible refine awp_regT (by kernel_rfl) ?_; intro K hK)
 | (with_reducible refine a_cond (ht := ?_) (hf := ?_) <;> intro hb <;> (try simp at hb) <;> (try contradiction) <;> (try subst hb) <;> (try omega))
 | (with_reducible first | refine a_move (hr:=?_) | refine a_assign (hr:=?_) | refine a_bin (hr:=?_))
 | fail)
    all_goals ((refine zzr hQ ?_))
    all_goals (exact zzd)
theorem c_rtakes (op : Int) (h : 0 ≤ op ∧ op ≤ 18) : CallD Tryd.prog 45 [.raw (.int .i64 op)] noHeap (.raw (.int .i64 (takesE op))) noHeap := by
  rcases ops h with rfl | rfl | rfl | rfl | rfl | rfl | rfl | rfl | rfl | rfl | rfl | rfl | rfl | rfl | rfl | rfl | rfl | rfl | rfl
  all_goals
    refine zzg (nt := 9) (rs := [.tmp 2]) Tryd.func45 ?_; intro Q hQ hW
    repeat' (first
 | (with_reducible refine run_n ?_; with_reducible first | refine hK _ _ (by simp) ?_ | refine hK _ _ ?_; clear hK K)
 | (refine zzc ?_)
 | (with_reducible refine awp_regT (by kernel_rfl) ?_; intro K hK)
 | (with_reducible refine a_cond (ht := ?_) (hf := ?_) <;> intro hb <;> (try simp at hb) <;> (try contradiction) <;> (try subst hb) <;> (try omega))
 | (with_reducible first | refine a_move (hr:=?_) | refine a_assign (hr:=?_) | refine a_bin (hr:=?_))
 | fail)
    all_goals ((refine zzr hQ ?_))
    all_goals (exact zzd)
theorem c_strength (op : Int) (h : 0 ≤ op ∧ op ≤ 18) : CallD Tryd.prog 95 [.raw (.int .i64 op)] noHeap (.raw (.int .i64 (strE op))) noHeap := by
  rcases ops h with rfl | rfl | rfl | rfl | rfl | rfl | rfl | rfl | rfl | rfl | rfl | rfl | rfl | rfl | rfl | rfl | rfl | rfl | rfl
  all_goals
    refine zzg (nt := 39) (rs := [.tmp 2]) Tryd.func95 ?_; intro Q hQ hW
    repeat' (first
 | (with_reducible refine run_n ?_; with_reducible first | refine hK _ _ (by simp) ?_ | refine hK _ _ ?_; clear hK K)
 | (refine zzc ?_)
 | (with_reducible refine awp_regT (by kernel_rfl) ?_; intro K hK)
 | (with_reducible refine a_cond (ht := ?_) (hf := ?_) <;> intro hb <;> (try simp at hb) <;> (try contradiction) <;> (try subst hb) <;> (try omega))
 | (with_reducible first | refine a_move (hr:=?_) | refine a_assign (hr:=?_) | refine a_bin (hr:=?_) | refine a_pick (hr:=?_) | refine a_eqB (hr:=?_) | refine a_eqS (hr:=?_) | refine a_gT (hr:=?_) | refine a_gF (hr:=?_) | refine a_gU (hr:=?_))
 | (with_reducible refine a_gB (hT := ?_) (hF := ?_) <;> intro hb <;> (try simp at hb) <;> (try contradiction) <;> (try subst hb) <;> (try omega))
 | fail)
    all_goals ((refine zzr hQ ?_))
    all_goals (exact zzd)
def rstrE (op : Int) : Int := if 5 ≤ strE op then 9 else strE op
theorem c_rstrength (op : Int) (h : 0 ≤ op ∧ op ≤ 18) : CallD Tryd.prog 91 [.raw (.int .i64 op)] noHeap (.raw (.int .i64 (rstrE op))) noHeap := by
  rcases ops h with rfl | rfl | rfl | rfl | rfl | rfl | rfl | rfl | rfl | rfl | rfl | rfl | rfl | rfl | rfl | rfl | rfl | rfl | rfl
  all_goals
    refine zzg (nt := 30) (rs := [.tmp 2]) Tryd.func91 ?_; intro Q hQ hW
    repeat' (first
 | (with_reducible refine run_n ?_; with_reducible first | refine hK _ _ (by simp) ?_ | refine hK _ _ ?_; clear hK K)
 | (refine zzc ?_)
 | (with_reducible refine awp_regT (by kernel_rfl) ?_; intro K hK)
 | (with_reducible refine a_cond (ht := ?_) (hf := ?_) <;> intro hb <;> (try simp at hb) <;> (try contradiction) <;> (try subst hb) <;> (try omega))
 | (with_reducible first | refine a_move (hr:=?_) | refine a_assign (hr:=?_) | refine a_bin (hr:=?_) | refine a_pick (hr:=?_) | refine a_eqB (hr:=?_) | refine a_eqS (hr:=?_) | refine a_gT (hr:=?_) | refine a_gF (hr:=?_) | refine a_gU (hr:=?_))
 | (with_reducible refine a_gB (hT := ?_) (hF := ?_) <;> intro hb <;> (try simp at hb) <;> (try contradiction) <;> (try subst hb) <;> (try omega))
 | fail)
    all_goals ((refine zzr hQ ?_))
    all_goals (exact zzd)
theorem c_sign (op : Int) (h : 0 ≤ op ∧ op ≤ 18) : CallD Tryd.prog 98 [.raw (.int .i64 op)] noHeap (.raw (.string (sgnE op))) noHeap := by
  rcases ops h with rfl | rfl | rfl | rfl | rfl | rfl | rfl | rfl | rfl | rfl | rfl | rfl | rfl | rfl | rfl | rfl | rfl | rfl | rfl
  all_goals
    refine zzg (nt := 33) (rs := [.tmp 2]) Tryd.func98 ?_; intro Q hQ hW
    repeat' (first
 | (with_reducible refine run_n ?_; with_reducible first | refine hK _ _ (by simp) ?_ | refine hK _ _ ?_; clear hK K)
 | (refine zzc ?_)
 | (with_reducible refine awp_regT (by kernel_rfl) ?_; intro K hK)
 | (with_reducible refine a_cond (ht := ?_) (hf := ?_) <;> intro hb <;> (try simp at hb) <;> (try contradiction) <;> (try subst hb) <;> (try omega))
 | (with_reducible first | refine a_move (hr:=?_) | refine a_assign (hr:=?_) | refine a_bin (hr:=?_) | refine a_eqB (hr:=?_) | refine a_eqS (hr:=?_))
 | fail)
    all_goals ((refine zzr hQ ?_))
    all_goals (exact zzd)
theorem c_Sign (op : Int) (h : 0 ≤ op ∧ op ≤ 18) : CallD Tryd.prog 69 [.raw (.int .i64 op)] noHeap (.raw (.string (sgnE op))) noHeap := by
  rcases ops h with rfl | rfl | rfl | rfl | rfl | rfl | rfl | rfl | rfl | rfl | rfl | rfl | rfl | rfl | rfl | rfl | rfl | rfl | rfl
  all_goals
    refine zzg (nt := 17) (rs := [.tmp 2]) Tryd.func69 ?_; intro Q hQ hW
    repeat' (first
 | (with_reducible refine run_n ?_; with_reducible first | refine hK _ _ (by simp) ?_ | refine hK _ _ ?_; clear hK K)
 | (refine zzc ?_)
 | (with_reducible refine awp_regT (by kernel_rfl) ?_; intro K hK)
 | (with_reducible refine a_cond (ht := ?_) (hf := ?_) <;> intro hb <;> (try simp at hb) <;> (try contradiction) <;> (try subst hb) <;> (try omega))
 | (with_reducible first | refine a_move (hr:=?_) | refine a_assign (hr:=?_) | refine a_load (hr:=?_) | refine a_bin (hr:=?_) | refine a_lenS (hr:=?_) | refine a_lenR (hr:=?_) | refine a_pick (hr:=?_) | refine a_idxArr (hr:=?_) | refine a_indexAddr (hr:=?_) | refine a_buildSlice (hr:=?_) | refine a_gT (hr:=?_) | refine a_gF (hr:=?_) | refine a_gU (hr:=?_))
 | (with_reducible refine a_gB (hT := ?_) (hF := ?_) <;> intro hb <;> (try simp at hb) <;> (try contradiction) <;> (try subst hb) <;> (try omega))
 | fail)
    all_goals ((refine zzr hQ ?_))
    all_goals (exact zzd)
/-- A part as a text. -/
structure Pc where
  s : ByteArray
  str : Int
  deep : Int
@[simp] def pcAV (p : Pc) : AV := .agg [.raw (.string p.s), .raw (.int .i64 p.str), .raw (.int .i64 p.deep)]
instance : FlatF pcAV := ⟨fun x => by simp⟩
def heldE (p : Pc) (least : Int) : Pc := if least ≤ p.str then p else ⟨⟨#[40]⟩ ++ p.s ++ ⟨#[41]⟩, 6, p.deep + 1⟩
theorem c_held (p : Pc) (least : Int) (hs : p.s.size ≤ 1000000) (hd : -1000000 ≤ p.deep ∧ p.deep ≤ 1000000) : CallD Tryd.prog 97 [pcAV p, .raw (.int .i64 least)] noHeap (pcAV (heldE p least)) noHeap := by
  unfold heldE
  obtain ⟨s, st, d⟩ := p
  simp only at hs hd ⊢
  by_cases h : least ≤ st
  · rw [if_pos h]
    refine zzg (nt := 18) (rs := [.cell 4 120]) Tryd.func97 ?_; intro Q hQ hW
    repeat' (first
 | (with_reducible refine run_n ?_; with_reducible first | refine hK _ _ (by simp) ?_ | refine hK _ _ ?_; clear hK K)
 | (refine zzc ?_)
 | (with_reducible refine awp_regT (by kernel_rfl) ?_; intro K hK)
 | (with_reducible refine a_cond (ht := ?_) (hf := ?_) <;> intro hb <;> (try simp at hb) <;> (try contradiction) <;> (try subst hb) <;> (try omega))
 | (with_reducible first | refine a_move (hr:=?_) | refine a_load (hr:=?_) | refine a_fieldAddr (hr:=?_) | refine a_bin (hr:=?_) | refine a_store (hr:=?_) | refine a_box (hr:=?_) | refine a_alloc (hr:=?_) | refine a_build (hr:=?_))
 | fail)
    all_goals ((refine zzr hQ ?_))
    all_goals (exact zzd)
  · rw [if_neg h]
    refine zzg (nt := 18) (rs := [.cell 4 120]) Tryd.func97 ?_; intro Q hQ hW
    repeat' (first
 | (with_reducible refine run_n ?_; with_reducible first | refine hK _ _ (by simp) ?_ | refine hK _ _ ?_; clear hK K)
 | (refine zzc ?_)
 | (with_reducible refine awp_regT (by kernel_rfl) ?_; intro K hK)
 | (with_reducible refine a_cond (ht := ?_) (hf := ?_) <;> intro hb <;> (try simp at hb) <;> (try contradiction) <;> (try subst hb) <;> (try omega))
 | (with_reducible first | refine a_move (hr:=?_) | refine a_load (hr:=?_) | refine a_fieldAddr (hr:=?_) | refine a_bin (hr:=?_) | refine a_store (hr:=?_) | refine a_box (hr:=?_) | refine a_alloc (hr:=?_) | refine a_build (hr:=?_))
 | fail)
    all_goals ((refine zzr hQ ?_))
    all_goals (exact zzd)
end Go.Proofs.YtjbbnollidcagaaDoor.Asl

namespace Go.Proofs.YtjbbnollidcagaaDoor.Asl
open Go Go.RowKit
set_option linter.unusedVariables false
set_option linter.unusedSimpArgs false
set_option maxRecDepth 100000
set_option maxHeartbeats 4000000
theorem ownE_op {t : TermV} (h : ownE t = 0) : 0 ≤ t.op ∧ t.op ≤ 18 := by
  unfold ownE at h
  by_cases h1 : t.op < 0 ∨ 18 < t.op
  · rw [if_pos h1] at h; exact absurd h (by decide)
  · omega
def unE (t : TermV) (a : Pc) : Pc := if t.op = 5 then ⟨⟨#[108, 101, 110, 40]⟩ ++ a.s ++ ⟨#[41]⟩, 6, a.deep + 1⟩ else ⟨sgnE t.op ++ (heldE a (strE t.op)).s, strE t.op, (heldE a (strE t.op)).deep + 1⟩
def biE (t : TermV) (a b : Pc) : Pc := ⟨(heldE a (if strE t.op = 2 then 3 else strE t.op)).s ++ ⟨#[32]⟩ ++ sgnE t.op ++ ⟨#[32]⟩ ++ (heldE b (strE t.op + 1)).s, strE t.op, max (heldE a (if strE t.op = 2 then 3 else strE t.op)).deep (heldE b (strE t.op + 1)).deep⟩
def nulE (t : TermV) : Pc := if t.op = 0 then ⟨prtS t.k t.v t.s, 6, 0⟩ else if t.op = 1 then ⟨t.n, 6, 0⟩ else ⟨⟨#[104, 97, 115, 40]⟩ ++ t.n ++ ⟨#[41]⟩, 6, 1⟩
def joinE (t : TermV) : List Pc → Pc
  | [] => nulE t
  | [a] => unE t a
  | a :: b :: _ => biE t a b
def wfT (t : TermV) : Prop := -9223372036854775808 ≤ t.v ∧ t.v < 9223372036854775808 ∧ t.s.size ≤ 1000000 ∧ t.n.size ≤ 1000000
def wfP (p : Pc) : Prop := p.s.size ≤ 100000 ∧ 0 ≤ p.deep ∧ p.deep ≤ 1000
theorem held_wf {p : Pc} (h : wfP p) (k : Int) : (heldE p k).s.size ≤ 1000000 ∧ 0 ≤ (heldE p k).deep ∧ (heldE p k).deep ≤ 1001 := by
  obtain ⟨h1, h2, h3⟩ := h
  unfold heldE
  split
  · exact ⟨by omega, h2, by omega⟩
  · refine ⟨?_, by simp only; omega, by simp only; omega⟩
    simp only [ByteArray.size_append]
    have e1 : (⟨#[40]⟩ : ByteArray).size = 1 := rfl
    have e2 : (⟨#[41]⟩ : ByteArray).size = 1 := rfl
    omega
theorem sgn_size {op : Int} (h : 0 ≤ op ∧ op ≤ 18) : (sgnE op).size ≤ 2 := by
  rcases ops h with rfl | rfl | rfl | rfl | rfl | rfl | rfl | rfl | rfl | rfl | rfl | rfl | rfl | rfl | rfl | rfl | rfl | rfl | rfl <;> decide
theorem c_join (t : TermV) (l : List Pc) (ho : ownE t = 0) (hl : l.length = takesE t.op) (ht : wfT t) (hp : ∀ p ∈ l, wfP p) : CallD Tryd.prog 87 [termAV t, .sl 3 (l.map pcAV)] noHeap (pcAV (joinE t l)) noHeap := by
  have hop := ownE_op ho
  clear ho
  obtain ⟨op, k, v, s, n⟩ := t
  obtain ⟨t1, t2, t3, t4⟩ := ht
  simp only at hop hl t1 t2 t3 t4
  have q1 := c_strength op hop
  have q2 := c_Print k v s ⟨t1, t2⟩ t3
  have q3 := c_takes op hop
  have q4 := c_sign op hop
  have hsg := sgn_size hop
  rcases l with _ | ⟨a, _ | ⟨b, _ | ⟨c, l⟩⟩⟩
  · have hop2 : op < 3 := by
      unfold takesE at hl
      split at hl
      · assumption
      · split at hl <;> cases hl
    simp only [joinE, nulE]
    by_cases h0 : op = 0
    · subst h0
      rw [if_pos rfl]
      refine zzg (nt := 108) (rs := [.cell 4 120]) Tryd.func87 ?_; intro Q hQ hW
      repeat' (first
 | (with_reducible refine run_n ?_; with_reducible first | refine hK _ _ (by simp) ?_ | refine hK _ _ ?_; clear hK K)
 | (refine zzc ?_)
 | (with_reducible refine awp_regT (by kernel_rfl) ?_; intro K hK)
 | (with_reducible refine awp_regAM (id := 9) [(4, some 4)] mixed (by kernel_rfl) (by kernel_rfl) ?_; intro K hK)
 | (with_reducible refine awp_regAM (id := 12) [(4, some 4), (63, some 2), (66, some 6), (70, some 6)] mixed (by kernel_rfl) (by kernel_rfl) ?_; intro K hK)
 | (with_reducible refine awp_regAM (id := 16) [(8, some 8), (9, some 9)] mixed (by kernel_rfl) (by kernel_rfl) ?_; intro K hK)
 | (with_reducible refine awp_regAM (id := 17) [(4, some 4), (90, some 8), (93, some 2), (98, some 9), (102, some 8), (104, some 9)] mixed (by kernel_rfl) (by kernel_rfl) ?_; intro K hK)
 | (with_reducible refine a_cond (ht := ?_) (hf := ?_) <;> intro hb <;> (try simp at hb) <;> (try contradiction) <;> (try subst hb) <;> (try omega))
 | (with_reducible first | refine a_move (hr:=?_) | refine a_assign (hr:=?_) | refine a_load (hr:=?_) | refine a_fieldAddr (hr:=?_) | refine a_bin (hr:=?_) | refine a_store (hr:=?_) | refine a_box (hr:=?_) | refine a_alloc (hr:=?_) | refine a_eqB (hr:=?_) | refine a_idxArr (hr:=?_) | refine a_eqS (hr:=?_) | refine a_indexAddr (hr:=?_) | refine a_build (hr:=?_) | refine a_maxC (hr:=?_) | refine a_call0 (hcall := q1) (hr:=?_) | refine a_call0 (hcall := q2) (hr:=?_) | refine a_call0 (hcall := q3) (hr:=?_) | refine a_call0 (hcall := q4) (hr:=?_))
 | fail)
      all_goals ((refine zzr hQ ?_))
      all_goals (exact zzd)
    rw [if_neg h0]
    by_cases h1 : op = 1
    · subst h1
      rw [if_pos rfl]
      refine zzg (nt := 108) (rs := [.cell 4 120]) Tryd.func87 ?_; intro Q hQ hW
      repeat' (first
 | (with_reducible refine run_n ?_; with_reducible first | refine hK _ _ (by simp) ?_ | refine hK _ _ ?_; clear hK K)
 | (refine zzc ?_)
 | (with_reducible refine awp_regT (by kernel_rfl) ?_; intro K hK)
 | (with_reducible refine awp_regAM (id := 9) [(4, some 4)] mixed (by kernel_rfl) (by kernel_rfl) ?_; intro K hK)
 | (with_reducible refine awp_regAM (id := 12) [(4, some 4), (63, some 2), (66, some 6), (70, some 6)] mixed (by kernel_rfl) (by kernel_rfl) ?_; intro K hK)
 | (with_reducible refine awp_regAM (id := 16) [(8, some 8), (9, some 9)] mixed (by kernel_rfl) (by kernel_rfl) ?_; intro K hK)
 | (with_reducible refine awp_regAM (id := 17) [(4, some 4), (90, some 8), (93, some 2), (98, some 9), (102, some 8), (104, some 9)] mixed (by kernel_rfl) (by kernel_rfl) ?_; intro K hK)
 | (with_reducible refine a_cond (ht := ?_) (hf := ?_) <;> intro hb <;> (try simp at hb) <;> (try contradiction) <;> (try subst hb) <;> (try omega))
 | (with_reducible first | refine a_move (hr:=?_) | refine a_assign (hr:=?_) | refine a_load (hr:=?_) | refine a_fieldAddr (hr:=?_) | refine a_bin (hr:=?_) | refine a_store (hr:=?_) | refine a_box (hr:=?_) | refine a_alloc (hr:=?_) | refine a_eqB (hr:=?_) | refine a_idxArr (hr:=?_) | refine a_eqS (hr:=?_) | refine a_indexAddr (hr:=?_) | refine a_build (hr:=?_) | refine a_maxC (hr:=?_) | refine a_call0 (hcall := q1) (hr:=?_) | refine a_call0 (hcall := q2) (hr:=?_) | refine a_call0 (hcall := q3) (hr:=?_) | refine a_call0 (hcall := q4) (hr:=?_))
 | fail)
      all_goals ((refine zzr hQ ?_))
      all_goals (exact zzd)
    rw [if_neg h1]
    obtain rfl : op = 2 := by omega
    refine zzg (nt := 108) (rs := [.cell 4 120]) Tryd.func87 ?_; intro Q hQ hW
    repeat' (first
 | (with_reducible refine run_n ?_; with_reducible first | refine hK _ _ (by simp) ?_ | refine hK _ _ ?_; clear hK K)
 | (refine zzc ?_)
 | (with_reducible refine awp_regT (by kernel_rfl) ?_; intro K hK)
 | (with_reducible refine awp_regAM (id := 9) [(4, some 4)] mixed (by kernel_rfl) (by kernel_rfl) ?_; intro K hK)
 | (with_reducible refine awp_regAM (id := 12) [(4, some 4), (63, some 2), (66, some 6), (70, some 6)] mixed (by kernel_rfl) (by kernel_rfl) ?_; intro K hK)
 | (with_reducible refine awp_regAM (id := 16) [(8, some 8), (9, some 9)] mixed (by kernel_rfl) (by kernel_rfl) ?_; intro K hK)
 | (with_reducible refine awp_regAM (id := 17) [(4, some 4), (90, some 8), (93, some 2), (98, some 9), (102, some 8), (104, some 9)] mixed (by kernel_rfl) (by kernel_rfl) ?_; intro K hK)
 | (with_reducible refine a_cond (ht := ?_) (hf := ?_) <;> intro hb <;> (try simp at hb) <;> (try contradiction) <;> (try subst hb) <;> (try omega))
 | (with_reducible first | refine a_move (hr:=?_) | refine a_assign (hr:=?_) | refine a_load (hr:=?_) | refine a_fieldAddr (hr:=?_) | refine a_bin (hr:=?_) | refine a_store (hr:=?_) | refine a_box (hr:=?_) | refine a_alloc (hr:=?_) | refine a_eqB (hr:=?_) | refine a_idxArr (hr:=?_) | refine a_eqS (hr:=?_) | refine a_indexAddr (hr:=?_) | refine a_build (hr:=?_) | refine a_maxC (hr:=?_) | refine a_call0 (hcall := q1) (hr:=?_) | refine a_call0 (hcall := q2) (hr:=?_) | refine a_call0 (hcall := q3) (hr:=?_) | refine a_call0 (hcall := q4) (hr:=?_))
 | fail)
    all_goals ((refine zzr hQ ?_))
    all_goals (exact zzd)
  · have hop2 : 3 ≤ op ∧ op < 6 := by
      unfold takesE at hl
      split at hl
      · cases hl
      · split at hl
        · omega
        · cases hl
    have hpa := hp a (by simp)
    have w1 := held_wf hpa (strE op)
    have q5 := c_held a (strE op) (by have := hpa.1; omega) (by have := hpa.2; omega)
    rw [show (takesE op : Nat) = 1 from hl.symm] at q3
    simp only [joinE, unE]
    obtain ⟨h1, h2, h3⟩ := hpa
    obtain ⟨xa, xastr, xad⟩ := a
    simp only at h1 h2 h3
    generalize heldE ⟨xa, xastr, xad⟩ (strE op) = y at q5 w1 ⊢
    obtain ⟨ys, yst, yd⟩ := y
    simp only at w1
    clear hl hp
    by_cases h5 : op = 5
    · subst h5
      rw [if_pos rfl]
      refine zzg (nt := 108) (rs := [.cell 4 120]) Tryd.func87 ?_; intro Q hQ hW
      repeat' (first
 | (with_reducible refine run_n ?_; with_reducible first | refine hK _ _ (by simp) ?_ | refine hK _ _ ?_; clear hK K)
 | (refine zzc ?_)
 | (with_reducible refine awp_regT (by kernel_rfl) ?_; intro K hK)
 | (with_reducible refine awp_regAM (id := 9) [(4, some 4)] mixed (by kernel_rfl) (by kernel_rfl) ?_; intro K hK)
 | (with_reducible refine awp_regAM (id := 12) [(4, some 4), (63, some 2), (66, some 6), (70, some 6)] mixed (by kernel_rfl) (by kernel_rfl) ?_; intro K hK)
 | (with_reducible refine awp_regAM (id := 16) [(8, some 8), (9, some 9)] mixed (by kernel_rfl) (by kernel_rfl) ?_; intro K hK)
 | (with_reducible refine awp_regAM (id := 17) [(4, some 4), (90, some 8), (93, some 2), (98, some 9), (102, some 8), (104, some 9)] mixed (by kernel_rfl) (by kernel_rfl) ?_; intro K hK)
 | (with_reducible refine a_cond (ht := ?_) (hf := ?_) <;> intro hb <;> (try simp at hb) <;> (try contradiction) <;> (try subst hb) <;> (try omega))
 | (with_reducible first | refine a_move (hr:=?_) | refine a_assign (hr:=?_) | refine a_load (hr:=?_) | refine a_fieldAddr (hr:=?_) | refine a_bin (hr:=?_) | refine a_store (hr:=?_) | refine a_box (hr:=?_) | refine a_alloc (hr:=?_) | refine a_eqB (hr:=?_) | refine a_idxArr (hr:=?_) | refine a_eqS (hr:=?_) | refine a_indexAddr (hr:=?_) | refine a_build (hr:=?_) | refine a_maxC (hr:=?_) | refine a_call0 (hcall := q1) (hr:=?_) | refine a_call0 (hcall := q2) (hr:=?_) | refine a_call0 (hcall := q3) (hr:=?_) | refine a_call0 (hcall := q4) (hr:=?_))
 | fail)
      all_goals ((refine zzr hQ ?_))
      all_goals (exact zzd)
    · rw [if_neg h5]
      generalize strE op = st at q1 q5 ⊢
      generalize sgnE op = sg at q4 hsg ⊢
      refine zzg (nt := 108) (rs := [.cell 4 120]) Tryd.func87 ?_; intro Q hQ hW
      repeat' (first
 | (with_reducible refine run_n ?_; with_reducible first | refine hK _ _ (by simp) ?_ | refine hK _ _ ?_; clear hK K)
 | (refine zzc ?_)
 | (with_reducible refine awp_regT (by kernel_rfl) ?_; intro K hK)
 | (with_reducible refine awp_regAM (id := 9) [(4, some 4)] mixed (by kernel_rfl) (by kernel_rfl) ?_; intro K hK)
 | (with_reducible refine awp_regAM (id := 12) [(4, some 4), (63, some 2), (66, some 6), (70, some 6)] mixed (by kernel_rfl) (by kernel_rfl) ?_; intro K hK)
 | (with_reducible refine awp_regAM (id := 16) [(8, some 8), (9, some 9)] mixed (by kernel_rfl) (by kernel_rfl) ?_; intro K hK)
 | (with_reducible refine awp_regAM (id := 17) [(4, some 4), (90, some 8), (93, some 2), (98, some 9), (102, some 8), (104, some 9)] mixed (by kernel_rfl) (by kernel_rfl) ?_; intro K hK)
 | (with_reducible refine a_cond (ht := ?_) (hf := ?_) <;> intro hb <;> (try simp at hb) <;> (try contradiction) <;> (try subst hb) <;> (try omega))
 | (with_reducible first | refine a_move (hr:=?_) | refine a_assign (hr:=?_) | refine a_load (hr:=?_) | refine a_fieldAddr (hr:=?_) | refine a_bin (hr:=?_) | refine a_store (hr:=?_) | refine a_box (hr:=?_) | refine a_alloc (hr:=?_) | refine a_eqB (hr:=?_) | refine a_idxArr (hr:=?_) | refine a_eqS (hr:=?_) | refine a_indexAddr (hr:=?_) | refine a_build (hr:=?_) | refine a_maxC (hr:=?_) | refine a_call0 (hcall := q1) (hr:=?_) | refine a_call0 (hcall := q2) (hr:=?_) | refine a_call0 (hcall := q3) (hr:=?_) | refine a_call0 (hcall := q4) (hr:=?_) | refine a_call0 (hcall := q5) (hr:=?_))
 | fail)
      all_goals ((refine zzr hQ ?_))
      all_goals (exact zzd)
  · have hop2 : 6 ≤ op := by
      unfold takesE at hl
      split at hl
      · cases hl
      · split at hl
        · cases hl
        · omega
    have hpa := hp a (by simp)
    have hpb := hp b (by simp)
    have w1 := held_wf hpa (if strE op = 2 then 3 else strE op)
    have w2 := held_wf hpb (strE op + 1)
    have q5 := c_held a (if strE op = 2 then 3 else strE op) (by have := hpa.1; omega) (by have := hpa.2; omega)
    have q6 := c_held b (strE op + 1) (by have := hpb.1; omega) (by have := hpb.2; omega)
    rw [show (takesE op : Nat) = 2 from hl.symm] at q3
    have hst : 0 ≤ strE op ∧ strE op ≤ 4 := by rcases ops hop with rfl | rfl | rfl | rfl | rfl | rfl | rfl | rfl | rfl | rfl | rfl | rfl | rfl | rfl | rfl | rfl | rfl | rfl | rfl <;> first | (exfalso; omega) | decide
    simp only [joinE, biE]
    obtain ⟨xa, xastr, xad⟩ := a
    obtain ⟨xb, xbstr, xbd⟩ := b
    clear hl hp hpa hpb
    generalize strE op = st at q1 q5 q6 w1 w2 hst ⊢
    generalize sgnE op = sg at q4 hsg ⊢
    by_cases h2 : st = 2
    · subst h2
      simp only [if_true] at q5 w1 ⊢
      generalize heldE ⟨xa, xastr, xad⟩ 3 = y at q5 w1 ⊢
      generalize heldE ⟨xb, xbstr, xbd⟩ (2 + 1) = z at q6 w2 ⊢
      obtain ⟨ys, yst, yd⟩ := y
      obtain ⟨zs, zst, zd⟩ := z
      simp only at w1 w2 ⊢
      refine zzg (nt := 108) (rs := [.cell 4 120]) Tryd.func87 ?_; intro Q hQ hW
      repeat' (first
 | (with_reducible refine run_n ?_; with_reducible first | refine hK _ _ (by simp) ?_ | refine hK _ _ ?_; clear hK K)
 | (refine zzc ?_)
 | (with_reducible refine awp_regT (by kernel_rfl) ?_; intro K hK)
 | (with_reducible refine awp_regCM (id := 9) [(4, some 4)] [(4, some 4), (43, none), (49, none)] mixed (by kernel_rfl) (by kernel_rfl) (by kernel_rfl) ?_; intro K hK)
 | (with_reducible refine awp_regCM (id := 12) [(4, some 4), (63, some 2), (66, some 6), (70, some 6)] [(4, some 4), (63, some 2), (64, none), (66, some 6), (70, some 6)] mixed (by kernel_rfl) (by kernel_rfl) (by kernel_rfl) ?_; intro K hK)
 | (with_reducible refine awp_regCM (id := 16) [(8, some 8), (9, some 9)] [(8, some 8), (9, some 9), (80, none), (81, none), (82, none), (85, none), (86, none), (88, none)] mixed (by kernel_rfl) (by kernel_rfl) (by kernel_rfl) ?_; intro K hK)
 | (with_reducible refine awp_regCM (id := 17) [(4, some 4), (90, some 8), (93, some 2), (98, some 9), (102, some 8), (104, some 9)] [(4, some 4), (90, some 8), (93, some 2), (94, none), (98, some 9), (102, some 8), (103, none), (104, some 9), (105, none)] mixed (by kernel_rfl) (by kernel_rfl) (by kernel_rfl) ?_; intro K hK)
 | (with_reducible refine a_cond (ht := ?_) (hf := ?_) <;> intro hb <;> (try simp at hb) <;> (try contradiction) <;> (try subst hb) <;> (try omega))
 | (with_reducible first | refine a_move (hr:=?_) | refine a_assign (hr:=?_) | refine a_load (hr:=?_) | refine a_fieldAddr (hr:=?_) | refine a_bin (hr:=?_) | refine a_store (hr:=?_) | refine a_box (hr:=?_) | refine a_alloc (hr:=?_) | refine a_eqB (hr:=?_) | refine a_idxArr (hr:=?_) | refine a_eqS (hr:=?_) | refine a_indexAddr (hr:=?_) | refine a_build (hr:=?_) | refine a_maxC (hr:=?_) | refine a_call0 (hcall := q1) (hr:=?_) | refine a_call0 (hcall := q2) (hr:=?_) | refine a_call0 (hcall := q3) (hr:=?_) | refine a_call0 (hcall := q4) (hr:=?_) | refine a_call0 (hcall := q5) (hr:=?_) | refine a_call0 (hcall := q6) (hr:=?_))
 | fail)
      all_goals ((refine zzr hQ ?_))
      all_goals (exact zzd)
    · simp only [if_neg h2] at q5 w1 ⊢
      generalize heldE ⟨xa, xastr, xad⟩ st = y at q5 w1 ⊢
      generalize heldE ⟨xb, xbstr, xbd⟩ (st + 1) = z at q6 w2 ⊢
      obtain ⟨ys, yst, yd⟩ := y
      obtain ⟨zs, zst, zd⟩ := z
      simp only at w1 w2 ⊢
      refine zzg (nt := 108) (rs := [.cell 4 120]) Tryd.func87 ?_; intro Q hQ hW
      repeat' (first
 | (with_reducible refine run_n ?_; with_reducible first | refine hK _ _ (by simp) ?_ | refine hK _ _ ?_; clear hK K)
 | (refine zzc ?_)
 | (with_reducible refine awp_regT (by kernel_rfl) ?_; intro K hK)
 | (with_reducible refine awp_regCM (id := 9) [(4, some 4)] [(4, some 4), (43, none), (49, none)] mixed (by kernel_rfl) (by kernel_rfl) (by kernel_rfl) ?_; intro K hK)
 | (with_reducible refine awp_regCM (id := 12) [(4, some 4), (63, some 2), (66, some 6), (70, some 6)] [(4, some 4), (63, some 2), (64, none), (66, some 6), (70, some 6)] mixed (by kernel_rfl) (by kernel_rfl) (by kernel_rfl) ?_; intro K hK)
 | (with_reducible refine awp_regCM (id := 16) [(8, some 8), (9, some 9)] [(8, some 8), (9, some 9), (80, none), (81, none), (82, none), (85, none), (86, none), (88, none)] mixed (by kernel_rfl) (by kernel_rfl) (by kernel_rfl) ?_; intro K hK)
 | (with_reducible refine awp_regCM (id := 17) [(4, some 4), (90, some 8), (93, some 2), (98, some 9), (102, some 8), (104, some 9)] [(4, some 4), (90, some 8), (93, some 2), (94, none), (98, some 9), (102, some 8), (103, none), (104, some 9), (105, none)] mixed (by kernel_rfl) (by kernel_rfl) (by kernel_rfl) ?_; intro K hK)
 | (with_reducible refine a_cond (ht := ?_) (hf := ?_) <;> intro hb <;> (try simp at hb) <;> (try contradiction) <;> (try subst hb) <;> (try omega))
 | (with_reducible first | refine a_move (hr:=?_) | refine a_assign (hr:=?_) | refine a_load (hr:=?_) | refine a_fieldAddr (hr:=?_) | refine a_bin (hr:=?_) | refine a_store (hr:=?_) | refine a_box (hr:=?_) | refine a_alloc (hr:=?_) | refine a_eqB (hr:=?_) | refine a_idxArr (hr:=?_) | refine a_eqS (hr:=?_) | refine a_indexAddr (hr:=?_) | refine a_build (hr:=?_) | refine a_maxC (hr:=?_) | refine a_call0 (hcall := q1) (hr:=?_) | refine a_call0 (hcall := q2) (hr:=?_) | refine a_call0 (hcall := q3) (hr:=?_) | refine a_call0 (hcall := q4) (hr:=?_) | refine a_call0 (hcall := q5) (hr:=?_) | refine a_call0 (hcall := q6) (hr:=?_))
 | fail)
      all_goals ((refine zzr hQ ?_))
      all_goals (exact zzd)
  · exfalso
    simp only [List.length_cons] at hl
    unfold takesE at hl
    split at hl
    · omega
    · split at hl <;> omega
end Go.Proofs.YtjbbnollidcagaaDoor.Asl

