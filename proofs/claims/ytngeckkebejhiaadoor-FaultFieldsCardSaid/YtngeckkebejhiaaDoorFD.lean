/- Chapter 2: how errors are made; the examples. -/
import Derived.Test.YtngeckkebejhiaaDoorFC
namespace Go.Proofs.YtngeckkebejhiaaDoor.Asl
open Go Go.RowKit
open Go.Proofs.YtngeckkebejhiaaDoor.Errs (EV)
set_option linter.unusedVariables false
set_option linter.unusedSimpArgs false
set_option maxRecDepth 100000
set_option maxHeartbeats 4000000
structure Mk where
  asks : Bool
  lo : ByteArray
  hi : ByteArray
  c : Int
  ps : List ByteArray
abbrev Mk.av (m : Mk) : AV := .agg [.raw (.bool m.asks), .raw (.string m.lo), .raw (.string m.hi), .raw (.int .i32 m.c), .sl 1 (strs m.ps)]
def wrapsE (b : Option EV) : List ByteArray → Option EV
  | [] => b
  | p :: l => (wrapsE b l).map (.wrap p)
def Mk.base (m : Mk) : Option EV := if m.asks then some (.need m.lo m.hi) else ofE m.c
def Mk.ev (m : Mk) : Option EV := wrapsE m.base m.ps
def Mk.ok (m : Mk) : Prop := -2147483648 ≤ m.c ∧ m.c ≤ 2147483647 ∧ m.ps.length ≤ 140737488351232
theorem c_make (m : Mk) (hm : m.ok) : CallD Tryd.prog 10 [m.av] noHeap (errO m.ev) noHeap := by
  obtain ⟨asks, lo, hi, c, ps⟩ := m
  obtain ⟨h1, h2, h3⟩ := hm
  simp only at h1 h2 h3
  have o1 := c_FOf c
  have o2 := c_FAsk lo hi
  obtain ⟨b, hb⟩ : ∃ b, b = Mk.base ⟨asks, lo, hi, c, ps⟩ := ⟨_, rfl⟩
  simp only [Mk.ev, ← hb]
  have key : ∀ (Q : Exit → St → Prop) (h : Hp), True := fun _ _ => trivial
  cases asks with
  | true =>
    simp only [Mk.base, if_true] at hb
    subst hb
    refine calls_go (nt := 36) (rs := [.tmp 2]) Tryd.func10 rfl rfl rfl (by simp) (by intro id h; simp at h <;> omega) ?_; intro Q hQ hW
    repeat' (first
    | (with_reducible refine run_n ?_; with_reducible first | refine hK _ _ (by simp) ?_ | refine hK _ _ ?_; clear hK K)
    | (refine zzc ?_)
    | (with_reducible refine awp_regT (by kernel_rfl) ?_; intro K hK)
    | (with_reducible refine a_cond (ht := ?_) (hf := ?_) <;> intro hb <;> (try simp at hb) <;> (try contradiction) <;> (try subst hb) <;> (try omega))
    | (with_reducible first | refine a_move (hr:=?_) | refine a_assign (hr:=?_) | refine a_load (hr:=?_) | refine a_fieldAddr (hr:=?_) | refine a_bin (hr:=?_) | refine a_lenS (hr:=?_) | refine a_lenR (hr:=?_) | refine a_box (hr:=?_) | refine a_eqI (hr:=?_) | refine a_neI (hr:=?_) | refine a_conv (hr:=?_) | refine a_bytesStr (hr:=?_) | refine a_strBytes (hr:=?_) | refine a_sameSl (hr:=?_) | refine a_idxArr (hr:=?_) | refine a_indexAddr (hr:=?_) | refine a_call0 (hcall := o1) (hr:=?_) | refine a_call0 (hcall := o2) (hr:=?_))
    | fail)
    refine awp_inv (α := Nat) (fun i => [(1, .ptr 1 0), (3, errO (wrapsE (some (.need lo hi)) (ps.drop (ps.length - i)))), (18, .raw (.int .i64 ps.length)), (19, .raw (.int .i64 i))]) (fun _ => hpL [(1, .box (Mk.av ⟨true, lo, hi, c, ps⟩))]) (fun i => i ≤ ps.length) (fun i => ps.length - i) 0 (by simp) (by simp only [Nat.sub_zero, List.drop_length, wrapsE, errO_some]; exact zzw) ?_
    intro i g1
    rcases Nat.lt_or_ge i ps.length with hlt | hge
    · have hlt2 : ps.length - 1 - i < ps.length := by omega
      have hx0 := List.getElem?_eq_getElem hlt2
      have hd := List.drop_eq_getElem_cons hlt2
      generalize ps[ps.length - 1 - i] = p at hx0 hd
      have hx := hx0
      rw [show ps.length - 1 - i + 1 = ps.length - i by omega, show ps.length - 1 - i = ps.length - (i + 1) by omega] at hd
      have hw : wrapsE (some (.need lo hi)) (ps.drop (ps.length - (i + 1))) = (wrapsE (some (.need lo hi)) (ps.drop (ps.length - i))).map (.wrap p) := by rw [hd]; rfl
      generalize wrapsE (some (.need lo hi)) (ps.drop (ps.length - i)) = e at hw ⊢
      have o3 := c_FWrap p e
      repeat' (first
    | (with_reducible refine run_n ?_; with_reducible first | refine hK _ _ (by simp) ?_ | refine hK _ _ ?_; clear hK K)
    | (refine zzc ?_)
    | (with_reducible refine awp_regT (by kernel_rfl) ?_; intro K hK)
    | (with_reducible refine a_cond (ht := ?_) (hf := ?_) <;> intro hb <;> (try simp at hb) <;> (try contradiction) <;> (try subst hb) <;> (try omega))
    | (with_reducible first | refine a_move (hr:=?_) | refine a_assign (hr:=?_) | refine a_load (hr:=?_) | refine a_fieldAddr (hr:=?_) | refine a_bin (hr:=?_) | refine a_lenS (hr:=?_) | refine a_lenR (hr:=?_) | refine a_box (hr:=?_) | refine a_eqI (hr:=?_) | refine a_neI (hr:=?_) | refine a_conv (hr:=?_) | refine a_bytesStr (hr:=?_) | refine a_strBytes (hr:=?_) | refine a_sameSl (hr:=?_) | refine a_idxArr (hr:=?_) | refine a_indexAddr (hr:=?_) | refine a_callF (hcall := o3) (hr:=?_))
    | fail)
      exact ⟨i + 1, by omega, by omega, by rw [hw]; exact zzw⟩
    · obtain rfl : i = ps.length := by omega
      rw [Nat.sub_self, List.drop_zero]
      repeat' (first
    | (with_reducible refine run_n ?_; with_reducible first | refine hK _ _ (by simp) ?_ | refine hK _ _ ?_; clear hK K)
    | (refine zzc ?_)
    | (with_reducible refine awp_regT (by kernel_rfl) ?_; intro K hK)
    | (with_reducible refine a_cond (ht := ?_) (hf := ?_) <;> intro hb <;> (try simp at hb) <;> (try contradiction) <;> (try subst hb) <;> (try omega))
    | (with_reducible first | refine a_move (hr:=?_) | refine a_assign (hr:=?_) | refine a_load (hr:=?_) | refine a_fieldAddr (hr:=?_) | refine a_bin (hr:=?_) | refine a_lenS (hr:=?_) | refine a_lenR (hr:=?_) | refine a_box (hr:=?_) | refine a_eqI (hr:=?_) | refine a_neI (hr:=?_) | refine a_conv (hr:=?_) | refine a_bytesStr (hr:=?_) | refine a_strBytes (hr:=?_) | refine a_sameSl (hr:=?_) | refine a_idxArr (hr:=?_) | refine a_indexAddr (hr:=?_))
    | fail)
      (refine zzr hQ ?_)
      exact Fin.drop (by simp; exact .r) (by simp)
  | false =>
    have hb : b = ofE c := by rw [hb]; rfl
    clear key
    rw [← hb] at o1
    clear hb
    refine calls_go (nt := 36) (rs := [.tmp 2]) Tryd.func10 rfl rfl rfl (by simp) (by intro id h; simp at h <;> omega) ?_; intro Q hQ hW
    repeat' (first
    | (with_reducible refine run_n ?_; with_reducible first | refine hK _ _ (by simp) ?_ | refine hK _ _ ?_; clear hK K)
    | (refine zzc ?_)
    | (with_reducible refine awp_regT (by kernel_rfl) ?_; intro K hK)
    | (with_reducible refine a_cond (ht := ?_) (hf := ?_) <;> intro hb <;> (try simp at hb) <;> (try contradiction) <;> (try subst hb) <;> (try omega))
    | (with_reducible first | refine a_move (hr:=?_) | refine a_assign (hr:=?_) | refine a_load (hr:=?_) | refine a_fieldAddr (hr:=?_) | refine a_bin (hr:=?_) | refine a_lenS (hr:=?_) | refine a_lenR (hr:=?_) | refine a_box (hr:=?_) | refine a_eqI (hr:=?_) | refine a_neI (hr:=?_) | refine a_conv (hr:=?_) | refine a_bytesStr (hr:=?_) | refine a_strBytes (hr:=?_) | refine a_sameSl (hr:=?_) | refine a_idxArr (hr:=?_) | refine a_indexAddr (hr:=?_) | refine a_call0 (hcall := o1) (hr:=?_) | refine a_call0 (hcall := o2) (hr:=?_))
    | fail)
    refine awp_inv (α := Nat) (fun i => [(1, .ptr 1 0), (3, errO (wrapsE b (ps.drop (ps.length - i)))), (18, .raw (.int .i64 ps.length)), (19, .raw (.int .i64 i))]) (fun _ => hpL [(1, .box (Mk.av ⟨false, lo, hi, c, ps⟩))]) (fun i => i ≤ ps.length) (fun i => ps.length - i) 0 (by simp) (by simp only [Nat.sub_zero, List.drop_length, wrapsE]; exact zzw) ?_
    intro i g1
    rcases Nat.lt_or_ge i ps.length with hlt | hge
    · have hlt2 : ps.length - 1 - i < ps.length := by omega
      have hx0 := List.getElem?_eq_getElem hlt2
      have hd := List.drop_eq_getElem_cons hlt2
      generalize ps[ps.length - 1 - i] = p at hx0 hd
      have hx := hx0
      rw [show ps.length - 1 - i + 1 = ps.length - i by omega, show ps.length - 1 - i = ps.length - (i + 1) by omega] at hd
      have hw : wrapsE b (ps.drop (ps.length - (i + 1))) = (wrapsE b (ps.drop (ps.length - i))).map (.wrap p) := by rw [hd]; rfl
      generalize wrapsE b (ps.drop (ps.length - i)) = e at hw ⊢
      have o3 := c_FWrap p e
      repeat' (first
    | (with_reducible refine run_n ?_; with_reducible first | refine hK _ _ (by simp) ?_ | refine hK _ _ ?_; clear hK K)
    | (refine zzc ?_)
    | (with_reducible refine awp_regT (by kernel_rfl) ?_; intro K hK)
    | (with_reducible refine a_cond (ht := ?_) (hf := ?_) <;> intro hb <;> (try simp at hb) <;> (try contradiction) <;> (try subst hb) <;> (try omega))
    | (with_reducible first | refine a_move (hr:=?_) | refine a_assign (hr:=?_) | refine a_load (hr:=?_) | refine a_fieldAddr (hr:=?_) | refine a_bin (hr:=?_) | refine a_lenS (hr:=?_) | refine a_lenR (hr:=?_) | refine a_box (hr:=?_) | refine a_eqI (hr:=?_) | refine a_neI (hr:=?_) | refine a_conv (hr:=?_) | refine a_bytesStr (hr:=?_) | refine a_strBytes (hr:=?_) | refine a_sameSl (hr:=?_) | refine a_idxArr (hr:=?_) | refine a_indexAddr (hr:=?_) | refine a_callF (hcall := o3) (hr:=?_))
    | fail)
      exact ⟨i + 1, by omega, by omega, by rw [hw]; exact zzw⟩
    · obtain rfl : i = ps.length := by omega
      rw [Nat.sub_self, List.drop_zero]
      repeat' (first
    | (with_reducible refine run_n ?_; with_reducible first | refine hK _ _ (by simp) ?_ | refine hK _ _ ?_; clear hK K)
    | (refine zzc ?_)
    | (with_reducible refine awp_regT (by kernel_rfl) ?_; intro K hK)
    | (with_reducible refine a_cond (ht := ?_) (hf := ?_) <;> intro hb <;> (try simp at hb) <;> (try contradiction) <;> (try subst hb) <;> (try omega))
    | (with_reducible first | refine a_move (hr:=?_) | refine a_assign (hr:=?_) | refine a_load (hr:=?_) | refine a_fieldAddr (hr:=?_) | refine a_bin (hr:=?_) | refine a_lenS (hr:=?_) | refine a_lenR (hr:=?_) | refine a_box (hr:=?_) | refine a_eqI (hr:=?_) | refine a_neI (hr:=?_) | refine a_conv (hr:=?_) | refine a_bytesStr (hr:=?_) | refine a_strBytes (hr:=?_) | refine a_sameSl (hr:=?_) | refine a_idxArr (hr:=?_) | refine a_indexAddr (hr:=?_))
    | fail)
      (refine zzr hQ ?_)
      exact Fin.drop (by simp; exact .r) (by simp)
def Mk.few (m : Mk) : Bool := m.ps.all (fun p => decide (p.size ≤ 100)) && decide (m.ps.length ≤ 50)
theorem c_mfew (m : Mk) (hm : m.ok) : CallD Tryd.prog 9 [m.av] noHeap (.raw (.bool m.few)) noHeap := by
  obtain ⟨asks, lo, hi, c, ps⟩ := m
  obtain ⟨h1, h2, h3⟩ := hm
  simp only [Mk.few] at h1 h2 h3 ⊢
  refine calls_go (nt := 20) (rs := [.tmp 2]) Tryd.func9 rfl rfl rfl (by simp) (by intro id h; simp at h <;> omega) ?_; intro Q hQ hW
  repeat' (first
    | (with_reducible refine run_n ?_; with_reducible first | refine hK _ _ (by simp) ?_ | refine hK _ _ ?_; clear hK K)
    | (refine zzc ?_)
    | (with_reducible refine awp_regT (by kernel_rfl) ?_; intro K hK)
    | (with_reducible refine a_cond (ht := ?_) (hf := ?_) <;> intro hb <;> (try simp at hb) <;> (try contradiction) <;> (try subst hb) <;> (try omega))
    | (with_reducible first | refine a_move (hr:=?_) | refine a_assign (hr:=?_) | refine a_load (hr:=?_) | refine a_fieldAddr (hr:=?_) | refine a_bin (hr:=?_) | refine a_lenS (hr:=?_) | refine a_lenR (hr:=?_) | refine a_box (hr:=?_) | refine a_idxArr (hr:=?_) | refine a_indexAddr (hr:=?_))
    | fail)
  refine awp_inv (α := Nat) (fun i => [(1, .ptr 1 0), (6, .sl 1 (strs ps)), (7, .raw (.int .i64 ps.length)), (8, .raw (.int .i64 i))]) (fun _ => hpL [(1, .box (Mk.av ⟨asks, lo, hi, c, ps⟩))]) (fun i => i ≤ ps.length ∧ (ps.drop i).all (fun p => decide (p.size ≤ 100)) = ps.all (fun p => decide (p.size ≤ 100))) (fun i => ps.length - i) 0 ⟨by simp, by simp⟩ (zzw) ?_
  rintro i ⟨g1, g2⟩
  rw [← g2] at hQ
  rcases Nat.lt_or_ge i ps.length with hlt | hge
  · have hx := List.getElem?_eq_getElem hlt
    rw [List.drop_eq_getElem_cons hlt] at g2 hQ
    generalize ps[i] = y at hx g2 hQ
    simp only [List.all_cons] at g2 hQ
    by_cases hy : y.size ≤ 100
    · rw [decide_eq_true hy] at g2 hQ
      repeat' (first
    | (with_reducible refine run_n ?_; with_reducible first | refine hK _ _ (by simp) ?_ | refine hK _ _ ?_; clear hK K)
    | (refine zzc ?_)
    | (with_reducible refine awp_regT (by kernel_rfl) ?_; intro K hK)
    | (with_reducible refine a_cond (ht := ?_) (hf := ?_) <;> intro hb <;> (try simp at hb) <;> (try contradiction) <;> (try subst hb) <;> (try omega))
    | (with_reducible first | refine a_move (hr:=?_) | refine a_assign (hr:=?_) | refine a_load (hr:=?_) | refine a_fieldAddr (hr:=?_) | refine a_bin (hr:=?_) | refine a_lenS (hr:=?_) | refine a_lenR (hr:=?_) | refine a_box (hr:=?_) | refine a_idxArr (hr:=?_) | refine a_indexAddr (hr:=?_))
    | fail)
      exact ⟨i + 1, by omega, ⟨by omega, g2⟩, zzw⟩
    · rw [decide_eq_false hy] at g2 hQ
      simp only [Bool.false_and] at g2 hQ
      repeat' (first
    | (with_reducible refine run_n ?_; with_reducible first | refine hK _ _ (by simp) ?_ | refine hK _ _ ?_; clear hK K)
    | (refine zzc ?_)
    | (with_reducible refine awp_regT (by kernel_rfl) ?_; intro K hK)
    | (with_reducible refine a_cond (ht := ?_) (hf := ?_) <;> intro hb <;> (try simp at hb) <;> (try contradiction) <;> (try subst hb) <;> (try omega))
    | (with_reducible first | refine a_move (hr:=?_) | refine a_assign (hr:=?_) | refine a_load (hr:=?_) | refine a_fieldAddr (hr:=?_) | refine a_bin (hr:=?_) | refine a_lenS (hr:=?_) | refine a_lenR (hr:=?_) | refine a_box (hr:=?_) | refine a_idxArr (hr:=?_) | refine a_indexAddr (hr:=?_))
    | fail)
      (refine zzr hQ ?_)
      exact Fin.drop (by simp; exact .r) (by simp)
  · obtain rfl : i = ps.length := by omega
    rw [List.drop_length] at hQ
    simp only [List.all_nil, Bool.true_and] at hQ
    rw [show decide (ps.length ≤ 50) = decide ((ps.length : Int) ≤ 50) from decide_eq_decide.2 (by omega)] at hQ
    repeat' (first
    | (with_reducible refine run_n ?_; with_reducible first | refine hK _ _ (by simp) ?_ | refine hK _ _ ?_; clear hK K)
    | (refine zzc ?_)
    | (with_reducible refine awp_regT (by kernel_rfl) ?_; intro K hK)
    | (with_reducible refine a_cond (ht := ?_) (hf := ?_) <;> intro hb <;> (try simp at hb) <;> (try contradiction) <;> (try subst hb) <;> (try omega))
    | (with_reducible first | refine a_move (hr:=?_) | refine a_assign (hr:=?_) | refine a_load (hr:=?_) | refine a_fieldAddr (hr:=?_) | refine a_bin (hr:=?_) | refine a_lenS (hr:=?_) | refine a_lenR (hr:=?_) | refine a_box (hr:=?_) | refine a_idxArr (hr:=?_) | refine a_indexAddr (hr:=?_))
    | fail)
    (refine zzr hQ ?_)
    exact Fin.drop (by simp; exact .r) (by simp)
def Mk.re (m : Mk) : RE := if m.asks then ⟨true, m.ps, 20, true, m.lo, m.hi⟩ else if m.c = 0 then ⟨false, [], m.c, false, ⟨#[]⟩, ⟨#[]⟩⟩ else ⟨true, m.ps, m.c, false, ⟨#[]⟩, ⟨#[]⟩⟩
theorem c_should (m : Mk) (hm : m.ok) (hs : m.ps.length ≤ 1000000) : CallD Tryd.prog 18 [m.av] noHeap m.re.av noHeap := by
  obtain ⟨asks, lo, hi, c, ps⟩ := m
  obtain ⟨h1, h2, h3⟩ := hm
  simp only at h1 h2 h3 hs
  have o1 := c_ROf c
  have o2 := c_RAsk lo hi
  cases asks with
  | true =>
    rw [show Mk.re ⟨true, lo, hi, c, ps⟩ = ⟨true, ps, 20, true, lo, hi⟩ from rfl]
    refine calls_go (nt := 36) (rs := [.cell 2 45]) Tryd.func18 rfl rfl rfl (by simp) (by intro id h; simp at h <;> omega) ?_; intro Q hQ hW
    repeat' (first
    | (with_reducible refine run_n ?_; with_reducible first | refine hK _ _ (by simp) ?_ | refine hK _ _ ?_; clear hK K)
    | (refine zzc ?_)
    | (with_reducible refine awp_regT (by kernel_rfl) ?_; intro K hK)
    | (with_reducible refine awp_regCM (id := 7) [(3, some 3), (22, some 1), (24, some 1)] [(3, some 3), (22, some 1), (24, some 1), (25, none), (30, none), (31, none), (32, none)] mixed (by kernel_rfl) (by kernel_rfl) (by kernel_rfl) ?_; intro K hK)
    | (with_reducible refine a_cond (ht := ?_) (hf := ?_) <;> intro hb <;> (try simp at hb) <;> (try contradiction) <;> (try subst hb) <;> (try omega))
    | (with_reducible first | refine a_move (hr:=?_) | refine a_assign (hr:=?_) | refine a_load (hr:=?_) | refine a_fieldAddr (hr:=?_) | refine a_bin (hr:=?_) | refine a_lenS (hr:=?_) | refine a_lenR (hr:=?_) | refine a_store (hr:=?_) | refine a_box (hr:=?_) | refine a_alloc (hr:=?_) | refine a_conv (hr:=?_) | refine a_bytesStr (hr:=?_) | refine a_strBytes (hr:=?_) | refine a_sameSl (hr:=?_) | refine a_idxArr (hr:=?_) | refine a_indexAddr (hr:=?_) | refine a_call0 (hcall := o1) (hr:=?_) | refine a_call0 (hcall := o2) (hr:=?_))
    | fail)
    refine awp_inv (α := Nat) (fun i => [(1, .ptr 1 0), (2, .ptr 2 0), (3, .ptr 3 0), (18, .raw (.int .i64 ps.length)), (19, .raw (.int .i64 i))]) (fun i => hpL [(1, .box (Mk.av ⟨true, lo, hi, c, ps⟩)), (2, .box (RE.av ⟨false, [], 0, false, ⟨#[]⟩, ⟨#[]⟩⟩)), (3, .box (RE.av ⟨true, ps.drop (ps.length - i), 20, true, lo, hi⟩))]) (fun i => i ≤ ps.length) (fun i => ps.length - i) 0 (by simp) (by simp only [Nat.sub_zero, List.drop_length]; exact zzw) ?_
    intro i g1
    rcases Nat.lt_or_ge i ps.length with hlt | hge
    · have hlt2 : ps.length - 1 - i < ps.length := by omega
      have hx := List.getElem?_eq_getElem hlt2
      have hd := List.drop_eq_getElem_cons hlt2
      generalize ps[ps.length - 1 - i] = p at hx hd
      rw [show ps.length - 1 - i + 1 = ps.length - i by omega, show ps.length - 1 - i = ps.length - (i + 1) by omega] at hd
      have hdl : (ps.drop (ps.length - i)).length ≤ 1000000 := by rw [List.length_drop]; omega
      generalize ps.drop (ps.length - i) = l at hd hdl ⊢
      have o3 := c_RWrap p ⟨true, l, 20, true, lo, hi⟩ hdl
      simp only [if_true] at o3
      cases l with
      | nil =>
        simp only [RE.av, plAV_nil, plAV_cons] at o3 ⊢
        repeat' (first
    | (with_reducible refine run_n ?_; with_reducible first | refine hK _ _ (by simp) ?_ | refine hK _ _ ?_; clear hK K)
    | (refine zzc ?_)
    | (with_reducible refine awp_regT (by kernel_rfl) ?_; intro K hK)
    | (with_reducible refine awp_regCM (id := 7) [(3, some 3), (22, some 1), (24, some 1)] [(3, some 3), (22, some 1), (24, some 1), (25, none), (30, none), (31, none), (32, none)] mixed (by kernel_rfl) (by kernel_rfl) (by kernel_rfl) ?_; intro K hK)
    | (with_reducible refine a_cond (ht := ?_) (hf := ?_) <;> intro hb <;> (try simp at hb) <;> (try contradiction) <;> (try subst hb) <;> (try omega))
    | (with_reducible first | refine a_move (hr:=?_) | refine a_assign (hr:=?_) | refine a_load (hr:=?_) | refine a_fieldAddr (hr:=?_) | refine a_bin (hr:=?_) | refine a_lenS (hr:=?_) | refine a_lenR (hr:=?_) | refine a_store (hr:=?_) | refine a_box (hr:=?_) | refine a_alloc (hr:=?_) | refine a_conv (hr:=?_) | refine a_bytesStr (hr:=?_) | refine a_strBytes (hr:=?_) | refine a_sameSl (hr:=?_) | refine a_idxArr (hr:=?_) | refine a_indexAddr (hr:=?_) | refine a_callF (hcall := o3) (hr:=?_))
    | fail)
        exact ⟨i + 1, by omega, by omega, by rw [hd]; exact zzw⟩
      | cons q l =>
        simp only [RE.av, plAV_cons] at o3 ⊢
        generalize q :: l = l at hd hdl o3 ⊢
        repeat' (first
    | (with_reducible refine run_n ?_; with_reducible first | refine hK _ _ (by simp) ?_ | refine hK _ _ ?_; clear hK K)
    | (refine zzc ?_)
    | (with_reducible refine awp_regT (by kernel_rfl) ?_; intro K hK)
    | (with_reducible refine awp_regCM (id := 7) [(3, some 3), (22, some 1), (24, some 1)] [(3, some 3), (22, some 1), (24, some 1), (25, none), (30, none), (31, none), (32, none)] mixed (by kernel_rfl) (by kernel_rfl) (by kernel_rfl) ?_; intro K hK)
    | (with_reducible refine a_cond (ht := ?_) (hf := ?_) <;> intro hb <;> (try simp at hb) <;> (try contradiction) <;> (try subst hb) <;> (try omega))
    | (with_reducible first | refine a_move (hr:=?_) | refine a_assign (hr:=?_) | refine a_load (hr:=?_) | refine a_fieldAddr (hr:=?_) | refine a_bin (hr:=?_) | refine a_lenS (hr:=?_) | refine a_lenR (hr:=?_) | refine a_store (hr:=?_) | refine a_box (hr:=?_) | refine a_alloc (hr:=?_) | refine a_conv (hr:=?_) | refine a_bytesStr (hr:=?_) | refine a_strBytes (hr:=?_) | refine a_sameSl (hr:=?_) | refine a_idxArr (hr:=?_) | refine a_indexAddr (hr:=?_) | refine a_callF (hcall := o3) (hr:=?_))
    | fail)
        exact ⟨i + 1, by omega, by omega, by rw [hd]; exact zzw⟩
    · obtain rfl : i = ps.length := by omega
      rw [Nat.sub_self, List.drop_zero]
      cases ps with
      | nil =>
        repeat' (first
    | (with_reducible refine run_n ?_; with_reducible first | refine hK _ _ (by simp) ?_ | refine hK _ _ ?_; clear hK K)
    | (refine zzc ?_)
    | (with_reducible refine awp_regT (by kernel_rfl) ?_; intro K hK)
    | (with_reducible refine awp_regAM (id := 7) [(3, some 3), (22, some 1), (24, some 1)] mixed (by kernel_rfl) (by kernel_rfl) ?_; intro K hK)
    | (with_reducible refine a_cond (ht := ?_) (hf := ?_) <;> intro hb <;> (try simp at hb) <;> (try contradiction) <;> (try subst hb) <;> (try omega))
    | (with_reducible first | refine a_move (hr:=?_) | refine a_assign (hr:=?_) | refine a_load (hr:=?_) | refine a_fieldAddr (hr:=?_) | refine a_bin (hr:=?_) | refine a_lenS (hr:=?_) | refine a_lenR (hr:=?_) | refine a_store (hr:=?_) | refine a_box (hr:=?_) | refine a_alloc (hr:=?_) | refine a_conv (hr:=?_) | refine a_bytesStr (hr:=?_) | refine a_strBytes (hr:=?_) | refine a_sameSl (hr:=?_) | refine a_idxArr (hr:=?_) | refine a_indexAddr (hr:=?_))
    | fail)
        (refine zzr hQ ?_)
        exact Fin.drop (by simp; exact .r) (by simp)
      | cons q ps =>
        simp only [RE.av, plAV_cons] at hQ ⊢
        generalize q :: ps = l at *
        repeat' (first
    | (with_reducible refine run_n ?_; with_reducible first | refine hK _ _ (by simp) ?_ | refine hK _ _ ?_; clear hK K)
    | (refine zzc ?_)
    | (with_reducible refine awp_regT (by kernel_rfl) ?_; intro K hK)
    | (with_reducible refine awp_regAM (id := 7) [(3, some 3), (22, some 1), (24, some 1)] mixed (by kernel_rfl) (by kernel_rfl) ?_; intro K hK)
    | (with_reducible refine a_cond (ht := ?_) (hf := ?_) <;> intro hb <;> (try simp at hb) <;> (try contradiction) <;> (try subst hb) <;> (try omega))
    | (with_reducible first | refine a_move (hr:=?_) | refine a_assign (hr:=?_) | refine a_load (hr:=?_) | refine a_fieldAddr (hr:=?_) | refine a_bin (hr:=?_) | refine a_lenS (hr:=?_) | refine a_lenR (hr:=?_) | refine a_store (hr:=?_) | refine a_box (hr:=?_) | refine a_alloc (hr:=?_) | refine a_conv (hr:=?_) | refine a_bytesStr (hr:=?_) | refine a_strBytes (hr:=?_) | refine a_sameSl (hr:=?_) | refine a_idxArr (hr:=?_) | refine a_indexAddr (hr:=?_))
    | fail)
        (refine zzr hQ ?_)
        exact Fin.drop (by simp; exact .r) (by simp)
  | false =>
    by_cases hc : c = 0
    · subst hc
      rw [show Mk.re ⟨false, lo, hi, 0, ps⟩ = ⟨false, [], 0, false, ⟨#[]⟩, ⟨#[]⟩⟩ from rfl]
      simp only [decide_true, Bool.not_true] at o1
      refine calls_go (nt := 36) (rs := [.cell 2 45]) Tryd.func18 rfl rfl rfl (by simp) (by intro id h; simp at h <;> omega) ?_; intro Q hQ hW
      repeat' (first
    | (with_reducible refine run_n ?_; with_reducible first | refine hK _ _ (by simp) ?_ | refine hK _ _ ?_; clear hK K)
    | (refine zzc ?_)
    | (with_reducible refine awp_regT (by kernel_rfl) ?_; intro K hK)
    | (with_reducible refine awp_regCM (id := 7) [(3, some 3), (22, some 1), (24, some 1)] [(3, some 3), (22, some 1), (24, some 1), (25, none), (30, none), (31, none), (32, none)] mixed (by kernel_rfl) (by kernel_rfl) (by kernel_rfl) ?_; intro K hK)
    | (with_reducible refine a_cond (ht := ?_) (hf := ?_) <;> intro hb <;> (try simp at hb) <;> (try contradiction) <;> (try subst hb) <;> (try omega))
    | (with_reducible first | refine a_move (hr:=?_) | refine a_assign (hr:=?_) | refine a_load (hr:=?_) | refine a_fieldAddr (hr:=?_) | refine a_bin (hr:=?_) | refine a_lenS (hr:=?_) | refine a_lenR (hr:=?_) | refine a_store (hr:=?_) | refine a_box (hr:=?_) | refine a_alloc (hr:=?_) | refine a_conv (hr:=?_) | refine a_bytesStr (hr:=?_) | refine a_strBytes (hr:=?_) | refine a_sameSl (hr:=?_) | refine a_idxArr (hr:=?_) | refine a_indexAddr (hr:=?_) | refine a_call0 (hcall := o1) (hr:=?_) | refine a_call0 (hcall := o2) (hr:=?_))
    | fail)
      refine awp_inv (α := Nat) (fun i => [(1, .ptr 1 0), (2, .ptr 2 0), (3, .ptr 3 0), (18, .raw (.int .i64 ps.length)), (19, .raw (.int .i64 i))]) (fun i => hpL [(1, .box (Mk.av ⟨false, lo, hi, 0, ps⟩)), (2, .box (RE.av ⟨false, [], 0, false, ⟨#[]⟩, ⟨#[]⟩⟩)), (3, .box (RE.av ⟨false, [], 0, false, ⟨#[]⟩, ⟨#[]⟩⟩))]) (fun i => i ≤ ps.length) (fun i => ps.length - i) 0 (by simp) (by exact zzw) ?_
      intro i g1
      rcases Nat.lt_or_ge i ps.length with hlt | hge
      · have hlt2 : ps.length - 1 - i < ps.length := by omega
        have hx := List.getElem?_eq_getElem hlt2
        have hd := List.drop_eq_getElem_cons hlt2
        generalize ps[ps.length - 1 - i] = p at hx hd
        rw [show ps.length - 1 - i + 1 = ps.length - i by omega, show ps.length - 1 - i = ps.length - (i + 1) by omega] at hd
        have o3 := c_RWrap p ⟨false, [], 0, false, ⟨#[]⟩, ⟨#[]⟩⟩ (by simp)
        simp only [Bool.false_eq_true, if_false, RE.av, plAV_nil] at o3 ⊢
        repeat' (first
    | (with_reducible refine run_n ?_; with_reducible first | refine hK _ _ (by simp) ?_ | refine hK _ _ ?_; clear hK K)
    | (refine zzc ?_)
    | (with_reducible refine awp_regT (by kernel_rfl) ?_; intro K hK)
    | (with_reducible refine awp_regCM (id := 7) [(3, some 3), (22, some 1), (24, some 1)] [(3, some 3), (22, some 1), (24, some 1), (25, none), (30, none), (31, none), (32, none)] mixed (by kernel_rfl) (by kernel_rfl) (by kernel_rfl) ?_; intro K hK)
    | (with_reducible refine a_cond (ht := ?_) (hf := ?_) <;> intro hb <;> (try simp at hb) <;> (try contradiction) <;> (try subst hb) <;> (try omega))
    | (with_reducible first | refine a_move (hr:=?_) | refine a_assign (hr:=?_) | refine a_load (hr:=?_) | refine a_fieldAddr (hr:=?_) | refine a_bin (hr:=?_) | refine a_lenS (hr:=?_) | refine a_lenR (hr:=?_) | refine a_store (hr:=?_) | refine a_box (hr:=?_) | refine a_alloc (hr:=?_) | refine a_conv (hr:=?_) | refine a_bytesStr (hr:=?_) | refine a_strBytes (hr:=?_) | refine a_sameSl (hr:=?_) | refine a_idxArr (hr:=?_) | refine a_indexAddr (hr:=?_) | refine a_callF (hcall := o3) (hr:=?_))
    | fail)
        exact ⟨i + 1, by omega, by omega, zzw⟩
      · obtain rfl : i = ps.length := by omega
        repeat' (first
    | (with_reducible refine run_n ?_; with_reducible first | refine hK _ _ (by simp) ?_ | refine hK _ _ ?_; clear hK K)
    | (refine zzc ?_)
    | (with_reducible refine awp_regT (by kernel_rfl) ?_; intro K hK)
    | (with_reducible refine awp_regAM (id := 7) [(3, some 3), (22, some 1), (24, some 1)] mixed (by kernel_rfl) (by kernel_rfl) ?_; intro K hK)
    | (with_reducible refine a_cond (ht := ?_) (hf := ?_) <;> intro hb <;> (try simp at hb) <;> (try contradiction) <;> (try subst hb) <;> (try omega))
    | (with_reducible first | refine a_move (hr:=?_) | refine a_assign (hr:=?_) | refine a_load (hr:=?_) | refine a_fieldAddr (hr:=?_) | refine a_bin (hr:=?_) | refine a_lenS (hr:=?_) | refine a_lenR (hr:=?_) | refine a_store (hr:=?_) | refine a_box (hr:=?_) | refine a_alloc (hr:=?_) | refine a_conv (hr:=?_) | refine a_bytesStr (hr:=?_) | refine a_strBytes (hr:=?_) | refine a_sameSl (hr:=?_) | refine a_idxArr (hr:=?_) | refine a_indexAddr (hr:=?_))
    | fail)
        (refine zzr hQ ?_)
        exact Fin.drop (by simp; exact .r) (by simp)
    · rw [show Mk.re ⟨false, lo, hi, c, ps⟩ = ⟨true, ps, c, false, ⟨#[]⟩, ⟨#[]⟩⟩ by simp [Mk.re, hc]]
      simp only [decide_eq_false hc, Bool.not_false] at o1
      refine calls_go (nt := 36) (rs := [.cell 2 45]) Tryd.func18 rfl rfl rfl (by simp) (by intro id h; simp at h <;> omega) ?_; intro Q hQ hW
      repeat' (first
    | (with_reducible refine run_n ?_; with_reducible first | refine hK _ _ (by simp) ?_ | refine hK _ _ ?_; clear hK K)
    | (refine zzc ?_)
    | (with_reducible refine awp_regT (by kernel_rfl) ?_; intro K hK)
    | (with_reducible refine awp_regCM (id := 7) [(3, some 3), (22, some 1), (24, some 1)] [(3, some 3), (22, some 1), (24, some 1), (25, none), (30, none), (31, none), (32, none)] mixed (by kernel_rfl) (by kernel_rfl) (by kernel_rfl) ?_; intro K hK)
    | (with_reducible refine a_cond (ht := ?_) (hf := ?_) <;> intro hb <;> (try simp at hb) <;> (try contradiction) <;> (try subst hb) <;> (try omega))
    | (with_reducible first | refine a_move (hr:=?_) | refine a_assign (hr:=?_) | refine a_load (hr:=?_) | refine a_fieldAddr (hr:=?_) | refine a_bin (hr:=?_) | refine a_lenS (hr:=?_) | refine a_lenR (hr:=?_) | refine a_store (hr:=?_) | refine a_box (hr:=?_) | refine a_alloc (hr:=?_) | refine a_conv (hr:=?_) | refine a_bytesStr (hr:=?_) | refine a_strBytes (hr:=?_) | refine a_sameSl (hr:=?_) | refine a_idxArr (hr:=?_) | refine a_indexAddr (hr:=?_) | refine a_call0 (hcall := o1) (hr:=?_) | refine a_call0 (hcall := o2) (hr:=?_))
    | fail)
      refine awp_inv (α := Nat) (fun i => [(1, .ptr 1 0), (2, .ptr 2 0), (3, .ptr 3 0), (18, .raw (.int .i64 ps.length)), (19, .raw (.int .i64 i))]) (fun i => hpL [(1, .box (Mk.av ⟨false, lo, hi, c, ps⟩)), (2, .box (RE.av ⟨false, [], 0, false, ⟨#[]⟩, ⟨#[]⟩⟩)), (3, .box (RE.av ⟨true, ps.drop (ps.length - i), c, false, ⟨#[]⟩, ⟨#[]⟩⟩))]) (fun i => i ≤ ps.length) (fun i => ps.length - i) 0 (by simp) (by simp only [Nat.sub_zero, List.drop_length]; exact zzw) ?_
      intro i g1
      rcases Nat.lt_or_ge i ps.length with hlt | hge
      · have hlt2 : ps.length - 1 - i < ps.length := by omega
        have hx := List.getElem?_eq_getElem hlt2
        have hd := List.drop_eq_getElem_cons hlt2
        generalize ps[ps.length - 1 - i] = p at hx hd
        rw [show ps.length - 1 - i + 1 = ps.length - i by omega, show ps.length - 1 - i = ps.length - (i + 1) by omega] at hd
        have hdl : (ps.drop (ps.length - i)).length ≤ 1000000 := by rw [List.length_drop]; omega
        generalize ps.drop (ps.length - i) = l at hd hdl ⊢
        have o3 := c_RWrap p ⟨true, l, c, false, ⟨#[]⟩, ⟨#[]⟩⟩ hdl
        simp only [if_true] at o3
        cases l with
        | nil =>
          simp only [RE.av, plAV_nil, plAV_cons] at o3 ⊢
          repeat' (first
    | (with_reducible refine run_n ?_; with_reducible first | refine hK _ _ (by simp) ?_ | refine hK _ _ ?_; clear hK K)
    | (refine zzc ?_)
    | (with_reducible refine awp_regT (by kernel_rfl) ?_; intro K hK)
    | (with_reducible refine awp_regCM (id := 7) [(3, some 3), (22, some 1), (24, some 1)] [(3, some 3), (22, some 1), (24, some 1), (25, none), (30, none), (31, none), (32, none)] mixed (by kernel_rfl) (by kernel_rfl) (by kernel_rfl) ?_; intro K hK)
    | (with_reducible refine a_cond (ht := ?_) (hf := ?_) <;> intro hb <;> (try simp at hb) <;> (try contradiction) <;> (try subst hb) <;> (try omega))
    | (with_reducible first | refine a_move (hr:=?_) | refine a_assign (hr:=?_) | refine a_load (hr:=?_) | refine a_fieldAddr (hr:=?_) | refine a_bin (hr:=?_) | refine a_lenS (hr:=?_) | refine a_lenR (hr:=?_) | refine a_store (hr:=?_) | refine a_box (hr:=?_) | refine a_alloc (hr:=?_) | refine a_conv (hr:=?_) | refine a_bytesStr (hr:=?_) | refine a_strBytes (hr:=?_) | refine a_sameSl (hr:=?_) | refine a_idxArr (hr:=?_) | refine a_indexAddr (hr:=?_) | refine a_callF (hcall := o3) (hr:=?_))
    | fail)
          exact ⟨i + 1, by omega, by omega, by rw [hd]; exact zzw⟩
        | cons q l =>
          simp only [RE.av, plAV_cons] at o3 ⊢
          generalize q :: l = l at hd hdl o3 ⊢
          repeat' (first
    | (with_reducible refine run_n ?_; with_reducible first | refine hK _ _ (by simp) ?_ | refine hK _ _ ?_; clear hK K)
    | (refine zzc ?_)
    | (with_reducible refine awp_regT (by kernel_rfl) ?_; intro K hK)
    | (with_reducible refine awp_regCM (id := 7) [(3, some 3), (22, some 1), (24, some 1)] [(3, some 3), (22, some 1), (24, some 1), (25, none), (30, none), (31, none), (32, none)] mixed (by kernel_rfl) (by kernel_rfl) (by kernel_rfl) ?_; intro K hK)
    | (with_reducible refine a_cond (ht := ?_) (hf := ?_) <;> intro hb <;> (try simp at hb) <;> (try contradiction) <;> (try subst hb) <;> (try omega))
    | (with_reducible first | refine a_move (hr:=?_) | refine a_assign (hr:=?_) | refine a_load (hr:=?_) | refine a_fieldAddr (hr:=?_) | refine a_bin (hr:=?_) | refine a_lenS (hr:=?_) | refine a_lenR (hr:=?_) | refine a_store (hr:=?_) | refine a_box (hr:=?_) | refine a_alloc (hr:=?_) | refine a_conv (hr:=?_) | refine a_bytesStr (hr:=?_) | refine a_strBytes (hr:=?_) | refine a_sameSl (hr:=?_) | refine a_idxArr (hr:=?_) | refine a_indexAddr (hr:=?_) | refine a_callF (hcall := o3) (hr:=?_))
    | fail)
          exact ⟨i + 1, by omega, by omega, by rw [hd]; exact zzw⟩
      · obtain rfl : i = ps.length := by omega
        rw [Nat.sub_self, List.drop_zero]
        cases ps with
        | nil =>
          repeat' (first
    | (with_reducible refine run_n ?_; with_reducible first | refine hK _ _ (by simp) ?_ | refine hK _ _ ?_; clear hK K)
    | (refine zzc ?_)
    | (with_reducible refine awp_regT (by kernel_rfl) ?_; intro K hK)
    | (with_reducible refine awp_regAM (id := 7) [(3, some 3), (22, some 1), (24, some 1)] mixed (by kernel_rfl) (by kernel_rfl) ?_; intro K hK)
    | (with_reducible refine a_cond (ht := ?_) (hf := ?_) <;> intro hb <;> (try simp at hb) <;> (try contradiction) <;> (try subst hb) <;> (try omega))
    | (with_reducible first | refine a_move (hr:=?_) | refine a_assign (hr:=?_) | refine a_load (hr:=?_) | refine a_fieldAddr (hr:=?_) | refine a_bin (hr:=?_) | refine a_lenS (hr:=?_) | refine a_lenR (hr:=?_) | refine a_store (hr:=?_) | refine a_box (hr:=?_) | refine a_alloc (hr:=?_) | refine a_conv (hr:=?_) | refine a_bytesStr (hr:=?_) | refine a_strBytes (hr:=?_) | refine a_sameSl (hr:=?_) | refine a_idxArr (hr:=?_) | refine a_indexAddr (hr:=?_))
    | fail)
          (refine zzr hQ ?_)
          exact Fin.drop (by simp; exact .r) (by simp)
        | cons q ps =>
          simp only [RE.av, plAV_cons] at hQ ⊢
          generalize q :: ps = l at *
          repeat' (first
    | (with_reducible refine run_n ?_; with_reducible first | refine hK _ _ (by simp) ?_ | refine hK _ _ ?_; clear hK K)
    | (refine zzc ?_)
    | (with_reducible refine awp_regT (by kernel_rfl) ?_; intro K hK)
    | (with_reducible refine awp_regAM (id := 7) [(3, some 3), (22, some 1), (24, some 1)] mixed (by kernel_rfl) (by kernel_rfl) ?_; intro K hK)
    | (with_reducible refine a_cond (ht := ?_) (hf := ?_) <;> intro hb <;> (try simp at hb) <;> (try contradiction) <;> (try subst hb) <;> (try omega))
    | (with_reducible first | refine a_move (hr:=?_) | refine a_assign (hr:=?_) | refine a_load (hr:=?_) | refine a_fieldAddr (hr:=?_) | refine a_bin (hr:=?_) | refine a_lenS (hr:=?_) | refine a_lenR (hr:=?_) | refine a_store (hr:=?_) | refine a_box (hr:=?_) | refine a_alloc (hr:=?_) | refine a_conv (hr:=?_) | refine a_bytesStr (hr:=?_) | refine a_strBytes (hr:=?_) | refine a_sameSl (hr:=?_) | refine a_idxArr (hr:=?_) | refine a_indexAddr (hr:=?_))
    | fail)
          (refine zzr hQ ?_)
          exact Fin.drop (by simp; exact .r) (by simp)
end Go.Proofs.YtngeckkebejhiaaDoor.Asl
