/- Part 33 of what the row leans on: abstract values and states, their rules, and the contracts of the functions. -/
import Derived.Test.YtjbbnollidcagaaDoorZgb32
namespace Go.Proofs.YtjbbnollidcagaaDoor.Asl
open Go Go.RowKit
set_option linter.unusedVariables false
set_option linter.unusedSimpArgs false
set_option maxRecDepth 100000
set_option maxHeartbeats 4000000
theorem hld_held (p : Pc) (k : Int) : hldE p (!decide (k ≤ p.str)) = heldE p k := by
  unfold hldE heldE
  by_cases h : k ≤ p.str
  · simp [h]
  · simp [h]
theorem hld_wf {p : Pc} (b : Bool) {m : Nat} (h : p.s.size ≤ m ∧ 0 ≤ p.deep ∧ p.deep ≤ m) : (hldE p b).s.size ≤ m + 2 ∧ 0 ≤ (hldE p b).deep ∧ (hldE p b).deep ≤ m + 1 := by
  unfold hldE
  have e1 : (⟨#[40]⟩ : ByteArray).size = 1 := rfl
  have e2 : (⟨#[41]⟩ : ByteArray).size = 1 := rfl
  split
  · exact ⟨by simp only [ByteArray.size_append]; omega, by simp only; omega, by simp only; omega⟩
  · omega
theorem c_part (e : List TermV) (hl : e.length ≤ 40) (hw : ∀ t ∈ e, wfT t) : ∀ (T : Tr) (pre post : List TermV) (i : Nat), T.ok → e = pre ++ T.flat ++ post → i + 1 = pre.length + T.flat.length → CallD Tryd.prog 46 [.sl 5 (e.map termAV), .raw (.int .i64 i)] noHeap (.tup [.raw (.string T.pc.s), .raw (.int .i64 T.pc.deep)]) noHeap
  | .nul t, pre, post, i, hok, he, hi => by
    have hop := ownE_op hok.1
    simp only [Tr.flat, List.length_singleton] at hi
    have hx : e[i]? = some t := by rw [he, show i = pre.length by omega]; simp [Tr.flat]
    have hie : i < e.length := (List.getElem?_eq_some_iff.1 hx).1
    obtain ⟨t1, t2, t3, t4⟩ := hw t (List.mem_of_getElem? hx)
    have h3 : t.op < 3 := by
      have := hok.2
      unfold takesE at this
      split at this
      · assumption
      · split at this <;> cases this
    have q2 := c_rPrint t.k t.v t.s ⟨t1, t2⟩ t3
    clear he hi hok
    obtain ⟨op, k, v, s, n⟩ := t
    simp only [Tr.pc, nulE]
    simp only at hop h3 q2 t4
    rcases (show op = 0 ∨ op = 1 ∨ op = 2 by omega) with rfl | rfl | rfl
    · refine calls_go (nt := 84) (rs := [.tmp 4, .tmp 5]) Tryd.func46 rfl rfl rfl (by simp) (by intro id h; simp at h <;> omega) ?_; intro Q hQ hW
      repeat' (first
    | (with_reducible refine run_n ?_; with_reducible first | refine hK _ _ (by simp) ?_ | refine hK _ _ ?_; clear hK K)
    | (refine zzc ?_)
    | (with_reducible refine awp_regT (by kernel_rfl) ?_; intro K hK)
    | (with_reducible refine awp_regAM (id := 14) [(6, some 6)] mixed (by kernel_rfl) (by kernel_rfl) ?_; intro K hK)
    | (with_reducible refine a_cond (ht := ?_) (hf := ?_) <;> intro hb <;> (try simp at hb) <;> (try contradiction) <;> (try subst hb) <;> (try omega))
    | (with_reducible first | refine a_move (hr:=?_) | refine a_assign (hr:=?_) | refine a_load (hr:=?_) | refine a_fieldAddr (hr:=?_) | refine a_bin (hr:=?_) | refine a_extract (hr:=?_) | refine a_store (hr:=?_) | refine a_alloc (hr:=?_) | refine a_eqB (hr:=?_) | refine a_idxArr (hr:=?_) | refine a_eqS (hr:=?_) | refine a_indexAddr (hr:=?_) | refine a_maxC (hr:=?_) | refine a_call0 (hcall := q2) (hr:=?_))
    | fail)
      all_goals ((refine zzr hQ ?_))
      all_goals (exact Fin.drop (by simp; exact .r) (by simp))
    · refine calls_go (nt := 84) (rs := [.tmp 4, .tmp 5]) Tryd.func46 rfl rfl rfl (by simp) (by intro id h; simp at h <;> omega) ?_; intro Q hQ hW
      repeat' (first
    | (with_reducible refine run_n ?_; with_reducible first | refine hK _ _ (by simp) ?_ | refine hK _ _ ?_; clear hK K)
    | (refine zzc ?_)
    | (with_reducible refine awp_regT (by kernel_rfl) ?_; intro K hK)
    | (with_reducible refine awp_regAM (id := 14) [(6, some 6)] mixed (by kernel_rfl) (by kernel_rfl) ?_; intro K hK)
    | (with_reducible refine a_cond (ht := ?_) (hf := ?_) <;> intro hb <;> (try simp at hb) <;> (try contradiction) <;> (try subst hb) <;> (try omega))
    | (with_reducible first | refine a_move (hr:=?_) | refine a_assign (hr:=?_) | refine a_load (hr:=?_) | refine a_fieldAddr (hr:=?_) | refine a_bin (hr:=?_) | refine a_extract (hr:=?_) | refine a_store (hr:=?_) | refine a_alloc (hr:=?_) | refine a_eqB (hr:=?_) | refine a_idxArr (hr:=?_) | refine a_eqS (hr:=?_) | refine a_indexAddr (hr:=?_) | refine a_maxC (hr:=?_) | refine a_call0 (hcall := q2) (hr:=?_))
    | fail)
      all_goals ((refine zzr hQ ?_))
      all_goals (exact Fin.drop (by simp; exact .r) (by simp))
    · refine calls_go (nt := 84) (rs := [.tmp 4, .tmp 5]) Tryd.func46 rfl rfl rfl (by simp) (by intro id h; simp at h <;> omega) ?_; intro Q hQ hW
      repeat' (first
    | (with_reducible refine run_n ?_; with_reducible first | refine hK _ _ (by simp) ?_ | refine hK _ _ ?_; clear hK K)
    | (refine zzc ?_)
    | (with_reducible refine awp_regT (by kernel_rfl) ?_; intro K hK)
    | (with_reducible refine awp_regAM (id := 14) [(6, some 6)] mixed (by kernel_rfl) (by kernel_rfl) ?_; intro K hK)
    | (with_reducible refine a_cond (ht := ?_) (hf := ?_) <;> intro hb <;> (try simp at hb) <;> (try contradiction) <;> (try subst hb) <;> (try omega))
    | (with_reducible first | refine a_move (hr:=?_) | refine a_assign (hr:=?_) | refine a_load (hr:=?_) | refine a_fieldAddr (hr:=?_) | refine a_bin (hr:=?_) | refine a_extract (hr:=?_) | refine a_store (hr:=?_) | refine a_alloc (hr:=?_) | refine a_eqB (hr:=?_) | refine a_idxArr (hr:=?_) | refine a_eqS (hr:=?_) | refine a_indexAddr (hr:=?_) | refine a_maxC (hr:=?_) | refine a_call0 (hcall := q2) (hr:=?_))
    | fail)
      all_goals ((refine zzr hQ ?_))
      all_goals (exact Fin.drop (by simp; exact .r) (by simp))
  | .un t a, pre, post, i, hok, he, hi => by
    have hop := ownE_op hok.1.1
    have q1 := c_rtakes t.op hop
    rw [hok.1.2] at q1
    have q4 := c_Sign t.op hop
    have hsg := sgn_size hop
    have hf := a.flat_ne
    simp only [Tr.flat, List.length_append, List.length_singleton] at hi
    have hx : e[i]? = some t := by rw [he, show i = pre.length + a.flat.length by omega]; simp [Tr.flat]
    have hxa : e[i - 1]? = some a.root := by
      rw [he, show i - 1 = pre.length + (a.flat.length - 1) by omega]
      simp only [Tr.flat, List.append_assoc]
      rw [List.getElem?_append_right (by omega), Nat.add_sub_cancel_left, List.getElem?_append_left (by omega)]
      exact a.flat_last
    have hie : i < e.length := (List.getElem?_eq_some_iff.1 hx).1
    have hopa := ownE_op (Tr.ok_root hok.2)
    have hal : a.flat.length ≤ 40 := by omega
    have hwa := pc_wf hok.2
    have ih := c_part e hl hw a pre ([t] ++ post) (i - 1) hok.2 (by rw [he]; simp [Tr.flat]) (by omega)
    have hh := c_rheld e t a.root (i - 1) true a.pc (by omega) hop hopa hxa (by omega) (by omega) ih
    rw [show ((i - 1 : Nat) : Int) = (i : Int) - 1 by omega] at hh
    have hbr := (brB_at hop hopa).1
    have hst := pc_str hok.2
    have hi1 : 1 ≤ i := by omega
    have htk := hok.1.2
    have hwf := hld_wf (p := a.pc) (brB t.op a.root.op true) (m := 8000) (by omega)
    have key : hldE a.pc (brB t.op a.root.op true) = if t.op = 5 then a.pc else heldE a.pc (strE t.op) := by
      rcases hbr with hbr | hbr
      · rw [hbr]
        by_cases h5 : t.op = 5
        · rw [if_pos h5, if_pos h5]; rfl
        · rw [if_neg h5, if_neg h5, if_pos htk, ← hst]; exact hld_held _ _
      · omega
    rw [key] at hh hwf
    clear he hi hok hbr key ih hxa hst
    simp only [Tr.pc, unE]
    generalize a.pc = p at hh hwa hwf ⊢
    obtain ⟨op, k, v, s, n⟩ := t
    simp only at hop q1 q4 hsg htk hh hwf ⊢
    by_cases h5 : op = 5
    · subst h5
      simp only [if_true] at hh hwf ⊢
      obtain ⟨ps, pst, pd⟩ := p
      simp only at hwa hwf
      refine calls_go (nt := 84) (rs := [.tmp 4, .tmp 5]) Tryd.func46 rfl rfl rfl (by simp) (by intro id h; simp at h <;> omega) ?_; intro Q hQ hW
      repeat' (first
    | (with_reducible refine run_n ?_; with_reducible first | refine hK _ _ (by simp) ?_ | refine hK _ _ ?_; clear hK K)
    | (refine zzc ?_)
    | (with_reducible refine awp_regT (by kernel_rfl) ?_; intro K hK)
    | (with_reducible refine awp_regAM (id := 14) [(6, some 6)] mixed (by kernel_rfl) (by kernel_rfl) ?_; intro K hK)
    | (with_reducible refine a_cond (ht := ?_) (hf := ?_) <;> intro hb <;> (try simp at hb) <;> (try contradiction) <;> (try subst hb) <;> (try omega))
    | (with_reducible first | refine a_move (hr:=?_) | refine a_assign (hr:=?_) | refine a_load (hr:=?_) | refine a_fieldAddr (hr:=?_) | refine a_bin (hr:=?_) | refine a_extract (hr:=?_) | refine a_store (hr:=?_) | refine a_alloc (hr:=?_) | refine a_eqB (hr:=?_) | refine a_idxArr (hr:=?_) | refine a_eqS (hr:=?_) | refine a_indexAddr (hr:=?_) | refine a_maxC (hr:=?_) | refine a_call0 (hcall := q1) (hr:=?_) | refine a_call0 (hcall := q4) (hr:=?_) | refine a_callF (hcall := hh) (hr:=?_))
    | fail)
      all_goals ((refine zzr hQ ?_))
      all_goals (exact Fin.drop (by simp; exact .r) (by simp))
    · simp only [if_neg h5] at hh hwf ⊢
      have hr : 3 ≤ op ∧ op < 6 := by
        unfold takesE at htk
        split at htk
        · cases htk
        · split at htk
          · omega
          · cases htk
      generalize heldE p (strE op) = y at hh hwf ⊢
      generalize sgnE op = sg at q4 hsg ⊢
      obtain ⟨ps, pst, pd⟩ := y
      simp only at hwf
      refine calls_go (nt := 84) (rs := [.tmp 4, .tmp 5]) Tryd.func46 rfl rfl rfl (by simp) (by intro id h; simp at h <;> omega) ?_; intro Q hQ hW
      repeat' (first
    | (with_reducible refine run_n ?_; with_reducible first | refine hK _ _ (by simp) ?_ | refine hK _ _ ?_; clear hK K)
    | (refine zzc ?_)
    | (with_reducible refine awp_regT (by kernel_rfl) ?_; intro K hK)
    | (with_reducible refine awp_regAM (id := 14) [(6, some 6)] mixed (by kernel_rfl) (by kernel_rfl) ?_; intro K hK)
    | (with_reducible refine a_cond (ht := ?_) (hf := ?_) <;> intro hb <;> (try simp at hb) <;> (try contradiction) <;> (try subst hb) <;> (try omega))
    | (with_reducible first | refine a_move (hr:=?_) | refine a_assign (hr:=?_) | refine a_load (hr:=?_) | refine a_fieldAddr (hr:=?_) | refine a_bin (hr:=?_) | refine a_extract (hr:=?_) | refine a_store (hr:=?_) | refine a_alloc (hr:=?_) | refine a_eqB (hr:=?_) | refine a_idxArr (hr:=?_) | refine a_eqS (hr:=?_) | refine a_indexAddr (hr:=?_) | refine a_maxC (hr:=?_) | refine a_call0 (hcall := q1) (hr:=?_) | refine a_call0 (hcall := q4) (hr:=?_) | refine a_callF (hcall := hh) (hr:=?_))
    | fail)
      all_goals ((refine zzr hQ ?_))
      all_goals (exact Fin.drop (by simp; exact .r) (by simp))
  | .bi t a b, pre, post, i, hok, he, hi => by
    have hop := ownE_op hok.1.1
    have q1 := c_rtakes t.op hop
    rw [hok.1.2] at q1
    have q4 := c_Sign t.op hop
    have hsg := sgn_size hop
    have hfa := a.flat_ne
    have hfb := b.flat_ne
    simp only [Tr.flat, List.length_append, List.length_singleton] at hi
    have hx : e[i]? = some t := by rw [he, show i = pre.length + (a.flat.length + b.flat.length) by omega]; simp [Tr.flat]
    have hxb : e[i - 1]? = some b.root := by
      rw [he, show i - 1 = pre.length + (a.flat.length + (b.flat.length - 1)) by omega]
      simp only [Tr.flat, List.append_assoc]
      rw [List.getElem?_append_right (by omega), Nat.add_sub_cancel_left, List.getElem?_append_right (by omega), Nat.add_sub_cancel_left, List.getElem?_append_left (by omega)]
      exact b.flat_last
    have hxa : e[pre.length + a.flat.length - 1]? = some a.root := by
      rw [he, show pre.length + a.flat.length - 1 = pre.length + (a.flat.length - 1) by omega]
      simp only [Tr.flat, List.append_assoc]
      rw [List.getElem?_append_right (by omega), Nat.add_sub_cancel_left, List.getElem?_append_left (by omega)]
      exact a.flat_last
    have hie : i < e.length := (List.getElem?_eq_some_iff.1 hx).1
    have hopa := ownE_op (Tr.ok_root hok.2.1)
    have hopb := ownE_op (Tr.ok_root hok.2.2)
    have hal : a.flat.length ≤ 40 := by omega
    have hbl : b.flat.length ≤ 40 := by omega
    have hwa := pc_wf hok.2.1
    have hwb := pc_wf hok.2.2
    have i1 := c_part e hl hw b (pre ++ a.flat) ([t] ++ post) (i - 1) hok.2.2 (by rw [he]; simp [Tr.flat]) (by rw [List.length_append]; omega)
    have i2 := c_part e hl hw a pre (b.flat ++ ([t] ++ post)) (pre.length + a.flat.length - 1) hok.2.1 (by rw [he]; simp [Tr.flat]) (by omega)
    have bg := c_begin e (by omega) b (pre ++ a.flat) ([t] ++ post) (i - 1) hok.2.2 (by rw [he]; simp [Tr.flat]) (by rw [List.length_append]; omega)
    have hh1 := c_rheld e t b.root (i - 1) true b.pc (by omega) hop hopb hxb (by omega) (by omega) i1
    have hh2 := c_rheld e t a.root (pre.length + a.flat.length - 1) false a.pc (by omega) hop hopa hxa (by omega) (by omega) i2
    rw [List.length_append] at bg
    rw [show ((i - 1 : Nat) : Int) = (i : Int) - 1 by omega] at hh1 bg
    obtain ⟨w, hwq⟩ : ∃ w, pre.length + a.flat.length = w := ⟨_, rfl⟩
    rw [hwq] at bg hh2
    rw [show ((w - 1 : Nat) : Int) = (w : Int) - 1 by omega] at hh2
    have hw1 : 1 ≤ w ∧ w ≤ 1000 := by omega
    have hbr1 := (brB_at hop hopb).1
    have hbr2 := (brB_at hop hopa).2
    have hsta := pc_str hok.2.1
    have hstb := pc_str hok.2.2
    have hi1 : 1 ≤ i := by omega
    have htk := hok.1.2
    have h5 : ¬ t.op = 5 := fun h => by rw [h] at htk; exact absurd htk (by decide)
    have hr : 6 ≤ t.op := by
      unfold takesE at htk
      split at htk
      · cases htk
      · split at htk
        · cases htk
        · omega
    have k1 : hldE b.pc (brB t.op b.root.op true) = heldE b.pc (strE t.op + 1) := by
      rcases hbr1 with hbr | hbr
      · rw [hbr, if_neg h5, if_neg (by omega), ← hstb]; exact hld_held _ _
      · omega
    have k2 : hldE a.pc (brB t.op a.root.op false) = heldE a.pc (if strE t.op = 2 then 3 else strE t.op) := by
      rcases hbr2 with hbr | hbr
      · rw [hbr, ← hsta]; exact hld_held _ _
      · exact absurd htk hbr
    have w1 := hld_wf (p := b.pc) (brB t.op b.root.op true) (m := 8000) (by omega)
    have w2 := hld_wf (p := a.pc) (brB t.op a.root.op false) (m := 8000) (by omega)
    rw [k1] at hh1 w1
    rw [k2] at hh2 w2
    clear he hi hok hbr1 hbr2 k1 k2 i1 i2 hxa hxb hsta hstb hwa hwb hwq
    simp only [Tr.pc, biE]
    generalize heldE b.pc (strE t.op + 1) = y at hh1 w1 ⊢
    generalize heldE a.pc (if strE t.op = 2 then 3 else strE t.op) = z at hh2 w2 ⊢
    obtain ⟨op, k, v, s, n⟩ := t
    simp only at hop q1 q4 hsg htk hh1 hh2 w1 w2 h5 hr ⊢
    generalize sgnE op = sg at q4 hsg ⊢
    obtain ⟨ys, yst, yd⟩ := y
    obtain ⟨zs, zst, zd⟩ := z
    simp only at w1 w2
    refine calls_go (nt := 84) (rs := [.tmp 4, .tmp 5]) Tryd.func46 rfl rfl rfl (by simp) (by intro id h; simp at h <;> omega) ?_; intro Q hQ hW
    repeat' (first
    | (with_reducible refine run_n ?_; with_reducible first | refine hK _ _ (by simp) ?_ | refine hK _ _ ?_; clear hK K)
    | (refine zzc ?_)
    | (with_reducible refine awp_regT (by kernel_rfl) ?_; intro K hK)
    | (with_reducible refine awp_regCM (id := 14) [(6, some 6)] [(6, some 6), (62, none), (63, none), (64, none), (66, none), (68, none)] mixed (by kernel_rfl) (by kernel_rfl) (by kernel_rfl) ?_; intro K hK)
    | (with_reducible refine a_cond (ht := ?_) (hf := ?_) <;> intro hb <;> (try simp at hb) <;> (try contradiction) <;> (try subst hb) <;> (try omega))
    | (with_reducible first | refine a_move (hr:=?_) | refine a_assign (hr:=?_) | refine a_load (hr:=?_) | refine a_fieldAddr (hr:=?_) | refine a_bin (hr:=?_) | refine a_extract (hr:=?_) | refine a_store (hr:=?_) | refine a_alloc (hr:=?_) | refine a_eqB (hr:=?_) | refine a_idxArr (hr:=?_) | refine a_eqS (hr:=?_) | refine a_indexAddr (hr:=?_) | refine a_maxC (hr:=?_) | refine a_call0 (hcall := q1) (hr:=?_) | refine a_call0 (hcall := q4) (hr:=?_) | refine a_callF (hcall := hh1) (hr:=?_) | refine a_callF (hcall := bg) (hr:=?_) | refine a_callF (hcall := hh2) (hr:=?_))
    | fail)
    all_goals ((refine zzr hQ ?_))
    all_goals (exact Fin.drop (by simp; exact .r) (by simp))
theorem c_rCheck (e : List TermV) (hw : ∀ t ∈ e, wfT t) (hl : e.length ≤ 140737488351232) : CallD Tryd.prog 17 [.sl 5 (e.map termAV)] noHeap (.raw (.int .i64 (wholeE e).2)) noHeap := by
  unfold wholeE
  by_cases h40 : 40 < e.length
  · rw [if_pos h40]
    refine calls_go (nt := 51) (rs := [.tmp 2]) Tryd.func17 rfl rfl rfl (by simp) (by intro id h; simp at h <;> omega) ?_; intro Q hQ hW
    repeat' (first
    | (with_reducible refine run_n ?_; with_reducible first | refine hK _ _ (by simp) ?_ | refine hK _ _ ?_; clear hK K)
    | (refine zzc ?_)
    | (with_reducible refine awp_regT (by kernel_rfl) ?_; intro K hK)
    | (with_reducible refine a_cond (ht := ?_) (hf := ?_) <;> intro hb <;> (try simp at hb) <;> (try contradiction) <;> (try subst hb) <;> (try omega))
    | (with_reducible first | refine a_move (hr:=?_) | refine a_assign (hr:=?_) | refine a_load (hr:=?_) | refine a_fieldAddr (hr:=?_) | refine a_bin (hr:=?_) | refine a_lenS (hr:=?_) | refine a_lenR (hr:=?_) | refine a_extract (hr:=?_) | refine a_store (hr:=?_) | refine a_alloc (hr:=?_) | refine a_eqB (hr:=?_) | refine a_neB (hr:=?_) | refine a_idxArr (hr:=?_) | refine a_eqS (hr:=?_) | refine a_neS (hr:=?_) | refine a_indexAddr (hr:=?_))
    | fail)
    all_goals ((refine zzr hQ ?_))
    all_goals (exact Fin.drop (by simp; exact .r) (by simp))
  rw [if_neg h40]
  have hwt := whole_tr e [] (by simp)
  rw [List.map_nil] at hwt
  obtain ⟨R, hR⟩ : ∃ R, wholeL e [] = R := ⟨_, rfl⟩
  rw [hR] at hwt ⊢
  have start : WhI e R 0 [] := ⟨Nat.zero_le _, hR, Nat.le_refl _, by simp [sumS], by simp⟩
  refine calls_go (nt := 51) (rs := [.tmp 2]) Tryd.func17 rfl rfl rfl (by simp) (by intro id h; simp at h <;> omega) ?_; intro Q hQ hW
  repeat' (first
    | (with_reducible refine run_n ?_; with_reducible first | refine hK _ _ (by simp) ?_ | refine hK _ _ ?_; clear hK K)
    | (refine zzc ?_)
    | (with_reducible refine awp_regT (by kernel_rfl) ?_; intro K hK)
    | (with_reducible refine a_cond (ht := ?_) (hf := ?_) <;> intro hb <;> (try simp at hb) <;> (try contradiction) <;> (try subst hb) <;> (try omega))
    | (with_reducible first | refine a_move (hr:=?_) | refine a_assign (hr:=?_) | refine a_load (hr:=?_) | refine a_fieldAddr (hr:=?_) | refine a_bin (hr:=?_) | refine a_lenS (hr:=?_) | refine a_lenR (hr:=?_) | refine a_extract (hr:=?_) | refine a_store (hr:=?_) | refine a_alloc (hr:=?_) | refine a_eqB (hr:=?_) | refine a_neB (hr:=?_) | refine a_idxArr (hr:=?_) | refine a_eqS (hr:=?_) | refine a_neS (hr:=?_) | refine a_indexAddr (hr:=?_))
    | fail)
  refine awp_inv (α := Nat × List Pc) (fun s => [(0, .sl 5 (e.map termAV)), (3, .raw (.int .i64 s.2.length)), (12, .sl 5 (e.map termAV)), (13, .raw (.int .i64 e.length)), (14, .raw (.int .i64 s.1))]) (fun s => hpL []) (fun s => WhI e R s.1 s.2) (fun s => e.length - s.1) (0, []) start (zzw) ?_
  rintro ⟨i, st⟩ g
  simp only at g ⊢
  have hln := g.ln
  have hiN := g.iN
  rcases Nat.lt_or_ge i e.length with hlt | hge
  · have hx := List.getElem?_eq_getElem hlt
    have hd := List.drop_eq_getElem_cons hlt
    have hwt := hw e[i] (List.getElem_mem hlt)
    generalize e[i] = y at hx hd hwt
    have q1 := c_rown y (by have := hwt.2.2.2; omega)
    have heq := g.eq
    rw [hd, wholeL] at heq
    by_cases ho : ownE y = 0
    · rw [if_neg (by simpa using ho)] at heq
      have hop := ownE_op ho
      have q2 := c_rtakes y.op hop
      have htk2 : takesE y.op ≤ 2 := by unfold takesE; split <;> (try split) <;> omega
      rw [ho] at q1
      by_cases hn : st.length < takesE y.op
      · rw [if_pos hn] at heq
        have hF : outW R = (Pc.z, 6) := by rw [← heq]; rfl
        rw [hF] at hQ
        generalize takesE y.op = tk at q2 hn htk2
        clear heq g hd hF
        obtain ⟨op, k, v, s, n⟩ := y
        repeat' (first
    | (with_reducible refine run_n ?_; with_reducible first | refine hK _ _ (by simp) ?_ | refine hK _ _ ?_; clear hK K)
    | (refine zzc ?_)
    | (with_reducible refine awp_regT (by kernel_rfl) ?_; intro K hK)
    | (with_reducible refine a_cond (ht := ?_) (hf := ?_) <;> intro hb <;> (try simp at hb) <;> (try contradiction) <;> (try subst hb) <;> (try omega))
    | (with_reducible first | refine a_move (hr:=?_) | refine a_assign (hr:=?_) | refine a_load (hr:=?_) | refine a_fieldAddr (hr:=?_) | refine a_bin (hr:=?_) | refine a_lenS (hr:=?_) | refine a_lenR (hr:=?_) | refine a_extract (hr:=?_) | refine a_store (hr:=?_) | refine a_alloc (hr:=?_) | refine a_eqB (hr:=?_) | refine a_neB (hr:=?_) | refine a_idxArr (hr:=?_) | refine a_eqS (hr:=?_) | refine a_neS (hr:=?_) | refine a_indexAddr (hr:=?_) | refine a_call0 (hcall := q1) (hr:=?_) | refine a_call0 (hcall := q2) (hr:=?_))
    | fail)
        all_goals ((refine zzr hQ ?_))
        all_goals (exact Fin.drop (by simp; exact .r) (by simp))
      · have gn := g.next hd ho hn
        have hlen : (st.take (st.length - takesE y.op) ++ [joinE y (st.drop (st.length - takesE y.op))]).length + takesE y.op = st.length + 1 := by
          rw [List.length_append, List.length_take, List.length_singleton]; omega
        generalize st.take (st.length - takesE y.op) ++ [joinE y (st.drop (st.length - takesE y.op))] = st2 at gn hlen
        generalize takesE y.op = tk at q2 hn htk2 hlen
        clear heq g hd
        obtain ⟨op, k, v, s, n⟩ := y
        repeat' (first
    | (with_reducible refine run_n ?_; with_reducible first | refine hK _ _ (by simp) ?_ | refine hK _ _ ?_; clear hK K)
    | (refine zzc ?_)
    | (with_reducible refine awp_regT (by kernel_rfl) ?_; intro K hK)
    | (with_reducible refine a_cond (ht := ?_) (hf := ?_) <;> intro hb <;> (try simp at hb) <;> (try contradiction) <;> (try subst hb) <;> (try omega))
    | (with_reducible first | refine a_move (hr:=?_) | refine a_assign (hr:=?_) | refine a_load (hr:=?_) | refine a_fieldAddr (hr:=?_) | refine a_bin (hr:=?_) | refine a_lenS (hr:=?_) | refine a_lenR (hr:=?_) | refine a_extract (hr:=?_) | refine a_store (hr:=?_) | refine a_alloc (hr:=?_) | refine a_eqB (hr:=?_) | refine a_neB (hr:=?_) | refine a_idxArr (hr:=?_) | refine a_eqS (hr:=?_) | refine a_neS (hr:=?_) | refine a_indexAddr (hr:=?_) | refine a_call0 (hcall := q1) (hr:=?_) | refine a_call0 (hcall := q2) (hr:=?_))
    | fail)
        exact ⟨(i + 1, st2), by simp only; omega, gn, zzw⟩
    · rw [if_pos ho] at heq
      have hF : outW R = (Pc.z, ownE y) := by rw [← heq]; unfold outW; rw [if_pos ho]
      rw [hF] at hQ
      generalize ownE y = ow at q1 ho hQ
      clear heq g hd hF
      obtain ⟨op, k, v, s, n⟩ := y
      repeat' (first
    | (with_reducible refine run_n ?_; with_reducible first | refine hK _ _ (by simp) ?_ | refine hK _ _ ?_; clear hK K)
    | (refine zzc ?_)
    | (with_reducible refine awp_regT (by kernel_rfl) ?_; intro K hK)
    | (with_reducible refine a_cond (ht := ?_) (hf := ?_) <;> intro hb <;> (try simp at hb) <;> (try contradiction) <;> (try subst hb) <;> (try omega))
    | (with_reducible first | refine a_move (hr:=?_) | refine a_assign (hr:=?_) | refine a_load (hr:=?_) | refine a_fieldAddr (hr:=?_) | refine a_bin (hr:=?_) | refine a_lenS (hr:=?_) | refine a_lenR (hr:=?_) | refine a_extract (hr:=?_) | refine a_store (hr:=?_) | refine a_alloc (hr:=?_) | refine a_eqB (hr:=?_) | refine a_neB (hr:=?_) | refine a_idxArr (hr:=?_) | refine a_eqS (hr:=?_) | refine a_neS (hr:=?_) | refine a_indexAddr (hr:=?_) | refine a_call0 (hcall := q1) (hr:=?_))
    | fail)
      all_goals ((refine zzr hQ ?_))
      all_goals (exact Fin.drop (by simp; exact .r) (by simp))
  · obtain rfl : i = e.length := by have := g.iN; omega
    have heq := g.eq
    rw [List.drop_length, wholeL] at heq
    rw [← heq] at hQ hwt
    obtain ⟨us, r1, r2, r3⟩ := hwt rfl
    simp only at r1
    subst r1
    clear heq hR start g
    rcases us with _ | ⟨T, _ | ⟨b, l⟩⟩
    · simp only [List.map_nil, outW, Pc.z] at hQ
      repeat' (first
    | (with_reducible refine run_n ?_; with_reducible first | refine hK _ _ (by simp) ?_ | refine hK _ _ ?_; clear hK K)
    | (refine zzc ?_)
    | (with_reducible refine awp_regT (by kernel_rfl) ?_; intro K hK)
    | (with_reducible refine a_cond (ht := ?_) (hf := ?_) <;> intro hb <;> (try simp at hb) <;> (try contradiction) <;> (try subst hb) <;> (try omega))
    | (with_reducible first | refine a_move (hr:=?_) | refine a_assign (hr:=?_) | refine a_load (hr:=?_) | refine a_fieldAddr (hr:=?_) | refine a_bin (hr:=?_) | refine a_lenS (hr:=?_) | refine a_lenR (hr:=?_) | refine a_extract (hr:=?_) | refine a_store (hr:=?_) | refine a_alloc (hr:=?_) | refine a_eqB (hr:=?_) | refine a_neB (hr:=?_) | refine a_idxArr (hr:=?_) | refine a_eqS (hr:=?_) | refine a_neS (hr:=?_) | refine a_indexAddr (hr:=?_))
    | fail)
      all_goals ((refine zzr hQ ?_))
      all_goals (exact Fin.drop (by simp; exact .r) (by simp))
    · have hfl : T.flat = e := by simpa [flats] using r3
      have hfn := T.flat_ne
      rw [hfl] at hfn
      have hp := c_part e (by omega) hw T [] [] (e.length - 1) (r2 T (by simp)) (by simp [hfl]) (by rw [hfl]; simp; omega)
      rw [show ((e.length - 1 : Nat) : Int) = (e.length : Int) - 1 by omega] at hp
      simp only [List.map_cons, List.map_nil, outW] at hQ
      generalize T.pc = p at hp hQ
      obtain ⟨xa, xb, xc⟩ := p
      simp only at hQ hp
      by_cases hd : 12 < xc
      · rw [if_pos hd] at hQ
        unfold Pc.z at hQ
        repeat' (first
    | (with_reducible refine run_n ?_; with_reducible first | refine hK _ _ (by simp) ?_ | refine hK _ _ ?_; clear hK K)
    | (refine zzc ?_)
    | (with_reducible refine awp_regT (by kernel_rfl) ?_; intro K hK)
    | (with_reducible refine a_cond (ht := ?_) (hf := ?_) <;> intro hb <;> (try simp at hb) <;> (try contradiction) <;> (try subst hb) <;> (try omega))
    | (with_reducible first | refine a_move (hr:=?_) | refine a_assign (hr:=?_) | refine a_load (hr:=?_) | refine a_fieldAddr (hr:=?_) | refine a_bin (hr:=?_) | refine a_lenS (hr:=?_) | refine a_lenR (hr:=?_) | refine a_extract (hr:=?_) | refine a_store (hr:=?_) | refine a_alloc (hr:=?_) | refine a_eqB (hr:=?_) | refine a_neB (hr:=?_) | refine a_idxArr (hr:=?_) | refine a_eqS (hr:=?_) | refine a_neS (hr:=?_) | refine a_indexAddr (hr:=?_) | refine a_callF (hcall := hp) (hr:=?_))
    | fail)
        all_goals ((refine zzr hQ ?_))
        all_goals (exact Fin.drop (by simp; exact .r) (by simp))
      · rw [if_neg hd] at hQ
        repeat' (first
    | (with_reducible refine run_n ?_; with_reducible first | refine hK _ _ (by simp) ?_ | refine hK _ _ ?_; clear hK K)
    | (refine zzc ?_)
    | (with_reducible refine awp_regT (by kernel_rfl) ?_; intro K hK)
    | (with_reducible refine a_cond (ht := ?_) (hf := ?_) <;> intro hb <;> (try simp at hb) <;> (try contradiction) <;> (try subst hb) <;> (try omega))
    | (with_reducible first | refine a_move (hr:=?_) | refine a_assign (hr:=?_) | refine a_load (hr:=?_) | refine a_fieldAddr (hr:=?_) | refine a_bin (hr:=?_) | refine a_lenS (hr:=?_) | refine a_lenR (hr:=?_) | refine a_extract (hr:=?_) | refine a_store (hr:=?_) | refine a_alloc (hr:=?_) | refine a_eqB (hr:=?_) | refine a_neB (hr:=?_) | refine a_idxArr (hr:=?_) | refine a_eqS (hr:=?_) | refine a_neS (hr:=?_) | refine a_indexAddr (hr:=?_) | refine a_callF (hcall := hp) (hr:=?_))
    | fail)
        all_goals ((refine zzr hQ ?_))
        all_goals (exact Fin.drop (by simp; exact .r) (by simp))
    · simp only [List.map_cons, outW, Pc.z] at hQ
      repeat' (first
    | (with_reducible refine run_n ?_; with_reducible first | refine hK _ _ (by simp) ?_ | refine hK _ _ ?_; clear hK K)
    | (refine zzc ?_)
    | (with_reducible refine awp_regT (by kernel_rfl) ?_; intro K hK)
    | (with_reducible refine a_cond (ht := ?_) (hf := ?_) <;> intro hb <;> (try simp at hb) <;> (try contradiction) <;> (try subst hb) <;> (try omega))
    | (with_reducible first | refine a_move (hr:=?_) | refine a_assign (hr:=?_) | refine a_load (hr:=?_) | refine a_fieldAddr (hr:=?_) | refine a_bin (hr:=?_) | refine a_lenS (hr:=?_) | refine a_lenR (hr:=?_) | refine a_extract (hr:=?_) | refine a_store (hr:=?_) | refine a_alloc (hr:=?_) | refine a_eqB (hr:=?_) | refine a_neB (hr:=?_) | refine a_idxArr (hr:=?_) | refine a_eqS (hr:=?_) | refine a_neS (hr:=?_) | refine a_indexAddr (hr:=?_))
    | fail)
      all_goals ((refine zzr hQ ?_))
      all_goals (exact Fin.drop (by simp; exact .r) (by simp))
end Go.Proofs.YtjbbnollidcagaaDoor.Asl

namespace Go.Proofs.YtjbbnollidcagaaDoor.Asl
open Go Go.RowKit
set_option linter.unusedVariables false
set_option linter.unusedSimpArgs false
set_option maxRecDepth 100000
set_option maxHeartbeats 4000000
structure VarV where
  n : ByteArray
  k : Int
  v : Int
  s : ByteArray
  deriving DecidableEq
@[simp] def varAV (x : VarV) : AV := .agg [.raw (.string x.n), valAV x.k x.v x.s]
/-- As it comes in. -/
def vof (x : ByteArray × Int × Int × ByteArray) : VarV := ⟨x.1, x.2.1, x.2.2.1, x.2.2.2⟩
theorem map_vof (l : List (ByteArray × Int × Int × ByteArray)) : (l.map vof).map varAV = l.map fun x => varAV (vof x) := by rw [List.map_map]; rfl
instance : FlatF varAV := ⟨fun x => by simp⟩
def getV : List VarV → ByteArray → (Int × Int × ByteArray) × Bool
  | [], _ => ((0, 0, ⟨#[]⟩), false)
  | x :: l, m => if x.n = m then ((x.k, x.v, x.s), true) else getV l m
abbrev gtAV (t : (Int × Int × ByteArray) × Bool) : AV := .tup [valAV t.1.1 t.1.2.1 t.1.2.2, .raw (.bool t.2)]
theorem c_Get (l : List VarV) (m : ByteArray) (hl : l.length < 9223372036854775808) : CallD Tryd.prog 48 [.sl 4 (l.map varAV), .raw (.string m)] noHeap (gtAV (getV l m)) noHeap := by
  refine calls_go (nt := 22) (rs := [.cell 4 23, .tmp 5]) Tryd.func48 rfl rfl rfl (by simp) (by intro id h; simp at h <;> omega) ?_; intro Q hQ hW
  repeat' (first
    | (with_reducible refine run_n ?_; with_reducible first | refine hK _ _ (by simp) ?_ | refine hK _ _ ?_; clear hK K)
    | (refine zzc ?_)
    | (with_reducible refine awp_regT (by kernel_rfl) ?_; intro K hK)
    | (with_reducible refine a_cond (ht := ?_) (hf := ?_) <;> intro hb <;> (try simp at hb) <;> (try contradiction) <;> (try subst hb) <;> (try omega))
    | (with_reducible first | refine a_move (hr:=?_) | refine a_assign (hr:=?_) | refine a_load (hr:=?_) | refine a_fieldAddr (hr:=?_) | refine a_bin (hr:=?_) | refine a_lenS (hr:=?_) | refine a_lenR (hr:=?_) | refine a_store (hr:=?_) | refine a_alloc (hr:=?_) | refine a_eqB (hr:=?_) | refine a_idxArr (hr:=?_) | refine a_eqS (hr:=?_) | refine a_indexAddr (hr:=?_) | refine a_build (hr:=?_))
    | fail)
  refine awp_inv (α := Nat) (fun i => [(1, .raw (.string m)), (4, .ptr 4 0), (5, .raw (.bool false)), (8, .sl 4 (l.map varAV)), (9, .raw (.int .i64 l.length)), (10, .raw (.int .i64 i))]) (fun _ => hpL [(4, .box (valAV 0 0 ⟨#[]⟩))]) (fun i => i ≤ l.length ∧ getV (l.drop i) m = getV l m) (fun i => l.length - i) 0 ⟨by simp, by simp⟩ (zzw) ?_
  rintro i ⟨g1, g2⟩
  rw [← g2] at hQ
  rcases Nat.lt_or_ge i l.length with hlt | hge
  · have hx := List.getElem?_eq_getElem hlt
    rw [List.drop_eq_getElem_cons hlt] at g2 hQ
    generalize l[i] = y at hx g2 hQ
    obtain ⟨yn, yk, yv, ys⟩ := y
    simp only [getV] at g2 hQ
    by_cases h1 : yn = m
    · rw [if_pos h1] at hQ
      subst h1
      repeat' (first
    | (with_reducible refine run_n ?_; with_reducible first | refine hK _ _ (by simp) ?_ | refine hK _ _ ?_; clear hK K)
    | (refine zzc ?_)
    | (with_reducible refine awp_regT (by kernel_rfl) ?_; intro K hK)
    | (with_reducible refine a_cond (ht := ?_) (hf := ?_) <;> intro hb <;> (try simp at hb) <;> (try contradiction) <;> (try subst hb) <;> (try omega))
    | (with_reducible first | refine a_move (hr:=?_) | refine a_assign (hr:=?_) | refine a_load (hr:=?_) | refine a_fieldAddr (hr:=?_) | refine a_bin (hr:=?_) | refine a_lenS (hr:=?_) | refine a_lenR (hr:=?_) | refine a_store (hr:=?_) | refine a_alloc (hr:=?_) | refine a_eqB (hr:=?_) | refine a_idxArr (hr:=?_) | refine a_eqS (hr:=?_) | refine a_indexAddr (hr:=?_) | refine a_build (hr:=?_))
    | fail)
      (refine zzr hQ ?_)
      exact Fin.drop (by simp; exact .r) (by simp)
    · rw [if_neg h1] at g2 hQ
      repeat' (first
    | (with_reducible refine run_n ?_; with_reducible first | refine hK _ _ (by simp) ?_ | refine hK _ _ ?_; clear hK K)
    | (refine zzc ?_)
    | (with_reducible refine awp_regT (by kernel_rfl) ?_; intro K hK)
    | (with_reducible refine a_cond (ht := ?_) (hf := ?_) <;> intro hb <;> (try simp at hb) <;> (try contradiction) <;> (try subst hb) <;> (try omega))
    | (with_reducible first | refine a_move (hr:=?_) | refine a_assign (hr:=?_) | refine a_load (hr:=?_) | refine a_fieldAddr (hr:=?_) | refine a_bin (hr:=?_) | refine a_lenS (hr:=?_) | refine a_lenR (hr:=?_) | refine a_store (hr:=?_) | refine a_alloc (hr:=?_) | refine a_eqB (hr:=?_) | refine a_idxArr (hr:=?_) | refine a_eqS (hr:=?_) | refine a_indexAddr (hr:=?_) | refine a_build (hr:=?_))
    | fail)
      exact ⟨i + 1, by omega, ⟨by omega, g2⟩, zzw⟩
  · obtain rfl : i = l.length := by omega
    rw [List.drop_length] at hQ
    simp only [getV] at hQ
    repeat' (first
    | (with_reducible refine run_n ?_; with_reducible first | refine hK _ _ (by simp) ?_ | refine hK _ _ ?_; clear hK K)
    | (refine zzc ?_)
    | (with_reducible refine awp_regT (by kernel_rfl) ?_; intro K hK)
    | (with_reducible refine a_cond (ht := ?_) (hf := ?_) <;> intro hb <;> (try simp at hb) <;> (try contradiction) <;> (try subst hb) <;> (try omega))
    | (with_reducible first | refine a_move (hr:=?_) | refine a_assign (hr:=?_) | refine a_load (hr:=?_) | refine a_fieldAddr (hr:=?_) | refine a_bin (hr:=?_) | refine a_lenS (hr:=?_) | refine a_lenR (hr:=?_) | refine a_store (hr:=?_) | refine a_alloc (hr:=?_) | refine a_eqB (hr:=?_) | refine a_idxArr (hr:=?_) | refine a_eqS (hr:=?_) | refine a_indexAddr (hr:=?_) | refine a_build (hr:=?_))
    | fail)
    (refine zzr hQ ?_)
    exact Fin.drop (by simp; exact .r) (by simp)
end Go.Proofs.YtjbbnollidcagaaDoor.Asl

namespace Go.Proofs.YtjbbnollidcagaaDoor.Asl
open Go Go.RowKit
open Go.Proofs.YtjbbnollidcagaaDoor.Errs (EV)
set_option linter.unusedVariables false
set_option linter.unusedSimpArgs false
set_option maxRecDepth 100000
set_option maxHeartbeats 4000000
/-- Places, each with a colon behind. -/
def joinS : List ByteArray → ByteArray → ByteArray
  | [], s => s
  | p :: l, s => joinS l (s ++ (p ++ ⟨#[58, 32]⟩))
@[simp] theorem joinS_nil (s : ByteArray) : joinS [] s = s := rfl
instance : FlatF errO := ⟨fun x => by simp⟩
/-- The document's error: whether there is one, its places, its number, whether it asks, and for what. -/
structure RE where
  is : Bool
  ps : List ByteArray
  c : Int
  asks : Bool
  lo : ByteArray
  hi : ByteArray
def plAV (l : List ByteArray) : AV := if l = [] then .raw (.slice none 0 0) else .sl 1 (strs l)
@[simp] theorem plAV_nil : plAV [] = .raw (.slice none 0 0) := rfl
@[simp] theorem plAV_cons (p : ByteArray) (l : List ByteArray) : plAV (p :: l) = .sl 1 (strs (p :: l)) := rfl
abbrev RE.av (x : RE) : AV := .agg [.raw (.bool x.is), plAV x.ps, .raw (.int .i64 x.c), .raw (.bool x.asks), .agg [.raw (.string x.lo), .raw (.string x.hi)]]
theorem c_ROf (c : Int) : CallD Tryd.prog 50 [.raw (.int .i64 c)] noHeap (RE.av ⟨!decide (c = 0), [], c, false, ⟨#[]⟩, ⟨#[]⟩⟩) noHeap := by
  refine calls_go (nt := 7) (rs := [.cell 2 50]) Tryd.func50 rfl rfl rfl (by simp) (by intro id h; simp at h <;> omega) ?_; intro Q hQ hW
  repeat' (first
    | (with_reducible refine run_n ?_; with_reducible first | refine hK _ _ (by simp) ?_ | refine hK _ _ ?_; clear hK K)
    | (refine zzc ?_)
    | (with_reducible refine awp_regT (by kernel_rfl) ?_; intro K hK)
    | (with_reducible refine a_cond (ht := ?_) (hf := ?_) <;> intro hb <;> (try simp at hb) <;> (try contradiction) <;> (try subst hb) <;> (try omega))
    | (with_reducible first | refine a_move (hr:=?_) | refine a_bin (hr:=?_) | refine a_store (hr:=?_) | refine a_alloc (hr:=?_) | refine a_neB (hr:=?_) | refine a_neS (hr:=?_) | refine a_build (hr:=?_))
    | fail)
  all_goals ((refine zzr hQ ?_))
  all_goals (exact Fin.drop (by simp; exact .r) (by simp))
theorem c_RWrap (p : ByteArray) (x : RE) (hl : x.ps.length ≤ 1000000) : CallD Tryd.prog 52 [.raw (.string p), x.av] noHeap (RE.av (if x.is then { x with ps := p :: x.ps } else x)) noHeap := by
  obtain ⟨is, ps, c, asks, lo, hi⟩ := x
  cases is with
  | false =>
    simp only [Bool.false_eq_true, if_false]
    cases ps with
    | nil =>
      refine calls_go (nt := 18) (rs := [.cell 4 50]) Tryd.func52 rfl rfl rfl (by simp) (by intro id h; simp at h <;> omega) ?_; intro Q hQ hW
      repeat' (first
    | (with_reducible refine run_n ?_; with_reducible first | refine hK _ _ (by simp) ?_ | refine hK _ _ ?_; clear hK K)
    | (refine zzc ?_)
    | (with_reducible refine awp_regT (by kernel_rfl) ?_; intro K hK)
    | (with_reducible refine a_cond (ht := ?_) (hf := ?_) <;> intro hb <;> (try simp at hb) <;> (try contradiction) <;> (try subst hb) <;> (try omega))
    | (with_reducible first | refine a_move (hr:=?_) | refine a_assign (hr:=?_) | refine a_load (hr:=?_) | refine a_fieldAddr (hr:=?_) | refine a_un (hr:=?_) | refine a_store (hr:=?_) | refine a_box (hr:=?_) | refine a_alloc (hr:=?_) | refine a_buildSlice (hr:=?_) | refine a_append (hr:=?_) | refine a_append0 (hr:=?_) | refine a_appendX (hr:=?_))
    | fail)
      all_goals ((refine zzr hQ ?_))
      all_goals (exact Fin.drop (by simp; exact .r) (by simp))
    | cons q ps =>
      simp only [RE.av, plAV_cons]
      generalize q :: ps = l at hl ⊢
      refine calls_go (nt := 18) (rs := [.cell 4 50]) Tryd.func52 rfl rfl rfl (by simp) (by intro id h; simp at h <;> omega) ?_; intro Q hQ hW
      repeat' (first
    | (with_reducible refine run_n ?_; with_reducible first | refine hK _ _ (by simp) ?_ | refine hK _ _ ?_; clear hK K)
    | (refine zzc ?_)
    | (with_reducible refine awp_regT (by kernel_rfl) ?_; intro K hK)
    | (with_reducible refine a_cond (ht := ?_) (hf := ?_) <;> intro hb <;> (try simp at hb) <;> (try contradiction) <;> (try subst hb) <;> (try omega))
    | (with_reducible first | refine a_move (hr:=?_) | refine a_assign (hr:=?_) | refine a_load (hr:=?_) | refine a_fieldAddr (hr:=?_) | refine a_un (hr:=?_) | refine a_store (hr:=?_) | refine a_box (hr:=?_) | refine a_alloc (hr:=?_) | refine a_buildSlice (hr:=?_) | refine a_append (hr:=?_) | refine a_append0 (hr:=?_) | refine a_appendX (hr:=?_))
    | fail)
      all_goals ((refine zzr hQ ?_))
      all_goals (exact Fin.drop (by simp; exact .r) (by simp))
  | true =>
    simp only [if_true]
    cases ps with
    | nil =>
      refine calls_go (nt := 18) (rs := [.cell 4 50]) Tryd.func52 rfl rfl rfl (by simp) (by intro id h; simp at h <;> omega) ?_; intro Q hQ hW
      repeat' (first
    | (with_reducible refine run_n ?_; with_reducible first | refine hK _ _ (by simp) ?_ | refine hK _ _ ?_; clear hK K)
    | (refine zzc ?_)
    | (with_reducible refine awp_regT (by kernel_rfl) ?_; intro K hK)
    | (with_reducible refine a_cond (ht := ?_) (hf := ?_) <;> intro hb <;> (try simp at hb) <;> (try contradiction) <;> (try subst hb) <;> (try omega))
    | (with_reducible first | refine a_move (hr:=?_) | refine a_assign (hr:=?_) | refine a_load (hr:=?_) | refine a_fieldAddr (hr:=?_) | refine a_un (hr:=?_) | refine a_store (hr:=?_) | refine a_box (hr:=?_) | refine a_alloc (hr:=?_) | refine a_buildSlice (hr:=?_) | refine a_append (hr:=?_) | refine a_append0 (hr:=?_) | refine a_appendX (hr:=?_))
    | fail)
      (refine zzr hQ ?_)
      show Fin _ _ _ (.agg [.raw (.bool true), .sl 1 [.raw (.string p)], .raw (.int .i64 c), .raw (.bool asks), .agg [.raw (.string lo), .raw (.string hi)]])
      exact Fin.frzR (by simp; exact .r) (by simp; exact .r) (by simp; exact .r) (by simp)
    | cons q ps =>
      simp only [RE.av, plAV_cons] at hl ⊢
      generalize q :: ps = l at hl ⊢
      refine calls_go (nt := 18) (rs := [.cell 4 50]) Tryd.func52 rfl rfl rfl (by simp) (by intro id h; simp at h <;> omega) ?_; intro Q hQ hW
      repeat' (first
    | (with_reducible refine run_n ?_; with_reducible first | refine hK _ _ (by simp) ?_ | refine hK _ _ ?_; clear hK K)
    | (refine zzc ?_)
    | (with_reducible refine awp_regT (by kernel_rfl) ?_; intro K hK)
    | (with_reducible refine a_cond (ht := ?_) (hf := ?_) <;> intro hb <;> (try simp at hb) <;> (try contradiction) <;> (try subst hb) <;> (try omega))
    | (with_reducible first | refine a_move (hr:=?_) | refine a_assign (hr:=?_) | refine a_load (hr:=?_) | refine a_fieldAddr (hr:=?_) | refine a_un (hr:=?_) | refine a_store (hr:=?_) | refine a_box (hr:=?_) | refine a_alloc (hr:=?_) | refine a_buildSlice (hr:=?_) | refine a_append (hr:=?_) | refine a_append0 (hr:=?_) | refine a_appendX (hr:=?_))
    | fail)
      (refine zzr hQ ?_)
      show Fin _ _ _ (.agg [.raw (.bool true), .sl 1 (.raw (.string p) :: strs l), .raw (.int .i64 c), .raw (.bool asks), .agg [.raw (.string lo), .raw (.string hi)]])
      exact Fin.frzR (by simp; exact .r) (by simp [List.take_of_length_le, Nat.add_comm 1 l.length]; exact .r) (by simp; exact .r) (by simp)
theorem c_RSame (a b : List ByteArray) (ha : a.length < 9223372036854775808) (hb : b.length < 9223372036854775808) : CallD Tryd.prog 23 [.sl 1 (strs a), .sl 1 (strs b)] noHeap (.raw (.bool (decide (a = b)))) noHeap := by
  by_cases hl : a.length = b.length
  · refine calls_go (nt := 26) (rs := [.tmp 4]) Tryd.func23 rfl rfl rfl (by simp) (by intro id h; simp at h <;> omega) ?_; intro Q hQ hW
    repeat' (first
    | (with_reducible refine run_n ?_; with_reducible first | refine hK _ _ (by simp) ?_ | refine hK _ _ ?_; clear hK K)
    | (refine zzc ?_)
    | (with_reducible refine awp_regT (by kernel_rfl) ?_; intro K hK)
    | (with_reducible refine awp_regAM (id := 6) [] mixed (by kernel_rfl) (by kernel_rfl) ?_; intro K hK)
    | (with_reducible refine a_cond (ht := ?_) (hf := ?_) <;> intro hb <;> (try simp at hb) <;> (try contradiction) <;> (try subst hb) <;> (try omega))
    | (with_reducible first | refine a_move (hr:=?_) | refine a_assign (hr:=?_) | refine a_load (hr:=?_) | refine a_bin (hr:=?_) | refine a_lenS (hr:=?_) | refine a_lenR (hr:=?_) | refine a_neB (hr:=?_) | refine a_idxArr (hr:=?_) | refine a_neS (hr:=?_) | refine a_indexAddr (hr:=?_))
    | fail)
    refine awp_inv (α := Nat) (fun i => [(0, .sl 1 (strs a)), (1, .sl 1 (strs b)), (12, .raw (.int .i64 a.length)), (13, .raw (.int .i64 i))]) (fun _ => hpL []) (fun i => i ≤ a.length ∧ a.take i = b.take i) (fun i => a.length - i) 0 ⟨by simp, by simp⟩ (zzw) ?_
    rintro i ⟨g1, g2⟩
    rcases Nat.lt_or_ge i a.length with hlt | hge
    · have hx := List.getElem?_eq_getElem hlt
      have hx2 := List.getElem?_eq_getElem (show i < b.length by omega)
      have e1 := List.take_succ_eq_append_getElem hlt
      have e2 := List.take_succ_eq_append_getElem (show i < b.length by omega)
      generalize a[i] = y at hx e1
      generalize b[i]'(by omega) = z at hx2 e2
      by_cases he : y = z
      · subst he
        repeat' (first
    | (with_reducible refine run_n ?_; with_reducible first | refine hK _ _ (by simp) ?_ | refine hK _ _ ?_; clear hK K)
    | (refine zzc ?_)
    | (with_reducible refine awp_regT (by kernel_rfl) ?_; intro K hK)
    | (with_reducible refine awp_regAM (id := 6) [] mixed (by kernel_rfl) (by kernel_rfl) ?_; intro K hK)
    | (with_reducible refine a_cond (ht := ?_) (hf := ?_) <;> intro hb <;> (try simp at hb) <;> (try contradiction) <;> (try subst hb) <;> (try omega))
    | (with_reducible first | refine a_move (hr:=?_) | refine a_assign (hr:=?_) | refine a_load (hr:=?_) | refine a_bin (hr:=?_) | refine a_lenS (hr:=?_) | refine a_lenR (hr:=?_) | refine a_neB (hr:=?_) | refine a_idxArr (hr:=?_) | refine a_neS (hr:=?_) | refine a_indexAddr (hr:=?_))
    | fail)
        exact ⟨i + 1, by omega, ⟨by omega, by rw [e1, e2, g2]⟩, zzw⟩
      · have hne : a ≠ b := by
          intro e; subst e; rw [hx] at hx2; exact he (Option.some.inj hx2)
        rw [decide_eq_false hne] at hQ
        clear hne
        repeat' (first
    | (with_reducible refine run_n ?_; with_reducible first | refine hK _ _ (by simp) ?_ | refine hK _ _ ?_; clear hK K)
    | (refine zzc ?_)
    | (with_reducible refine awp_regT (by kernel_rfl) ?_; intro K hK)
    | (with_reducible refine awp_regAM (id := 6) [] mixed (by kernel_rfl) (by kernel_rfl) ?_; intro K hK)
    | (with_reducible refine a_cond (ht := ?_) (hf := ?_) <;> intro hb <;> (try simp at hb) <;> (try contradiction) <;> (try subst hb) <;> (try omega))
    | (with_reducible first | refine a_move (hr:=?_) | refine a_assign (hr:=?_) | refine a_load (hr:=?_) | refine a_bin (hr:=?_) | refine a_lenS (hr:=?_) | refine a_lenR (hr:=?_) | refine a_neB (hr:=?_) | refine a_idxArr (hr:=?_) | refine a_neS (hr:=?_) | refine a_indexAddr (hr:=?_))
    | fail)
        all_goals ((refine zzr hQ ?_))
        all_goals (exact Fin.drop (by simp; exact .r) (by simp))
    · obtain rfl : i = a.length := by omega
      rw [List.take_length, hl, List.take_length] at g2
      subst g2
      rw [decide_eq_true rfl] at hQ
      repeat' (first
    | (with_reducible refine run_n ?_; with_reducible first | refine hK _ _ (by simp) ?_ | refine hK _ _ ?_; clear hK K)
    | (refine zzc ?_)
    | (with_reducible refine awp_regT (by kernel_rfl) ?_; intro K hK)
    | (with_reducible refine awp_regAM (id := 6) [] mixed (by kernel_rfl) (by kernel_rfl) ?_; intro K hK)
    | (with_reducible refine a_cond (ht := ?_) (hf := ?_) <;> intro hb <;> (try simp at hb) <;> (try contradiction) <;> (try subst hb) <;> (try omega))
    | (with_reducible first | refine a_move (hr:=?_) | refine a_assign (hr:=?_) | refine a_load (hr:=?_) | refine a_bin (hr:=?_) | refine a_lenS (hr:=?_) | refine a_lenR (hr:=?_) | refine a_neB (hr:=?_) | refine a_idxArr (hr:=?_) | refine a_neS (hr:=?_) | refine a_indexAddr (hr:=?_))
    | fail)
      (refine zzr hQ ?_)
      exact Fin.drop (by simp; exact .r) (by simp)
  · have hne : a ≠ b := fun e => hl (by rw [e])
    rw [decide_eq_false hne]
    refine calls_go (nt := 26) (rs := [.tmp 4]) Tryd.func23 rfl rfl rfl (by simp) (by intro id h; simp at h <;> omega) ?_; intro Q hQ hW
    repeat' (first
    | (with_reducible refine run_n ?_; with_reducible first | refine hK _ _ (by simp) ?_ | refine hK _ _ ?_; clear hK K)
    | (refine zzc ?_)
    | (with_reducible refine awp_regT (by kernel_rfl) ?_; intro K hK)
    | (with_reducible refine awp_regAM (id := 6) [] mixed (by kernel_rfl) (by kernel_rfl) ?_; intro K hK)
    | (with_reducible refine a_cond (ht := ?_) (hf := ?_) <;> intro hb <;> (try simp at hb) <;> (try contradiction) <;> (try subst hb) <;> (try omega))
    | (with_reducible first | refine a_move (hr:=?_) | refine a_assign (hr:=?_) | refine a_load (hr:=?_) | refine a_bin (hr:=?_) | refine a_lenS (hr:=?_) | refine a_lenR (hr:=?_) | refine a_neB (hr:=?_) | refine a_idxArr (hr:=?_) | refine a_neS (hr:=?_) | refine a_indexAddr (hr:=?_))
    | fail)
    (refine zzr hQ ?_)
    exact Fin.drop (by simp; exact .r) (by simp)
end Go.Proofs.YtjbbnollidcagaaDoor.Asl

namespace Go.Proofs.YtjbbnollidcagaaDoor.Asl
open Go Go.RowKit
open Go.Proofs.YtjbbnollidcagaaDoor.Errs (EV)
set_option linter.unusedVariables false
set_option linter.unusedSimpArgs false
set_option maxRecDepth 100000
set_option maxHeartbeats 4000000
structure Mk where
  asks : Bool
  lo : ByteArray
  hi : ByteArray
  c : Int
  ps : List ByteArray
abbrev Mk.av (m : Mk) : AV := .agg [.raw (.bool m.asks), .raw (.string m.lo), .raw (.string m.hi), .raw (.int .i32 m.c), .sl 1 (strs m.ps)]
def wrapsE (b : Option EV) : List ByteArray → Option EV
  | [] => b
  | p :: l => (wrapsE b l).map (.wrap p)
def Mk.base (m : Mk) : Option EV := if m.asks then some (.need m.lo m.hi) else ofE m.c
def Mk.ev (m : Mk) : Option EV := wrapsE m.base m.ps
def Mk.ok (m : Mk) : Prop := -2147483648 ≤ m.c ∧ m.c ≤ 2147483647 ∧ m.ps.length ≤ 140737488351232
def Mk.few (m : Mk) : Bool := m.ps.all (fun p => decide (p.size ≤ 100)) && decide (m.ps.length ≤ 50)
def Mk.re (m : Mk) : RE := if m.asks then ⟨true, m.ps, 20, true, m.lo, m.hi⟩ else if m.c = 0 then ⟨false, [], m.c, false, ⟨#[]⟩, ⟨#[]⟩⟩ else ⟨true, m.ps, m.c, false, ⟨#[]⟩, ⟨#[]⟩⟩
end Go.Proofs.YtjbbnollidcagaaDoor.Asl

