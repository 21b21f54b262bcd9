/- Values: what is read. -/
import Derived.Test.YtdbdajmgfajcpaaV1
import Derived.Test.YtdbdajmgfajcpaaPA
namespace Go.Proofs.Ytdbdajmgfajcpaa.Asl
open Go Go.RowKit
set_option linter.unusedVariables false
set_option linter.unusedSimpArgs false
set_option maxRecDepth 100000
set_option maxHeartbeats 4000000
/-- The value that bytes begin with: kind, number, text; how many bytes; what is wrong. -/
def takeV : List Int → (Int × Int × ByteArray) × Int × Int
  | [] => ((0, 0, ⟨#[]⟩), 0, 6)
  | c :: l =>
    if c = 1 then (if (dI l).2.2 ≠ 0 then ((0, 0, ⟨#[]⟩), 0, (dI l).2.2) else ((1, (dI l).1, ⟨#[]⟩), 1 + ((dI l).2.1 : Int), 0))
    else if c = 2 then (if (dI l).2.2 ≠ 0 then ((0, 0, ⟨#[]⟩), 0, (dI l).2.2) else if (dI l).1 = 0 ∨ (dI l).1 = 1 then ((2, (dI l).1, ⟨#[]⟩), 1 + ((dI l).2.1 : Int), 0) else ((0, 0, ⟨#[]⟩), 0, 1))
    else if c = 3 then (if (dT l 64).2.2 ≠ 0 then ((0, 0, ⟨#[]⟩), 0, (dT l 64).2.2) else ((3, 0, strOfNums (dT l 64).1), 1 + ((dT l 64).2.1 : Int), 0))
    else ((0, 0, ⟨#[]⟩), 0, 40)
abbrev tkAV (t : (Int × Int × ByteArray) × Int × Int) : AV := .tup [valAV t.1.1 t.1.2.1 t.1.2.2, .raw (.int .i64 t.2.1), .raw (.int .i64 t.2.2)]
theorem dT_size {l : List Int} (hB : IsB l) {most : Int} (hm : 0 ≤ most) : ((strOfNums (dT l most).1).size : Int) ≤ most := by
  have ho := dec_ok0 hB
  have hz : ∀ m : List Int, (strOfNums m).size = m.length := fun m => by unfold strOfNums; show (List.toArray _).size = _; simp
  rw [hz]
  unfold dT
  by_cases c1 : (dec l 0 0).2.2 ≠ 0
  · rw [if_pos c1]; simpa using hm
  rw [if_neg c1]
  by_cases c2 : most < 0 ∨ most < (dec l 0 0).1
  · rw [if_pos c2]; simpa using hm
  rw [if_neg c2]
  by_cases c3 : (l.length : Int) - (dec l 0 0).2.1 < (dec l 0 0).1
  · rw [if_pos c3]; simpa using hm
  rw [if_neg c3]
  simp only [List.length_take]
  omega
theorem dI_le {l : List Int} (hB : IsB l) : (dI l).2.1 ≤ l.length := dU_le hB _
theorem c_Take (bs : List Int) (hB : IsB bs) (hl : bs.length ≤ 140737488351232) : CallD Try.prog 91 [.sl 1 (u8s bs)] noHeap (tkAV (takeV bs)) noHeap := by
  rcases bs with _ | ⟨c, l⟩
  · refine calls_go (nt := 53) (rs := [.cell 2 106, .tmp 3, .tmp 4]) Try.func91 rfl rfl rfl (by simp) (by intro id h; simp at h <;> omega) ?_; intro Q hQ hW
    repeat' (first
    | (with_reducible refine run_n ?_; with_reducible first | refine hK _ _ (by simp) ?_ | refine hK _ _ ?_; clear hK K)
    | (with_reducible first | refine awp_seq ?_ | refine then_n ?_ | refine then_r ?_ | refine then_e ?_ | refine awp_skip ?_ | refine awp_label ?_ | refine awp_ret ?_ | refine awp_exit ?_ | refine awp_block ?_ | refine awp_scope ?_ | refine in_n ?_ | refine in_r ?_ | refine in_e ?_ | refine in_ne (by decide) ?_ | refine ng_n ?_ | refine ng_r ?_ | refine ng_e ?_)
    | (with_reducible refine awp_regT (by kernel_rfl) ?_; intro K hK)
    | (with_reducible refine awp_regAM (id := 19) [(2, some 2), (5, some 5)] mixed (by kernel_rfl) (by kernel_rfl) ?_; intro K hK)
    | (with_reducible refine a_cond (ht := ?_) (hf := ?_) <;> intro hb <;> (try simp at hb) <;> (try contradiction) <;> (try subst hb) <;> (try omega))
    | (with_reducible first | refine a_move (hr := ?_) | refine a_assign (hr := ?_) | refine a_load (hr := ?_) | refine a_bin (hr := ?_) | refine a_lenS (hr := ?_) | refine a_lenR (hr := ?_) | refine a_store (hr := ?_) | refine a_alloc (hr := ?_) | refine a_eqB (hr := ?_) | refine a_neB (hr := ?_) | refine a_idxArr (hr := ?_) | refine a_sliceArr (hr := ?_) | refine a_eqS (hr := ?_) | refine a_neS (hr := ?_) | refine a_sliceS (hr := ?_) | refine a_sliceR (hr := ?_) | refine a_indexAddr (hr := ?_) | refine a_build (hr := ?_))
    | fail)
    all_goals ((refine hQ _ _ _ _ (by first | exact .inr rfl | exact .inl rfl) (by simp; exact .r) (by simp; exact .r) ?_))
    all_goals (exact Fin.drop (by simp; exact .r) (by simp))
  have hc := (isB_cons.1 hB).1
  have hBl := (isB_cons.1 hB).2
  simp only [takeV]
  have hx : (c :: l)[0]? = some c := rfl
  have ht : (c :: l).tail = l := rfl
  have hlen : (c :: l).length = l.length + 1 := rfl
  have ca : CallD Try.prog 75 [.sl 1 (u8s (c :: l).tail)] noHeap (.ptr 99999 0) (setH noHeap 99999 (.box (rdAV l 0 0))) := c_Read l (by omega)
  have hi := c_RdInt l 0 0 hBl (by omega) (by omega)
  have hil := dI_le hBl
  have htx := c_RdText l 0 0 64 hBl (by omega) (by omega) (by omega)
  have htl := dT_le hBl 64
  have hts := dT_size hBl (most := 64) (by omega)
  simp only [ne_eq, not_true, if_false, nxA, nxE, List.drop_zero, Nat.zero_add] at hi htx
  have he := fun a e => c_Err l a e
  have hL := fun (a : Nat) (e : Int) (h : a ≤ l.length) => c_Left l a e (by omega) h
  generalize dI l = d at hi hil ⊢
  obtain ⟨v, k, e⟩ := d
  generalize dT l 64 = g at htx htl hts ⊢
  obtain ⟨w, j, e2⟩ := g
  simp only at hi hil htx htl hts ⊢
  generalize strOfNums w = s at htx hts ⊢
  have hne : ¬ c :: l = [] := by simp
  generalize c :: l = bs at hx ht hlen hl hne ca ⊢
  have hn1 : (bs.length : Int) - ((l.length : Int) - (k : Int)) = 1 + k := by omega
  have hn2 : (bs.length : Int) - ((l.length : Int) - (j : Int)) = 1 + j := by omega
  by_cases c1 : c = 1
  · subst c1
    rw [if_pos rfl]
    have r1 := c_Right 1 v ⟨#[]⟩
    rw [show rightE 1 v ⟨#[]⟩ = 0 by simp [rightE]] at r1
    have h1 := c_VInt v
    have he := he k e
    have hL := hL k e hil
    by_cases h0 : e = 0
    · subst h0
      rw [if_neg (by simp)]
      refine calls_go (nt := 53) (rs := [.cell 2 106, .tmp 3, .tmp 4]) Try.func91 rfl rfl rfl (by simp) (by intro id h; simp at h <;> omega) ?_; intro Q hQ hW
      repeat' (first
    | (with_reducible refine run_n ?_; with_reducible first | refine hK _ _ (by simp) ?_ | refine hK _ _ ?_; clear hK K)
    | (with_reducible first | refine awp_seq ?_ | refine then_n ?_ | refine then_r ?_ | refine then_e ?_ | refine awp_skip ?_ | refine awp_label ?_ | refine awp_ret ?_ | refine awp_exit ?_ | refine awp_block ?_ | refine awp_scope ?_ | refine in_n ?_ | refine in_r ?_ | refine in_e ?_ | refine in_ne (by decide) ?_ | refine ng_n ?_ | refine ng_r ?_ | refine ng_e ?_)
    | (with_reducible refine awp_regT (by kernel_rfl) ?_; intro K hK)
    | (with_reducible refine awp_regCM (id := 19) [(2, some 2), (5, some 5)] [(2, some 2), (5, some 5), (48, none), (50, some 15)] mixed (by kernel_rfl) (by kernel_rfl) (by kernel_rfl) ?_; intro K hK)
    | (with_reducible refine a_cond (ht := ?_) (hf := ?_) <;> intro hb <;> (try simp at hb) <;> (try contradiction) <;> (try subst hb) <;> (try omega))
    | (with_reducible first | refine a_move (hr := ?_) | refine a_assign (hr := ?_) | refine a_load (hr := ?_) | refine a_bin (hr := ?_) | refine a_lenS (hr := ?_) | refine a_lenR (hr := ?_) | refine a_store (hr := ?_) | refine a_alloc (hr := ?_) | refine a_eqB (hr := ?_) | refine a_neB (hr := ?_) | refine a_idxArr (hr := ?_) | refine a_sliceArr (hr := ?_) | refine a_eqS (hr := ?_) | refine a_neS (hr := ?_) | refine a_sliceS (hr := ?_) | refine a_sliceR (hr := ?_) | refine a_indexAddr (hr := ?_) | refine a_build (hr := ?_) | refine a_callB (hcall := ca) (hr := ?_) | refine a_callP (p := 15) (hcall := hi) (hr := ?_) | refine a_call0 (hcall := h1) (hr := ?_) | refine a_callP (p := 15) (hcall := he) (hr := ?_) | refine a_call0 (hcall := r1) (hr := ?_) | refine a_callP (p := 15) (hcall := hL) (hr := ?_))
    | fail)
      all_goals ((refine hQ _ _ _ _ (by first | exact .inr rfl | exact .inl rfl) (by simp; exact .r) (by simp; exact .r) ?_))
      all_goals (try rw [hn1])
      all_goals (exact Fin.drop (by simp; exact .r) (by simp))
    · rw [if_pos (by simpa using h0)]
      refine calls_go (nt := 53) (rs := [.cell 2 106, .tmp 3, .tmp 4]) Try.func91 rfl rfl rfl (by simp) (by intro id h; simp at h <;> omega) ?_; intro Q hQ hW
      repeat' (first
    | (with_reducible refine run_n ?_; with_reducible first | refine hK _ _ (by simp) ?_ | refine hK _ _ ?_; clear hK K)
    | (with_reducible first | refine awp_seq ?_ | refine then_n ?_ | refine then_r ?_ | refine then_e ?_ | refine awp_skip ?_ | refine awp_label ?_ | refine awp_ret ?_ | refine awp_exit ?_ | refine awp_block ?_ | refine awp_scope ?_ | refine in_n ?_ | refine in_r ?_ | refine in_e ?_ | refine in_ne (by decide) ?_ | refine ng_n ?_ | refine ng_r ?_ | refine ng_e ?_)
    | (with_reducible refine awp_regT (by kernel_rfl) ?_; intro K hK)
    | (with_reducible refine awp_regCM (id := 19) [(2, some 2), (5, some 5)] [(2, some 2), (5, some 5), (48, none), (50, some 15)] mixed (by kernel_rfl) (by kernel_rfl) (by kernel_rfl) ?_; intro K hK)
    | (with_reducible refine a_cond (ht := ?_) (hf := ?_) <;> intro hb <;> (try simp at hb) <;> (try contradiction) <;> (try subst hb) <;> (try omega))
    | (with_reducible first | refine a_move (hr := ?_) | refine a_assign (hr := ?_) | refine a_load (hr := ?_) | refine a_bin (hr := ?_) | refine a_lenS (hr := ?_) | refine a_lenR (hr := ?_) | refine a_store (hr := ?_) | refine a_alloc (hr := ?_) | refine a_eqB (hr := ?_) | refine a_neB (hr := ?_) | refine a_idxArr (hr := ?_) | refine a_sliceArr (hr := ?_) | refine a_eqS (hr := ?_) | refine a_neS (hr := ?_) | refine a_sliceS (hr := ?_) | refine a_sliceR (hr := ?_) | refine a_indexAddr (hr := ?_) | refine a_build (hr := ?_) | refine a_callB (hcall := ca) (hr := ?_) | refine a_callP (p := 15) (hcall := hi) (hr := ?_) | refine a_call0 (hcall := h1) (hr := ?_) | refine a_callP (p := 15) (hcall := he) (hr := ?_) | refine a_call0 (hcall := r1) (hr := ?_) | refine a_callP (p := 15) (hcall := hL) (hr := ?_))
    | fail)
      all_goals ((refine hQ _ _ _ _ (by first | exact .inr rfl | exact .inl rfl) (by simp; exact .r) (by simp; exact .r) ?_))
      all_goals (exact Fin.drop (by simp; exact .r) (by simp))
  rw [if_neg c1]
  by_cases c2 : c = 2
  · subst c2
    rw [if_pos rfl]
    have h1 := c_VInt v
    have he := he k e
    have hL := hL k e hil
    by_cases h0 : e = 0
    · subst h0
      rw [if_neg (by simp)]
      by_cases v01 : v = 0 ∨ v = 1
      · rw [if_pos v01]
        have r1 := c_Right 2 v ⟨#[]⟩
        rw [show rightE 2 v ⟨#[]⟩ = 0 by simp [rightE, v01]] at r1
        refine calls_go (nt := 53) (rs := [.cell 2 106, .tmp 3, .tmp 4]) Try.func91 rfl rfl rfl (by simp) (by intro id h; simp at h <;> omega) ?_; intro Q hQ hW
        repeat' (first
    | (with_reducible refine run_n ?_; with_reducible first | refine hK _ _ (by simp) ?_ | refine hK _ _ ?_; clear hK K)
    | (with_reducible first | refine awp_seq ?_ | refine then_n ?_ | refine then_r ?_ | refine then_e ?_ | refine awp_skip ?_ | refine awp_label ?_ | refine awp_ret ?_ | refine awp_exit ?_ | refine awp_block ?_ | refine awp_scope ?_ | refine in_n ?_ | refine in_r ?_ | refine in_e ?_ | refine in_ne (by decide) ?_ | refine ng_n ?_ | refine ng_r ?_ | refine ng_e ?_)
    | (with_reducible refine awp_regT (by kernel_rfl) ?_; intro K hK)
    | (with_reducible refine awp_regCM (id := 19) [(2, some 2), (5, some 5)] [(2, some 2), (5, some 5), (48, none), (50, some 15)] mixed (by kernel_rfl) (by kernel_rfl) (by kernel_rfl) ?_; intro K hK)
    | (with_reducible refine a_cond (ht := ?_) (hf := ?_) <;> intro hb <;> (try simp at hb) <;> (try contradiction) <;> (try subst hb) <;> (try omega))
    | (with_reducible first | refine a_move (hr := ?_) | refine a_assign (hr := ?_) | refine a_load (hr := ?_) | refine a_bin (hr := ?_) | refine a_lenS (hr := ?_) | refine a_lenR (hr := ?_) | refine a_store (hr := ?_) | refine a_alloc (hr := ?_) | refine a_eqB (hr := ?_) | refine a_neB (hr := ?_) | refine a_idxArr (hr := ?_) | refine a_sliceArr (hr := ?_) | refine a_eqS (hr := ?_) | refine a_neS (hr := ?_) | refine a_sliceS (hr := ?_) | refine a_sliceR (hr := ?_) | refine a_indexAddr (hr := ?_) | refine a_build (hr := ?_) | refine a_callB (hcall := ca) (hr := ?_) | refine a_callP (p := 15) (hcall := hi) (hr := ?_) | refine a_call0 (hcall := h1) (hr := ?_) | refine a_callP (p := 15) (hcall := he) (hr := ?_) | refine a_call0 (hcall := r1) (hr := ?_) | refine a_callP (p := 15) (hcall := hL) (hr := ?_))
    | fail)
        all_goals ((refine hQ _ _ _ _ (by first | exact .inr rfl | exact .inl rfl) (by simp; exact .r) (by simp; exact .r) ?_))
        all_goals (try rw [hn1])
        all_goals (exact Fin.drop (by simp; exact .r) (by simp))
      · rw [if_neg v01]
        have r1 := c_Right 2 v ⟨#[]⟩
        rw [show rightE 2 v ⟨#[]⟩ = 1 by simp [rightE, v01]] at r1
        refine calls_go (nt := 53) (rs := [.cell 2 106, .tmp 3, .tmp 4]) Try.func91 rfl rfl rfl (by simp) (by intro id h; simp at h <;> omega) ?_; intro Q hQ hW
        repeat' (first
    | (with_reducible refine run_n ?_; with_reducible first | refine hK _ _ (by simp) ?_ | refine hK _ _ ?_; clear hK K)
    | (with_reducible first | refine awp_seq ?_ | refine then_n ?_ | refine then_r ?_ | refine then_e ?_ | refine awp_skip ?_ | refine awp_label ?_ | refine awp_ret ?_ | refine awp_exit ?_ | refine awp_block ?_ | refine awp_scope ?_ | refine in_n ?_ | refine in_r ?_ | refine in_e ?_ | refine in_ne (by decide) ?_ | refine ng_n ?_ | refine ng_r ?_ | refine ng_e ?_)
    | (with_reducible refine awp_regT (by kernel_rfl) ?_; intro K hK)
    | (with_reducible refine awp_regCM (id := 19) [(2, some 2), (5, some 5)] [(2, some 2), (5, some 5), (48, none), (50, some 15)] mixed (by kernel_rfl) (by kernel_rfl) (by kernel_rfl) ?_; intro K hK)
    | (with_reducible refine a_cond (ht := ?_) (hf := ?_) <;> intro hb <;> (try simp at hb) <;> (try contradiction) <;> (try subst hb) <;> (try omega))
    | (with_reducible first | refine a_move (hr := ?_) | refine a_assign (hr := ?_) | refine a_load (hr := ?_) | refine a_bin (hr := ?_) | refine a_lenS (hr := ?_) | refine a_lenR (hr := ?_) | refine a_store (hr := ?_) | refine a_alloc (hr := ?_) | refine a_eqB (hr := ?_) | refine a_neB (hr := ?_) | refine a_idxArr (hr := ?_) | refine a_sliceArr (hr := ?_) | refine a_eqS (hr := ?_) | refine a_neS (hr := ?_) | refine a_sliceS (hr := ?_) | refine a_sliceR (hr := ?_) | refine a_indexAddr (hr := ?_) | refine a_build (hr := ?_) | refine a_callB (hcall := ca) (hr := ?_) | refine a_callP (p := 15) (hcall := hi) (hr := ?_) | refine a_call0 (hcall := h1) (hr := ?_) | refine a_callP (p := 15) (hcall := he) (hr := ?_) | refine a_call0 (hcall := r1) (hr := ?_) | refine a_callP (p := 15) (hcall := hL) (hr := ?_))
    | fail)
        all_goals ((refine hQ _ _ _ _ (by first | exact .inr rfl | exact .inl rfl) (by simp; exact .r) (by simp; exact .r) ?_))
        all_goals (exact Fin.drop (by simp; exact .r) (by simp))
    · rw [if_pos (by simpa using h0)]
      have r1 := c_Right 2 v ⟨#[]⟩
      refine calls_go (nt := 53) (rs := [.cell 2 106, .tmp 3, .tmp 4]) Try.func91 rfl rfl rfl (by simp) (by intro id h; simp at h <;> omega) ?_; intro Q hQ hW
      repeat' (first
    | (with_reducible refine run_n ?_; with_reducible first | refine hK _ _ (by simp) ?_ | refine hK _ _ ?_; clear hK K)
    | (with_reducible first | refine awp_seq ?_ | refine then_n ?_ | refine then_r ?_ | refine then_e ?_ | refine awp_skip ?_ | refine awp_label ?_ | refine awp_ret ?_ | refine awp_exit ?_ | refine awp_block ?_ | refine awp_scope ?_ | refine in_n ?_ | refine in_r ?_ | refine in_e ?_ | refine in_ne (by decide) ?_ | refine ng_n ?_ | refine ng_r ?_ | refine ng_e ?_)
    | (with_reducible refine awp_regT (by kernel_rfl) ?_; intro K hK)
    | (with_reducible refine awp_regCM (id := 19) [(2, some 2), (5, some 5)] [(2, some 2), (5, some 5), (48, none), (50, some 15)] mixed (by kernel_rfl) (by kernel_rfl) (by kernel_rfl) ?_; intro K hK)
    | (with_reducible refine a_cond (ht := ?_) (hf := ?_) <;> intro hb <;> (try simp at hb) <;> (try contradiction) <;> (try subst hb) <;> (try omega))
    | (with_reducible first | refine a_move (hr := ?_) | refine a_assign (hr := ?_) | refine a_load (hr := ?_) | refine a_bin (hr := ?_) | refine a_lenS (hr := ?_) | refine a_lenR (hr := ?_) | refine a_store (hr := ?_) | refine a_alloc (hr := ?_) | refine a_eqB (hr := ?_) | refine a_neB (hr := ?_) | refine a_idxArr (hr := ?_) | refine a_sliceArr (hr := ?_) | refine a_eqS (hr := ?_) | refine a_neS (hr := ?_) | refine a_sliceS (hr := ?_) | refine a_sliceR (hr := ?_) | refine a_indexAddr (hr := ?_) | refine a_build (hr := ?_) | refine a_callB (hcall := ca) (hr := ?_) | refine a_callP (p := 15) (hcall := hi) (hr := ?_) | refine a_call0 (hcall := h1) (hr := ?_) | refine a_callP (p := 15) (hcall := he) (hr := ?_) | refine a_call0 (hcall := r1) (hr := ?_) | refine a_callP (p := 15) (hcall := hL) (hr := ?_))
    | fail)
      all_goals ((refine hQ _ _ _ _ (by first | exact .inr rfl | exact .inl rfl) (by simp; exact .r) (by simp; exact .r) ?_))
      all_goals (exact Fin.drop (by simp; exact .r) (by simp))
  rw [if_neg c2]
  by_cases c3 : c = 3
  · subst c3
    rw [if_pos rfl]
    have r1 := c_Right 3 0 s
    rw [show rightE 3 0 s = 0 by simp [rightE]; omega] at r1
    have h2 := c_VText s
    have he := he j e2
    have hL := hL j e2 htl
    by_cases h0 : e2 = 0
    · subst h0
      rw [if_neg (by simp)]
      refine calls_go (nt := 53) (rs := [.cell 2 106, .tmp 3, .tmp 4]) Try.func91 rfl rfl rfl (by simp) (by intro id h; simp at h <;> omega) ?_; intro Q hQ hW
      repeat' (first
    | (with_reducible refine run_n ?_; with_reducible first | refine hK _ _ (by simp) ?_ | refine hK _ _ ?_; clear hK K)
    | (with_reducible first | refine awp_seq ?_ | refine then_n ?_ | refine then_r ?_ | refine then_e ?_ | refine awp_skip ?_ | refine awp_label ?_ | refine awp_ret ?_ | refine awp_exit ?_ | refine awp_block ?_ | refine awp_scope ?_ | refine in_n ?_ | refine in_r ?_ | refine in_e ?_ | refine in_ne (by decide) ?_ | refine ng_n ?_ | refine ng_r ?_ | refine ng_e ?_)
    | (with_reducible refine awp_regT (by kernel_rfl) ?_; intro K hK)
    | (with_reducible refine awp_regCM (id := 19) [(2, some 2), (5, some 5)] [(2, some 2), (5, some 5), (48, none), (50, some 15)] mixed (by kernel_rfl) (by kernel_rfl) (by kernel_rfl) ?_; intro K hK)
    | (with_reducible refine a_cond (ht := ?_) (hf := ?_) <;> intro hb <;> (try simp at hb) <;> (try contradiction) <;> (try subst hb) <;> (try omega))
    | (with_reducible first | refine a_move (hr := ?_) | refine a_assign (hr := ?_) | refine a_load (hr := ?_) | refine a_bin (hr := ?_) | refine a_lenS (hr := ?_) | refine a_lenR (hr := ?_) | refine a_store (hr := ?_) | refine a_alloc (hr := ?_) | refine a_eqB (hr := ?_) | refine a_neB (hr := ?_) | refine a_idxArr (hr := ?_) | refine a_sliceArr (hr := ?_) | refine a_eqS (hr := ?_) | refine a_neS (hr := ?_) | refine a_sliceS (hr := ?_) | refine a_sliceR (hr := ?_) | refine a_indexAddr (hr := ?_) | refine a_build (hr := ?_) | refine a_callB (hcall := ca) (hr := ?_) | refine a_callP (p := 15) (hcall := htx) (hr := ?_) | refine a_call0 (hcall := h2) (hr := ?_) | refine a_callP (p := 15) (hcall := he) (hr := ?_) | refine a_call0 (hcall := r1) (hr := ?_) | refine a_callP (p := 15) (hcall := hL) (hr := ?_))
    | fail)
      all_goals ((refine hQ _ _ _ _ (by first | exact .inr rfl | exact .inl rfl) (by simp; exact .r) (by simp; exact .r) ?_))
      all_goals (try rw [hn2])
      all_goals (exact Fin.drop (by simp; exact .r) (by simp))
    · rw [if_pos (by simpa using h0)]
      refine calls_go (nt := 53) (rs := [.cell 2 106, .tmp 3, .tmp 4]) Try.func91 rfl rfl rfl (by simp) (by intro id h; simp at h <;> omega) ?_; intro Q hQ hW
      repeat' (first
    | (with_reducible refine run_n ?_; with_reducible first | refine hK _ _ (by simp) ?_ | refine hK _ _ ?_; clear hK K)
    | (with_reducible first | refine awp_seq ?_ | refine then_n ?_ | refine then_r ?_ | refine then_e ?_ | refine awp_skip ?_ | refine awp_label ?_ | refine awp_ret ?_ | refine awp_exit ?_ | refine awp_block ?_ | refine awp_scope ?_ | refine in_n ?_ | refine in_r ?_ | refine in_e ?_ | refine in_ne (by decide) ?_ | refine ng_n ?_ | refine ng_r ?_ | refine ng_e ?_)
    | (with_reducible refine awp_regT (by kernel_rfl) ?_; intro K hK)
    | (with_reducible refine awp_regCM (id := 19) [(2, some 2), (5, some 5)] [(2, some 2), (5, some 5), (48, none), (50, some 15)] mixed (by kernel_rfl) (by kernel_rfl) (by kernel_rfl) ?_; intro K hK)
    | (with_reducible refine a_cond (ht := ?_) (hf := ?_) <;> intro hb <;> (try simp at hb) <;> (try contradiction) <;> (try subst hb) <;> (try omega))
    | (with_reducible first | refine a_move (hr := ?_) | refine a_assign (hr := ?_) | refine a_load (hr := ?_) | refine a_bin (hr := ?_) | refine a_lenS (hr := ?_) | refine a_lenR (hr := ?_) | refine a_store (hr := ?_) | refine a_alloc (hr := ?_) | refine a_eqB (hr := ?_) | refine a_neB (hr := ?_) | refine a_idxArr (hr := ?_) | refine a_sliceArr (hr := ?_) | refine a_eqS (hr := ?_) | refine a_neS (hr := ?_) | refine a_sliceS (hr := ?_) | refine a_sliceR (hr := ?_) | refine a_indexAddr (hr := ?_) | refine a_build (hr := ?_) | refine a_callB (hcall := ca) (hr := ?_) | refine a_callP (p := 15) (hcall := htx) (hr := ?_) | refine a_call0 (hcall := h2) (hr := ?_) | refine a_callP (p := 15) (hcall := he) (hr := ?_) | refine a_call0 (hcall := r1) (hr := ?_) | refine a_callP (p := 15) (hcall := hL) (hr := ?_))
    | fail)
      all_goals ((refine hQ _ _ _ _ (by first | exact .inr rfl | exact .inl rfl) (by simp; exact .r) (by simp; exact .r) ?_))
      all_goals (exact Fin.drop (by simp; exact .r) (by simp))
  rw [if_neg c3]
  refine calls_go (nt := 53) (rs := [.cell 2 106, .tmp 3, .tmp 4]) Try.func91 rfl rfl rfl (by simp) (by intro id h; simp at h <;> omega) ?_; intro Q hQ hW
  repeat' (first
    | (with_reducible refine run_n ?_; with_reducible first | refine hK _ _ (by simp) ?_ | refine hK _ _ ?_; clear hK K)
    | (with_reducible first | refine awp_seq ?_ | refine then_n ?_ | refine then_r ?_ | refine then_e ?_ | refine awp_skip ?_ | refine awp_label ?_ | refine awp_ret ?_ | refine awp_exit ?_ | refine awp_block ?_ | refine awp_scope ?_ | refine in_n ?_ | refine in_r ?_ | refine in_e ?_ | refine in_ne (by decide) ?_ | refine ng_n ?_ | refine ng_r ?_ | refine ng_e ?_)
    | (with_reducible refine awp_regT (by kernel_rfl) ?_; intro K hK)
    | (with_reducible refine awp_regCM (id := 19) [(2, some 2), (5, some 5)] [(2, some 2), (5, some 5), (48, none), (50, some 15)] mixed (by kernel_rfl) (by kernel_rfl) (by kernel_rfl) ?_; intro K hK)
    | (with_reducible refine a_cond (ht := ?_) (hf := ?_) <;> intro hb <;> (try simp at hb) <;> (try contradiction) <;> (try subst hb) <;> (try omega))
    | (with_reducible first | refine a_move (hr := ?_) | refine a_assign (hr := ?_) | refine a_load (hr := ?_) | refine a_bin (hr := ?_) | refine a_lenS (hr := ?_) | refine a_lenR (hr := ?_) | refine a_store (hr := ?_) | refine a_alloc (hr := ?_) | refine a_eqB (hr := ?_) | refine a_neB (hr := ?_) | refine a_idxArr (hr := ?_) | refine a_sliceArr (hr := ?_) | refine a_eqS (hr := ?_) | refine a_neS (hr := ?_) | refine a_sliceS (hr := ?_) | refine a_sliceR (hr := ?_) | refine a_indexAddr (hr := ?_) | refine a_build (hr := ?_) | refine a_callB (hcall := ca) (hr := ?_))
    | fail)
  all_goals ((refine hQ _ _ _ _ (by first | exact .inr rfl | exact .inl rfl) (by simp; exact .r) (by simp; exact .r) ?_))
  all_goals (exact Fin.drop (by simp; exact .r) (by simp))
theorem c_rTake (bs : List Int) (hB : IsB bs) (hl : bs.length ≤ 140737488351232) : CallD Try.prog 93 [.sl 1 (u8s bs)] noHeap (tkAV (takeV bs)) noHeap := by
  rcases bs with _ | ⟨c, l⟩
  · refine calls_go (nt := 65) (rs := [.cell 2 106, .tmp 3, .tmp 4]) Try.func93 rfl rfl rfl (by simp) (by intro id h; simp at h <;> omega) ?_; intro Q hQ hW
    repeat' (first
    | (with_reducible refine run_n ?_; with_reducible first | refine hK _ _ (by simp) ?_ | refine hK _ _ ?_; clear hK K)
    | (with_reducible first | refine awp_seq ?_ | refine then_n ?_ | refine then_r ?_ | refine then_e ?_ | refine awp_skip ?_ | refine awp_label ?_ | refine awp_ret ?_ | refine awp_exit ?_ | refine awp_block ?_ | refine awp_scope ?_ | refine in_n ?_ | refine in_r ?_ | refine in_e ?_ | refine in_ne (by decide) ?_ | refine ng_n ?_ | refine ng_r ?_ | refine ng_e ?_)
    | (with_reducible refine awp_regT (by kernel_rfl) ?_; intro K hK)
    | (with_reducible refine awp_regAM (id := 15) [(2, some 2)] mixed (by kernel_rfl) (by kernel_rfl) ?_; intro K hK)
    | (with_reducible refine awp_regAM (id := 16) [(2, some 2), (5, some 5)] mixed (by kernel_rfl) (by kernel_rfl) ?_; intro K hK)
    | (with_reducible refine a_cond (ht := ?_) (hf := ?_) <;> intro hb <;> (try simp at hb) <;> (try contradiction) <;> (try subst hb) <;> (try omega))
    | (with_reducible first | refine a_move (hr := ?_) | refine a_assign (hr := ?_) | refine a_load (hr := ?_) | refine a_fieldAddr (hr := ?_) | refine a_nilCheck (hr := ?_) | refine a_bin (hr := ?_) | refine a_lenS (hr := ?_) | refine a_lenR (hr := ?_) | refine a_pick (hr := ?_) | refine a_store (hr := ?_) | refine a_alloc (hr := ?_) | refine a_eqB (hr := ?_) | refine a_neB (hr := ?_) | refine a_conv (hr := ?_) | refine a_bytesStr (hr := ?_) | refine a_strBytes (hr := ?_) | refine a_idxArr (hr := ?_) | refine a_sliceArr (hr := ?_) | refine a_eqS (hr := ?_) | refine a_neS (hr := ?_) | refine a_sliceS (hr := ?_) | refine a_sliceR (hr := ?_) | refine a_indexAddr (hr := ?_) | refine a_build (hr := ?_) | refine a_gT (hr := ?_) | refine a_gF (hr := ?_) | refine a_gU (hr := ?_))
    | (with_reducible refine a_gB (hT := ?_) (hF := ?_) <;> intro hb <;> (try simp at hb) <;> (try contradiction) <;> (try subst hb) <;> (try omega))
    | fail)
    all_goals ((refine hQ _ _ _ _ (by first | exact .inr rfl | exact .inl rfl) (by simp; exact .r) (by simp; exact .r) ?_))
    all_goals (exact Fin.drop (by simp; exact .r) (by simp))
  have hc := (isB_cons.1 hB).1
  have hBl := (isB_cons.1 hB).2
  simp only [takeV]
  have hx : (c :: l)[0]? = some c := rfl
  have ht : (c :: l).tail = l := rfl
  have hlen : (c :: l).length = l.length + 1 := rfl
  have ca : CallD Try.prog 78 [.sl 1 (u8s (c :: l).tail)] noHeap (.ptr 99999 0) (setH noHeap 99999 (.box (rfAV l 0))) := c_RfRead l (by omega)
  have hi := c_RfInt l 0 hBl (by omega)
  have hil := dI_le hBl
  have htx := c_RfText l 0 64 hBl (by omega) (by omega)
  have htl := dT_le hBl 64
  have hts := dT_size hBl (most := 64) (by omega)
  simp only [ne_eq, not_true, if_false, nxA, nxE, Nat.zero_add] at hi htx
  generalize dI l = d at hi hil ⊢
  obtain ⟨v, k, e⟩ := d
  generalize dT l 64 = g at htx htl hts ⊢
  obtain ⟨w, j, e2⟩ := g
  simp only at hi hil htx htl hts ⊢
  generalize strOfNums w = s at htx hts ⊢
  have hne : ¬ c :: l = [] := by simp
  generalize c :: l = bs at hx ht hlen hl hne ca ⊢
  have hn1 : (bs.length : Int) - ((l.drop k).length : Int) = 1 + k := by rw [List.length_drop]; omega
  have hn2 : (bs.length : Int) - ((l.drop j).length : Int) = 1 + j := by rw [List.length_drop]; omega
  generalize l.drop k = lk at hi hn1
  generalize l.drop j = lj at htx hn2
  by_cases c1 : c = 1
  · subst c1
    rw [if_pos rfl]
    have r1 := c_rRight 1 v ⟨#[]⟩
    rw [show rightE 1 v ⟨#[]⟩ = 0 by simp [rightE]] at r1
    by_cases h0 : e = 0
    · subst h0
      rw [if_neg (by simp)]
      refine calls_go (nt := 65) (rs := [.cell 2 106, .tmp 3, .tmp 4]) Try.func93 rfl rfl rfl (by simp) (by intro id h; simp at h <;> omega) ?_; intro Q hQ hW
      repeat' (first
    | (with_reducible refine run_n ?_; with_reducible first | refine hK _ _ (by simp) ?_ | refine hK _ _ ?_; clear hK K)
    | (with_reducible first | refine awp_seq ?_ | refine then_n ?_ | refine then_r ?_ | refine then_e ?_ | refine awp_skip ?_ | refine awp_label ?_ | refine awp_ret ?_ | refine awp_exit ?_ | refine awp_block ?_ | refine awp_scope ?_ | refine in_n ?_ | refine in_r ?_ | refine in_e ?_ | refine in_ne (by decide) ?_ | refine ng_n ?_ | refine ng_r ?_ | refine ng_e ?_)
    | (with_reducible refine awp_regT (by kernel_rfl) ?_; intro K hK)
    | (with_reducible refine awp_regCM (id := 15) [(2, some 2)] [(2, some 2), (54, some 18)] mixed (by kernel_rfl) (by kernel_rfl) (by kernel_rfl) ?_; intro K hK)
    | (with_reducible refine awp_regCM (id := 16) [(2, some 2), (5, some 5)] [(2, some 2), (5, some 5), (57, none), (61, some 18), (62, none)] mixed (by kernel_rfl) (by kernel_rfl) (by kernel_rfl) ?_; intro K hK)
    | (with_reducible refine a_cond (ht := ?_) (hf := ?_) <;> intro hb <;> (try simp at hb) <;> (try contradiction) <;> (try subst hb) <;> (try omega))
    | (with_reducible first | refine a_move (hr := ?_) | refine a_assign (hr := ?_) | refine a_load (hr := ?_) | refine a_fieldAddr (hr := ?_) | refine a_nilCheck (hr := ?_) | refine a_bin (hr := ?_) | refine a_lenS (hr := ?_) | refine a_lenR (hr := ?_) | refine a_pick (hr := ?_) | refine a_store (hr := ?_) | refine a_alloc (hr := ?_) | refine a_eqB (hr := ?_) | refine a_neB (hr := ?_) | refine a_conv (hr := ?_) | refine a_bytesStr (hr := ?_) | refine a_strBytes (hr := ?_) | refine a_idxArr (hr := ?_) | refine a_sliceArr (hr := ?_) | refine a_eqS (hr := ?_) | refine a_neS (hr := ?_) | refine a_sliceS (hr := ?_) | refine a_sliceR (hr := ?_) | refine a_indexAddr (hr := ?_) | refine a_build (hr := ?_) | refine a_callB (hcall := ca) (hr := ?_) | refine a_callP (p := 18) (hcall := hi) (hr := ?_) | refine a_call0 (hcall := r1) (hr := ?_) | refine a_gT (hr := ?_) | refine a_gF (hr := ?_) | refine a_gU (hr := ?_))
    | (with_reducible refine a_gB (hT := ?_) (hF := ?_) <;> intro hb <;> (try simp at hb) <;> (try contradiction) <;> (try subst hb) <;> (try omega))
    | fail)
      all_goals ((refine hQ _ _ _ _ (by first | exact .inr rfl | exact .inl rfl) (by simp; exact .r) (by simp; exact .r) ?_))
      all_goals (try rw [hn1])
      all_goals (exact Fin.drop (by simp; exact .r) (by simp))
    · rw [if_pos (by simpa using h0)]
      refine calls_go (nt := 65) (rs := [.cell 2 106, .tmp 3, .tmp 4]) Try.func93 rfl rfl rfl (by simp) (by intro id h; simp at h <;> omega) ?_; intro Q hQ hW
      repeat' (first
    | (with_reducible refine run_n ?_; with_reducible first | refine hK _ _ (by simp) ?_ | refine hK _ _ ?_; clear hK K)
    | (with_reducible first | refine awp_seq ?_ | refine then_n ?_ | refine then_r ?_ | refine then_e ?_ | refine awp_skip ?_ | refine awp_label ?_ | refine awp_ret ?_ | refine awp_exit ?_ | refine awp_block ?_ | refine awp_scope ?_ | refine in_n ?_ | refine in_r ?_ | refine in_e ?_ | refine in_ne (by decide) ?_ | refine ng_n ?_ | refine ng_r ?_ | refine ng_e ?_)
    | (with_reducible refine awp_regT (by kernel_rfl) ?_; intro K hK)
    | (with_reducible refine awp_regCM (id := 15) [(2, some 2)] [(2, some 2), (54, some 18)] mixed (by kernel_rfl) (by kernel_rfl) (by kernel_rfl) ?_; intro K hK)
    | (with_reducible refine awp_regCM (id := 16) [(2, some 2), (5, some 5)] [(2, some 2), (5, some 5), (57, none), (61, some 18), (62, none)] mixed (by kernel_rfl) (by kernel_rfl) (by kernel_rfl) ?_; intro K hK)
    | (with_reducible refine a_cond (ht := ?_) (hf := ?_) <;> intro hb <;> (try simp at hb) <;> (try contradiction) <;> (try subst hb) <;> (try omega))
    | (with_reducible first | refine a_move (hr := ?_) | refine a_assign (hr := ?_) | refine a_load (hr := ?_) | refine a_fieldAddr (hr := ?_) | refine a_nilCheck (hr := ?_) | refine a_bin (hr := ?_) | refine a_lenS (hr := ?_) | refine a_lenR (hr := ?_) | refine a_pick (hr := ?_) | refine a_store (hr := ?_) | refine a_alloc (hr := ?_) | refine a_eqB (hr := ?_) | refine a_neB (hr := ?_) | refine a_conv (hr := ?_) | refine a_bytesStr (hr := ?_) | refine a_strBytes (hr := ?_) | refine a_idxArr (hr := ?_) | refine a_sliceArr (hr := ?_) | refine a_eqS (hr := ?_) | refine a_neS (hr := ?_) | refine a_sliceS (hr := ?_) | refine a_sliceR (hr := ?_) | refine a_indexAddr (hr := ?_) | refine a_build (hr := ?_) | refine a_callB (hcall := ca) (hr := ?_) | refine a_callP (p := 18) (hcall := hi) (hr := ?_) | refine a_call0 (hcall := r1) (hr := ?_) | refine a_gT (hr := ?_) | refine a_gF (hr := ?_) | refine a_gU (hr := ?_))
    | (with_reducible refine a_gB (hT := ?_) (hF := ?_) <;> intro hb <;> (try simp at hb) <;> (try contradiction) <;> (try subst hb) <;> (try omega))
    | fail)
      all_goals ((refine hQ _ _ _ _ (by first | exact .inr rfl | exact .inl rfl) (by simp; exact .r) (by simp; exact .r) ?_))
      all_goals (exact Fin.drop (by simp; exact .r) (by simp))
  rw [if_neg c1]
  by_cases c2 : c = 2
  · subst c2
    rw [if_pos rfl]
    by_cases h0 : e = 0
    · subst h0
      rw [if_neg (by simp)]
      by_cases v01 : v = 0 ∨ v = 1
      · rw [if_pos v01]
        have r1 := c_rRight 2 v ⟨#[]⟩
        rw [show rightE 2 v ⟨#[]⟩ = 0 by simp [rightE, v01]] at r1
        refine calls_go (nt := 65) (rs := [.cell 2 106, .tmp 3, .tmp 4]) Try.func93 rfl rfl rfl (by simp) (by intro id h; simp at h <;> omega) ?_; intro Q hQ hW
        repeat' (first
    | (with_reducible refine run_n ?_; with_reducible first | refine hK _ _ (by simp) ?_ | refine hK _ _ ?_; clear hK K)
    | (with_reducible first | refine awp_seq ?_ | refine then_n ?_ | refine then_r ?_ | refine then_e ?_ | refine awp_skip ?_ | refine awp_label ?_ | refine awp_ret ?_ | refine awp_exit ?_ | refine awp_block ?_ | refine awp_scope ?_ | refine in_n ?_ | refine in_r ?_ | refine in_e ?_ | refine in_ne (by decide) ?_ | refine ng_n ?_ | refine ng_r ?_ | refine ng_e ?_)
    | (with_reducible refine awp_regT (by kernel_rfl) ?_; intro K hK)
    | (with_reducible refine awp_regCM (id := 15) [(2, some 2)] [(2, some 2), (54, some 18)] mixed (by kernel_rfl) (by kernel_rfl) (by kernel_rfl) ?_; intro K hK)
    | (with_reducible refine awp_regCM (id := 16) [(2, some 2), (5, some 5)] [(2, some 2), (5, some 5), (57, none), (61, some 18), (62, none)] mixed (by kernel_rfl) (by kernel_rfl) (by kernel_rfl) ?_; intro K hK)
    | (with_reducible refine a_cond (ht := ?_) (hf := ?_) <;> intro hb <;> (try simp at hb) <;> (try contradiction) <;> (try subst hb) <;> (try omega))
    | (with_reducible first | refine a_move (hr := ?_) | refine a_assign (hr := ?_) | refine a_load (hr := ?_) | refine a_fieldAddr (hr := ?_) | refine a_nilCheck (hr := ?_) | refine a_bin (hr := ?_) | refine a_lenS (hr := ?_) | refine a_lenR (hr := ?_) | refine a_pick (hr := ?_) | refine a_store (hr := ?_) | refine a_alloc (hr := ?_) | refine a_eqB (hr := ?_) | refine a_neB (hr := ?_) | refine a_conv (hr := ?_) | refine a_bytesStr (hr := ?_) | refine a_strBytes (hr := ?_) | refine a_idxArr (hr := ?_) | refine a_sliceArr (hr := ?_) | refine a_eqS (hr := ?_) | refine a_neS (hr := ?_) | refine a_sliceS (hr := ?_) | refine a_sliceR (hr := ?_) | refine a_indexAddr (hr := ?_) | refine a_build (hr := ?_) | refine a_callB (hcall := ca) (hr := ?_) | refine a_callP (p := 18) (hcall := hi) (hr := ?_) | refine a_call0 (hcall := r1) (hr := ?_) | refine a_gT (hr := ?_) | refine a_gF (hr := ?_) | refine a_gU (hr := ?_))
    | (with_reducible refine a_gB (hT := ?_) (hF := ?_) <;> intro hb <;> (try simp at hb) <;> (try contradiction) <;> (try subst hb) <;> (try omega))
    | fail)
        all_goals ((refine hQ _ _ _ _ (by first | exact .inr rfl | exact .inl rfl) (by simp; exact .r) (by simp; exact .r) ?_))
        all_goals (try rw [hn1])
        all_goals (exact Fin.drop (by simp; exact .r) (by simp))
      · rw [if_neg v01]
        have r1 := c_rRight 2 v ⟨#[]⟩
        rw [show rightE 2 v ⟨#[]⟩ = 1 by simp [rightE, v01]] at r1
        refine calls_go (nt := 65) (rs := [.cell 2 106, .tmp 3, .tmp 4]) Try.func93 rfl rfl rfl (by simp) (by intro id h; simp at h <;> omega) ?_; intro Q hQ hW
        repeat' (first
    | (with_reducible refine run_n ?_; with_reducible first | refine hK _ _ (by simp) ?_ | refine hK _ _ ?_; clear hK K)
    | (with_reducible first | refine awp_seq ?_ | refine then_n ?_ | refine then_r ?_ | refine then_e ?_ | refine awp_skip ?_ | refine awp_label ?_ | refine awp_ret ?_ | refine awp_exit ?_ | refine awp_block ?_ | refine awp_scope ?_ | refine in_n ?_ | refine in_r ?_ | refine in_e ?_ | refine in_ne (by decide) ?_ | refine ng_n ?_ | refine ng_r ?_ | refine ng_e ?_)
    | (with_reducible refine awp_regT (by kernel_rfl) ?_; intro K hK)
    | (with_reducible refine awp_regCM (id := 15) [(2, some 2)] [(2, some 2), (54, some 18)] mixed (by kernel_rfl) (by kernel_rfl) (by kernel_rfl) ?_; intro K hK)
    | (with_reducible refine awp_regCM (id := 16) [(2, some 2), (5, some 5)] [(2, some 2), (5, some 5), (57, none), (61, some 18), (62, none)] mixed (by kernel_rfl) (by kernel_rfl) (by kernel_rfl) ?_; intro K hK)
    | (with_reducible refine a_cond (ht := ?_) (hf := ?_) <;> intro hb <;> (try simp at hb) <;> (try contradiction) <;> (try subst hb) <;> (try omega))
    | (with_reducible first | refine a_move (hr := ?_) | refine a_assign (hr := ?_) | refine a_load (hr := ?_) | refine a_fieldAddr (hr := ?_) | refine a_nilCheck (hr := ?_) | refine a_bin (hr := ?_) | refine a_lenS (hr := ?_) | refine a_lenR (hr := ?_) | refine a_pick (hr := ?_) | refine a_store (hr := ?_) | refine a_alloc (hr := ?_) | refine a_eqB (hr := ?_) | refine a_neB (hr := ?_) | refine a_conv (hr := ?_) | refine a_bytesStr (hr := ?_) | refine a_strBytes (hr := ?_) | refine a_idxArr (hr := ?_) | refine a_sliceArr (hr := ?_) | refine a_eqS (hr := ?_) | refine a_neS (hr := ?_) | refine a_sliceS (hr := ?_) | refine a_sliceR (hr := ?_) | refine a_indexAddr (hr := ?_) | refine a_build (hr := ?_) | refine a_callB (hcall := ca) (hr := ?_) | refine a_callP (p := 18) (hcall := hi) (hr := ?_) | refine a_call0 (hcall := r1) (hr := ?_) | refine a_gT (hr := ?_) | refine a_gF (hr := ?_) | refine a_gU (hr := ?_))
    | (with_reducible refine a_gB (hT := ?_) (hF := ?_) <;> intro hb <;> (try simp at hb) <;> (try contradiction) <;> (try subst hb) <;> (try omega))
    | fail)
        all_goals ((refine hQ _ _ _ _ (by first | exact .inr rfl | exact .inl rfl) (by simp; exact .r) (by simp; exact .r) ?_))
        all_goals (exact Fin.drop (by simp; exact .r) (by simp))
    · rw [if_pos (by simpa using h0)]
      have r1 := c_rRight 2 v ⟨#[]⟩
      refine calls_go (nt := 65) (rs := [.cell 2 106, .tmp 3, .tmp 4]) Try.func93 rfl rfl rfl (by simp) (by intro id h; simp at h <;> omega) ?_; intro Q hQ hW
      repeat' (first
    | (with_reducible refine run_n ?_; with_reducible first | refine hK _ _ (by simp) ?_ | refine hK _ _ ?_; clear hK K)
    | (with_reducible first | refine awp_seq ?_ | refine then_n ?_ | refine then_r ?_ | refine then_e ?_ | refine awp_skip ?_ | refine awp_label ?_ | refine awp_ret ?_ | refine awp_exit ?_ | refine awp_block ?_ | refine awp_scope ?_ | refine in_n ?_ | refine in_r ?_ | refine in_e ?_ | refine in_ne (by decide) ?_ | refine ng_n ?_ | refine ng_r ?_ | refine ng_e ?_)
    | (with_reducible refine awp_regT (by kernel_rfl) ?_; intro K hK)
    | (with_reducible refine awp_regCM (id := 15) [(2, some 2)] [(2, some 2), (54, some 18)] mixed (by kernel_rfl) (by kernel_rfl) (by kernel_rfl) ?_; intro K hK)
    | (with_reducible refine awp_regCM (id := 16) [(2, some 2), (5, some 5)] [(2, some 2), (5, some 5), (57, none), (61, some 18), (62, none)] mixed (by kernel_rfl) (by kernel_rfl) (by kernel_rfl) ?_; intro K hK)
    | (with_reducible refine a_cond (ht := ?_) (hf := ?_) <;> intro hb <;> (try simp at hb) <;> (try contradiction) <;> (try subst hb) <;> (try omega))
    | (with_reducible first | refine a_move (hr := ?_) | refine a_assign (hr := ?_) | refine a_load (hr := ?_) | refine a_fieldAddr (hr := ?_) | refine a_nilCheck (hr := ?_) | refine a_bin (hr := ?_) | refine a_lenS (hr := ?_) | refine a_lenR (hr := ?_) | refine a_pick (hr := ?_) | refine a_store (hr := ?_) | refine a_alloc (hr := ?_) | refine a_eqB (hr := ?_) | refine a_neB (hr := ?_) | refine a_conv (hr := ?_) | refine a_bytesStr (hr := ?_) | refine a_strBytes (hr := ?_) | refine a_idxArr (hr := ?_) | refine a_sliceArr (hr := ?_) | refine a_eqS (hr := ?_) | refine a_neS (hr := ?_) | refine a_sliceS (hr := ?_) | refine a_sliceR (hr := ?_) | refine a_indexAddr (hr := ?_) | refine a_build (hr := ?_) | refine a_callB (hcall := ca) (hr := ?_) | refine a_callP (p := 18) (hcall := hi) (hr := ?_) | refine a_call0 (hcall := r1) (hr := ?_) | refine a_gT (hr := ?_) | refine a_gF (hr := ?_) | refine a_gU (hr := ?_))
    | (with_reducible refine a_gB (hT := ?_) (hF := ?_) <;> intro hb <;> (try simp at hb) <;> (try contradiction) <;> (try subst hb) <;> (try omega))
    | fail)
      all_goals ((refine hQ _ _ _ _ (by first | exact .inr rfl | exact .inl rfl) (by simp; exact .r) (by simp; exact .r) ?_))
      all_goals (exact Fin.drop (by simp; exact .r) (by simp))
  rw [if_neg c2]
  by_cases c3 : c = 3
  · subst c3
    rw [if_pos rfl]
    have r1 := c_rRight 3 0 s
    rw [show rightE 3 0 s = 0 by simp [rightE]; omega] at r1
    by_cases h0 : e2 = 0
    · subst h0
      rw [if_neg (by simp)]
      refine calls_go (nt := 65) (rs := [.cell 2 106, .tmp 3, .tmp 4]) Try.func93 rfl rfl rfl (by simp) (by intro id h; simp at h <;> omega) ?_; intro Q hQ hW
      repeat' (first
    | (with_reducible refine run_n ?_; with_reducible first | refine hK _ _ (by simp) ?_ | refine hK _ _ ?_; clear hK K)
    | (with_reducible first | refine awp_seq ?_ | refine then_n ?_ | refine then_r ?_ | refine then_e ?_ | refine awp_skip ?_ | refine awp_label ?_ | refine awp_ret ?_ | refine awp_exit ?_ | refine awp_block ?_ | refine awp_scope ?_ | refine in_n ?_ | refine in_r ?_ | refine in_e ?_ | refine in_ne (by decide) ?_ | refine ng_n ?_ | refine ng_r ?_ | refine ng_e ?_)
    | (with_reducible refine awp_regT (by kernel_rfl) ?_; intro K hK)
    | (with_reducible refine awp_regCM (id := 15) [(2, some 2)] [(2, some 2), (54, some 18)] mixed (by kernel_rfl) (by kernel_rfl) (by kernel_rfl) ?_; intro K hK)
    | (with_reducible refine awp_regCM (id := 16) [(2, some 2), (5, some 5)] [(2, some 2), (5, some 5), (57, none), (61, some 18), (62, none)] mixed (by kernel_rfl) (by kernel_rfl) (by kernel_rfl) ?_; intro K hK)
    | (with_reducible refine a_cond (ht := ?_) (hf := ?_) <;> intro hb <;> (try simp at hb) <;> (try contradiction) <;> (try subst hb) <;> (try omega))
    | (with_reducible first | refine a_move (hr := ?_) | refine a_assign (hr := ?_) | refine a_load (hr := ?_) | refine a_fieldAddr (hr := ?_) | refine a_nilCheck (hr := ?_) | refine a_bin (hr := ?_) | refine a_lenS (hr := ?_) | refine a_lenR (hr := ?_) | refine a_pick (hr := ?_) | refine a_store (hr := ?_) | refine a_alloc (hr := ?_) | refine a_eqB (hr := ?_) | refine a_neB (hr := ?_) | refine a_conv (hr := ?_) | refine a_bytesStr (hr := ?_) | refine a_strBytes (hr := ?_) | refine a_idxArr (hr := ?_) | refine a_sliceArr (hr := ?_) | refine a_eqS (hr := ?_) | refine a_neS (hr := ?_) | refine a_sliceS (hr := ?_) | refine a_sliceR (hr := ?_) | refine a_indexAddr (hr := ?_) | refine a_build (hr := ?_) | refine a_callB (hcall := ca) (hr := ?_) | refine a_callP (p := 18) (hcall := htx) (hr := ?_) | refine a_call0 (hcall := r1) (hr := ?_) | refine a_gT (hr := ?_) | refine a_gF (hr := ?_) | refine a_gU (hr := ?_))
    | (with_reducible refine a_gB (hT := ?_) (hF := ?_) <;> intro hb <;> (try simp at hb) <;> (try contradiction) <;> (try subst hb) <;> (try omega))
    | fail)
      all_goals ((refine hQ _ _ _ _ (by first | exact .inr rfl | exact .inl rfl) (by simp; exact .r) (by simp; exact .r) ?_))
      all_goals (try rw [hn2])
      all_goals (exact Fin.drop (by simp; exact .r) (by simp))
    · rw [if_pos (by simpa using h0)]
      refine calls_go (nt := 65) (rs := [.cell 2 106, .tmp 3, .tmp 4]) Try.func93 rfl rfl rfl (by simp) (by intro id h; simp at h <;> omega) ?_; intro Q hQ hW
      repeat' (first
    | (with_reducible refine run_n ?_; with_reducible first | refine hK _ _ (by simp) ?_ | refine hK _ _ ?_; clear hK K)
    | (with_reducible first | refine awp_seq ?_ | refine then_n ?_ | refine then_r ?_ | refine then_e ?_ | refine awp_skip ?_ | refine awp_label ?_ | refine awp_ret ?_ | refine awp_exit ?_ | refine awp_block ?_ | refine awp_scope ?_ | refine in_n ?_ | refine in_r ?_ | refine in_e ?_ | refine in_ne (by decide) ?_ | refine ng_n ?_ | refine ng_r ?_ | refine ng_e ?_)
    | (with_reducible refine awp_regT (by kernel_rfl) ?_; intro K hK)
    | (with_reducible refine awp_regCM (id := 15) [(2, some 2)] [(2, some 2), (54, some 18)] mixed (by kernel_rfl) (by kernel_rfl) (by kernel_rfl) ?_; intro K hK)
    | (with_reducible refine awp_regCM (id := 16) [(2, some 2), (5, some 5)] [(2, some 2), (5, some 5), (57, none), (61, some 18), (62, none)] mixed (by kernel_rfl) (by kernel_rfl) (by kernel_rfl) ?_; intro K hK)
    | (with_reducible refine a_cond (ht := ?_) (hf := ?_) <;> intro hb <;> (try simp at hb) <;> (try contradiction) <;> (try subst hb) <;> (try omega))
    | (with_reducible first | refine a_move (hr := ?_) | refine a_assign (hr := ?_) | refine a_load (hr := ?_) | refine a_fieldAddr (hr := ?_) | refine a_nilCheck (hr := ?_) | refine a_bin (hr := ?_) | refine a_lenS (hr := ?_) | refine a_lenR (hr := ?_) | refine a_pick (hr := ?_) | refine a_store (hr := ?_) | refine a_alloc (hr := ?_) | refine a_eqB (hr := ?_) | refine a_neB (hr := ?_) | refine a_conv (hr := ?_) | refine a_bytesStr (hr := ?_) | refine a_strBytes (hr := ?_) | refine a_idxArr (hr := ?_) | refine a_sliceArr (hr := ?_) | refine a_eqS (hr := ?_) | refine a_neS (hr := ?_) | refine a_sliceS (hr := ?_) | refine a_sliceR (hr := ?_) | refine a_indexAddr (hr := ?_) | refine a_build (hr := ?_) | refine a_callB (hcall := ca) (hr := ?_) | refine a_callP (p := 18) (hcall := htx) (hr := ?_) | refine a_call0 (hcall := r1) (hr := ?_) | refine a_gT (hr := ?_) | refine a_gF (hr := ?_) | refine a_gU (hr := ?_))
    | (with_reducible refine a_gB (hT := ?_) (hF := ?_) <;> intro hb <;> (try simp at hb) <;> (try contradiction) <;> (try subst hb) <;> (try omega))
    | fail)
      all_goals ((refine hQ _ _ _ _ (by first | exact .inr rfl | exact .inl rfl) (by simp; exact .r) (by simp; exact .r) ?_))
      all_goals (exact Fin.drop (by simp; exact .r) (by simp))
  rw [if_neg c3]
  refine calls_go (nt := 65) (rs := [.cell 2 106, .tmp 3, .tmp 4]) Try.func93 rfl rfl rfl (by simp) (by intro id h; simp at h <;> omega) ?_; intro Q hQ hW
  repeat' (first
    | (with_reducible refine run_n ?_; with_reducible first | refine hK _ _ (by simp) ?_ | refine hK _ _ ?_; clear hK K)
    | (with_reducible first | refine awp_seq ?_ | refine then_n ?_ | refine then_r ?_ | refine then_e ?_ | refine awp_skip ?_ | refine awp_label ?_ | refine awp_ret ?_ | refine awp_exit ?_ | refine awp_block ?_ | refine awp_scope ?_ | refine in_n ?_ | refine in_r ?_ | refine in_e ?_ | refine in_ne (by decide) ?_ | refine ng_n ?_ | refine ng_r ?_ | refine ng_e ?_)
    | (with_reducible refine awp_regT (by kernel_rfl) ?_; intro K hK)
    | (with_reducible refine awp_regCM (id := 15) [(2, some 2)] [(2, some 2), (54, some 18)] mixed (by kernel_rfl) (by kernel_rfl) (by kernel_rfl) ?_; intro K hK)
    | (with_reducible refine awp_regCM (id := 16) [(2, some 2), (5, some 5)] [(2, some 2), (5, some 5), (57, none), (61, some 18), (62, none)] mixed (by kernel_rfl) (by kernel_rfl) (by kernel_rfl) ?_; intro K hK)
    | (with_reducible refine a_cond (ht := ?_) (hf := ?_) <;> intro hb <;> (try simp at hb) <;> (try contradiction) <;> (try subst hb) <;> (try omega))
    | (with_reducible first | refine a_move (hr := ?_) | refine a_assign (hr := ?_) | refine a_load (hr := ?_) | refine a_fieldAddr (hr := ?_) | refine a_nilCheck (hr := ?_) | refine a_bin (hr := ?_) | refine a_lenS (hr := ?_) | refine a_lenR (hr := ?_) | refine a_pick (hr := ?_) | refine a_store (hr := ?_) | refine a_alloc (hr := ?_) | refine a_eqB (hr := ?_) | refine a_neB (hr := ?_) | refine a_conv (hr := ?_) | refine a_bytesStr (hr := ?_) | refine a_strBytes (hr := ?_) | refine a_idxArr (hr := ?_) | refine a_sliceArr (hr := ?_) | refine a_eqS (hr := ?_) | refine a_neS (hr := ?_) | refine a_sliceS (hr := ?_) | refine a_sliceR (hr := ?_) | refine a_indexAddr (hr := ?_) | refine a_build (hr := ?_) | refine a_callB (hcall := ca) (hr := ?_) | refine a_gT (hr := ?_) | refine a_gF (hr := ?_) | refine a_gU (hr := ?_))
    | (with_reducible refine a_gB (hT := ?_) (hF := ?_) <;> intro hb <;> (try simp at hb) <;> (try contradiction) <;> (try subst hb) <;> (try omega))
    | fail)
  all_goals ((refine hQ _ _ _ _ (by first | exact .inr rfl | exact .inl rfl) (by simp; exact .r) (by simp; exact .r) ?_))
  all_goals (exact Fin.drop (by simp; exact .r) (by simp))
end Go.Proofs.Ytdbdajmgfajcpaa.Asl
