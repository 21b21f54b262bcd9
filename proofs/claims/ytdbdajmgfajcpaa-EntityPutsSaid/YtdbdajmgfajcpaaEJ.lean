/- EntityPuts. -/
import Derived.Test.YtdbdajmgfajcpaaEI
import Derived.Test.YtdbdajmgfajcpaaVR
import Derived.Test.YtdbdajmgfajcpaaV2
namespace Go.Proofs.Ytdbdajmgfajcpaa.Asl
open Go Go.RowKit
set_option linter.unusedVariables false
set_option linter.unusedSimpArgs false
set_option maxRecDepth 100000
set_option maxHeartbeats 4000000
def varL (x : VarV) : List Int := txtL x.n ++ putV x.k x.v x.s
def putVars (l : List VarV) : List Int := if varsE l = 0 then enc 9 l.length ++ l.flatMap varL else []
def wfV (x : VarV) : Prop := x.n.size ≤ 140737488351232 ∧ x.s.size ≤ 140737488351232 ∧ -9223372036854775808 ≤ x.v ∧ x.v < 9223372036854775808
theorem nameB_len {l : List Int} (h : nameB l = true) : l.length ≤ 16 ∧ l ≠ [] := by
  cases l with
  | nil => simp [nameB] at h
  | cons c l => simp [nameB] at h; simp; omega
theorem rightE_size {k v : Int} {s : ByteArray} (h : rightE k v s = 0) : s.size ≤ 64 := by
  unfold rightE at h
  repeat' split at h
  all_goals first | omega | (rename_i h1; subst h1; decide) | skip
  all_goals (rename_i h1 h2; first | (obtain ⟨_, rfl⟩ := h2; decide) | (subst h2; decide) | skip)
theorem chkV_small : ∀ (l : List VarV) (last : ByteArray), chkV last l = 0 → ∀ x ∈ l, x.n.size ≤ 16 ∧ x.s.size ≤ 64 := by
  intro l
  induction l with
  | nil => intro _ _ x hx; cases hx
  | cons y l ih =>
    intro last h x hx
    simp only [chkV] at h
    by_cases h1 : nameB (bytesOf y.n) = false
    · rw [if_pos h1] at h; cases h
    rw [if_neg h1] at h
    by_cases h2 : sless last y.n = false
    · rw [if_pos h2] at h; cases h
    rw [if_neg h2] at h
    by_cases h3 : rightE y.k y.v y.s ≠ 0
    · rw [if_pos h3] at h; exact absurd h h3
    rw [if_neg h3] at h
    rcases List.mem_cons.1 hx with rfl | hx
    · have := (nameB_len (by simpa using h1)).1
      rw [len_bytes] at this
      exact ⟨this, rightE_size (by simpa using h3)⟩
    · exact ih _ h x hx
theorem varsE_small {l : List VarV} (h : varsE l = 0) : l.length ≤ 8 ∧ ∀ x ∈ l, x.n.size ≤ 16 ∧ x.s.size ≤ 64 := by
  unfold varsE at h
  by_cases h8 : 8 < l.length
  · rw [if_pos h8] at h; cases h
  · rw [if_neg h8] at h
    exact ⟨by omega, chkV_small l _ h⟩
theorem putV_len' (k n : Int) (s : ByteArray) : (putV k n s).length ≤ s.size + 11 := by
  have h1 := (enc_len 9 s.size).1
  have h2 := (enc_len 9 (zz n)).1
  have h3 := len_bytes s
  unfold putV
  by_cases hr : rightE k n s = 0
  · rw [if_neg (by simp [hr])]
    by_cases k3 : k = 3
    · rw [if_pos k3]; simp [h3]; omega
    · rw [if_neg k3]; simp; omega
  · rw [if_pos (by simpa using hr)]; simp
theorem varL_len {x : VarV} (h : x.n.size ≤ 16 ∧ x.s.size ≤ 64) : (varL x).length ≤ 101 := by
  have := txtL_len x.n
  have := putV_len' x.k x.v x.s
  rw [varL, List.length_append]; omega
theorem flat_varL {l : List VarV} (h : ∀ x ∈ l, x.n.size ≤ 16 ∧ x.s.size ≤ 64) : (l.flatMap varL).length ≤ 101 * l.length := by
  induction l with
  | nil => simp
  | cons x l ih =>
    rw [List.flatMap_cons, List.length_append, List.length_cons]
    have := varL_len (h x List.mem_cons_self)
    have := ih (fun y hy => h y (List.mem_cons_of_mem _ hy))
    omega
theorem putVars_len (l : List VarV) : (putVars l).length ≤ 1000 := by
  unfold putVars
  by_cases h : varsE l = 0
  · rw [if_pos h]
    obtain ⟨h1, h2⟩ := varsE_small h
    have := flat_varL h2
    have := (enc_len 9 l.length).1
    rw [List.length_append]; omega
  · rw [if_neg h]; simp
theorem c_PutVars (l : List VarV) (hl : l.length ≤ 140737488351232) (hw : ∀ x ∈ l, wfV x) : CallD Try.prog 30 [.sl 4 (l.map varAV)] noHeap (.sl 1 (u8s (putVars l))) noHeap := by
  have hv := c_Vars l (by omega) (fun x hx => by have := (hw x hx).1; omega)
  unfold putVars
  by_cases h0 : varsE l = 0
  · rw [h0] at hv
    rw [if_pos h0]
    obtain ⟨h8, hsm⟩ := varsE_small h0
    have hU := c_UintT l.length (by omega) (by omega)
    have hUl := (enc_len 9 (l.length : Int)).1
    generalize enc 9 (l.length : Int) = e0 at hU hUl ⊢
    refine calls_go (nt := 30) (rs := [.tmp 2]) Try.func30 rfl rfl rfl (by simp) (by intro id h; simp at h <;> omega) ?_; intro Q hQ hW
    repeat' (first
    | (with_reducible refine run_n ?_; with_reducible first | refine hK _ _ (by simp) ?_ | refine hK _ _ ?_; clear hK K)
    | (with_reducible first | refine awp_seq ?_ | refine then_n ?_ | refine then_r ?_ | refine then_e ?_ | refine awp_skip ?_ | refine awp_label ?_ | refine awp_ret ?_ | refine awp_exit ?_ | refine awp_block ?_ | refine awp_scope ?_ | refine in_n ?_ | refine in_r ?_ | refine in_e ?_ | refine in_ne (by decide) ?_ | refine ng_n ?_ | refine ng_r ?_ | refine ng_e ?_)
    | (with_reducible refine awp_regT (by kernel_rfl) ?_; intro K hK)
    | (with_reducible refine awp_regAM (id := 7) [(20, some 5), (23, some 5)] mixed (by kernel_rfl) (by kernel_rfl) ?_; intro K hK)
    | (with_reducible refine a_cond (ht := ?_) (hf := ?_) <;> intro hb <;> (try simp at hb) <;> (try contradiction) <;> (try subst hb) <;> (try omega))
    | (with_reducible first | refine a_move (hr := ?_) | refine a_assign (hr := ?_) | refine a_load (hr := ?_) | refine a_fieldAddr (hr := ?_) | refine a_bin (hr := ?_) | refine a_lenS (hr := ?_) | refine a_lenR (hr := ?_) | refine a_store (hr := ?_) | refine a_alloc (hr := ?_) | refine a_neB (hr := ?_) | refine a_conv (hr := ?_) | refine a_bytesStr (hr := ?_) | refine a_strBytes (hr := ?_) | refine a_idxArr (hr := ?_) | refine a_neS (hr := ?_) | refine a_indexAddr (hr := ?_) | refine a_buildSlice (hr := ?_) | refine a_callF (hcall := hv) (hr := ?_) | refine a_callN (hcall := hU) (hr := ?_))
    | fail)
    refine awp_inv (α := Nat) (fun i => [(3, .sl 1 (u8s (e0 ++ (l.take i).flatMap varL))), (13, .sl 4 (l.map varAV)), (14, .raw (.int .i64 l.length)), (15, .raw (.int .i64 i))]) (fun _ => hpL []) (fun i => i ≤ l.length) (fun i => l.length - i) 0 (by simp) (weak_o (by repeat' (first | refine sub_ohp (by first | (simp; done) | (intro hne; simp at hne; simp [hne])) (by simp) ?_ | exact sub_hpL (by simp))) (by simp) (by simp <;> omega)) ?_
    intro i g1
    rcases Nat.lt_or_ge i l.length with hlt | hge
    · have hx := List.getElem?_eq_getElem hlt
      have ht := List.take_succ_eq_append_getElem hlt
      have hsx := hsm l[i] (List.getElem_mem hlt)
      have hwx := hw l[i] (List.getElem_mem hlt)
      have hvl := varL_len hsx
      generalize l[i] = y at hx ht hsx hwx hvl
      have ht2 : (l.take (i + 1)).flatMap varL = (l.take i).flatMap varL ++ varL y := by rw [ht, List.flatMap_append]; simp
      have hfl := flat_varL (l := l.take i) (fun x hx => hsm x (List.mem_of_mem_take hx))
      rw [List.length_take] at hfl
      obtain ⟨yn, yk, yv, ys⟩ := y
      have p1 := c_WText yn hwx.1
      have p2 := c_Put yk yv ys hwx.2.2 hwx.2.1
      simp only [varL] at ht2 hvl
      simp only [txtL] at hvl ht2
      generalize (l.take i).flatMap varL = acc at ht2 hfl ⊢
      rw [List.length_append] at hvl
      generalize enc 9 yn.size ++ bytesOf yn = t1 at p1 ht2 hvl
      generalize putV yk yv ys = t2 at p2 ht2 hvl
      have hj := c_JoinT [e0 ++ acc, t1, t2] (by simp; omega) (by simp)
      simp only [rws_cons, rws_nil, List.flatten_cons, List.flatten_nil, List.append_nil, List.append_assoc] at hj
      repeat' (first
    | (with_reducible refine run_n ?_; with_reducible first | refine hK _ _ (by simp) ?_ | refine hK _ _ ?_; clear hK K)
    | (with_reducible first | refine awp_seq ?_ | refine then_n ?_ | refine then_r ?_ | refine then_e ?_ | refine awp_skip ?_ | refine awp_label ?_ | refine awp_ret ?_ | refine awp_exit ?_ | refine awp_block ?_ | refine awp_scope ?_ | refine in_n ?_ | refine in_r ?_ | refine in_e ?_ | refine in_ne (by decide) ?_ | refine ng_n ?_ | refine ng_r ?_ | refine ng_e ?_)
    | (with_reducible refine awp_regT (by kernel_rfl) ?_; intro K hK)
    | (with_reducible refine awp_regAM (id := 7) [(20, some 5), (23, some 5)] mixed (by kernel_rfl) (by kernel_rfl) ?_; intro K hK)
    | (with_reducible refine a_cond (ht := ?_) (hf := ?_) <;> intro hb <;> (try simp at hb) <;> (try contradiction) <;> (try subst hb) <;> (try omega))
    | (with_reducible first | refine a_move (hr := ?_) | refine a_assign (hr := ?_) | refine a_load (hr := ?_) | refine a_fieldAddr (hr := ?_) | refine a_bin (hr := ?_) | refine a_lenS (hr := ?_) | refine a_lenR (hr := ?_) | refine a_store (hr := ?_) | refine a_alloc (hr := ?_) | refine a_neB (hr := ?_) | refine a_conv (hr := ?_) | refine a_bytesStr (hr := ?_) | refine a_strBytes (hr := ?_) | refine a_idxArr (hr := ?_) | refine a_neS (hr := ?_) | refine a_indexAddr (hr := ?_) | refine a_buildSlice (hr := ?_) | refine a_callN (hcall := p1) (hr := ?_) | refine a_callN (hcall := p2) (hr := ?_) | refine a_callF (hcall := hj) (hr := ?_))
    | fail)
      exact ⟨i + 1, by omega, by omega, by rw [ht2]; exact weak_o (by repeat' (first | refine sub_ohp (by first | (simp; done) | (intro hne; simp at hne; simp [hne])) (by simp) ?_ | exact sub_hpL (by simp))) (by simp) (by simp <;> omega)⟩
    · obtain rfl : i = l.length := by omega
      rw [List.take_length]
      repeat' (first
    | (with_reducible refine run_n ?_; with_reducible first | refine hK _ _ (by simp) ?_ | refine hK _ _ ?_; clear hK K)
    | (with_reducible first | refine awp_seq ?_ | refine then_n ?_ | refine then_r ?_ | refine then_e ?_ | refine awp_skip ?_ | refine awp_label ?_ | refine awp_ret ?_ | refine awp_exit ?_ | refine awp_block ?_ | refine awp_scope ?_ | refine in_n ?_ | refine in_r ?_ | refine in_e ?_ | refine in_ne (by decide) ?_ | refine ng_n ?_ | refine ng_r ?_ | refine ng_e ?_)
    | (with_reducible refine awp_regT (by kernel_rfl) ?_; intro K hK)
    | (with_reducible refine awp_regAM (id := 7) [(20, some 5), (23, some 5)] mixed (by kernel_rfl) (by kernel_rfl) ?_; intro K hK)
    | (with_reducible refine a_cond (ht := ?_) (hf := ?_) <;> intro hb <;> (try simp at hb) <;> (try contradiction) <;> (try subst hb) <;> (try omega))
    | (with_reducible first | refine a_move (hr := ?_) | refine a_assign (hr := ?_) | refine a_load (hr := ?_) | refine a_fieldAddr (hr := ?_) | refine a_bin (hr := ?_) | refine a_lenS (hr := ?_) | refine a_lenR (hr := ?_) | refine a_store (hr := ?_) | refine a_alloc (hr := ?_) | refine a_neB (hr := ?_) | refine a_conv (hr := ?_) | refine a_bytesStr (hr := ?_) | refine a_strBytes (hr := ?_) | refine a_idxArr (hr := ?_) | refine a_neS (hr := ?_) | refine a_indexAddr (hr := ?_) | refine a_buildSlice (hr := ?_))
    | fail)
      all_goals ((refine hQ _ _ _ _ (by first | exact .inr rfl | exact .inl rfl) (by simp; exact .r) (by simp; exact .r) ?_))
      all_goals (exact Fin.drop (by simp; exact .r) (by simp))
  · rw [if_neg h0]
    generalize varsE l = e at hv h0
    refine calls_go (nt := 30) (rs := [.tmp 2]) Try.func30 rfl rfl rfl (by simp) (by intro id h; simp at h <;> omega) ?_; intro Q hQ hW
    repeat' (first
    | (with_reducible refine run_n ?_; with_reducible first | refine hK _ _ (by simp) ?_ | refine hK _ _ ?_; clear hK K)
    | (with_reducible first | refine awp_seq ?_ | refine then_n ?_ | refine then_r ?_ | refine then_e ?_ | refine awp_skip ?_ | refine awp_label ?_ | refine awp_ret ?_ | refine awp_exit ?_ | refine awp_block ?_ | refine awp_scope ?_ | refine in_n ?_ | refine in_r ?_ | refine in_e ?_ | refine in_ne (by decide) ?_ | refine ng_n ?_ | refine ng_r ?_ | refine ng_e ?_)
    | (with_reducible refine awp_regT (by kernel_rfl) ?_; intro K hK)
    | (with_reducible refine awp_regAM (id := 7) [(20, some 5), (23, some 5)] mixed (by kernel_rfl) (by kernel_rfl) ?_; intro K hK)
    | (with_reducible refine a_cond (ht := ?_) (hf := ?_) <;> intro hb <;> (try simp at hb) <;> (try contradiction) <;> (try subst hb) <;> (try omega))
    | (with_reducible first | refine a_move (hr := ?_) | refine a_assign (hr := ?_) | refine a_load (hr := ?_) | refine a_fieldAddr (hr := ?_) | refine a_bin (hr := ?_) | refine a_lenS (hr := ?_) | refine a_lenR (hr := ?_) | refine a_store (hr := ?_) | refine a_alloc (hr := ?_) | refine a_neB (hr := ?_) | refine a_conv (hr := ?_) | refine a_bytesStr (hr := ?_) | refine a_strBytes (hr := ?_) | refine a_idxArr (hr := ?_) | refine a_neS (hr := ?_) | refine a_indexAddr (hr := ?_) | refine a_buildSlice (hr := ?_) | refine a_callF (hcall := hv) (hr := ?_))
    | fail)
    all_goals ((refine hQ _ _ _ _ (by first | exact .inr rfl | exact .inl rfl) (by simp; exact .r) (by simp; exact .r) ?_))
    all_goals (exact Fin.nil (by simp))
theorem c_rPutVars (l : List VarV) (hl : l.length ≤ 140737488351232) (hw : ∀ x ∈ l, wfV x) : CallD Try.prog 31 [.sl 4 (l.map varAV)] noHeap (.sl 1 (u8s (putVars l))) noHeap := by
  have hv := c_rVars l (by omega) (fun x hx => by have := (hw x hx).1; omega)
  unfold putVars
  by_cases h0 : varsE l = 0
  · rw [h0] at hv
    rw [if_pos h0]
    obtain ⟨h8, hsm⟩ := varsE_small h0
    have hU := c_rUintT l.length (by omega) (by omega)
    have hUl := (enc_len 9 (l.length : Int)).1
    generalize enc 9 (l.length : Int) = e0 at hU hUl ⊢
    refine calls_go (nt := 30) (rs := [.tmp 2]) Try.func31 rfl rfl rfl (by simp) (by intro id h; simp at h <;> omega) ?_; intro Q hQ hW
    repeat' (first
    | (with_reducible refine run_n ?_; with_reducible first | refine hK _ _ (by simp) ?_ | refine hK _ _ ?_; clear hK K)
    | (with_reducible first | refine awp_seq ?_ | refine then_n ?_ | refine then_r ?_ | refine then_e ?_ | refine awp_skip ?_ | refine awp_label ?_ | refine awp_ret ?_ | refine awp_exit ?_ | refine awp_block ?_ | refine awp_scope ?_ | refine in_n ?_ | refine in_r ?_ | refine in_e ?_ | refine in_ne (by decide) ?_ | refine ng_n ?_ | refine ng_r ?_ | refine ng_e ?_)
    | (with_reducible refine awp_regT (by kernel_rfl) ?_; intro K hK)
    | (with_reducible refine awp_regAM (id := 7) [(20, some 5), (23, some 5)] mixed (by kernel_rfl) (by kernel_rfl) ?_; intro K hK)
    | (with_reducible refine a_cond (ht := ?_) (hf := ?_) <;> intro hb <;> (try simp at hb) <;> (try contradiction) <;> (try subst hb) <;> (try omega))
    | (with_reducible first | refine a_move (hr := ?_) | refine a_assign (hr := ?_) | refine a_load (hr := ?_) | refine a_fieldAddr (hr := ?_) | refine a_bin (hr := ?_) | refine a_lenS (hr := ?_) | refine a_lenR (hr := ?_) | refine a_store (hr := ?_) | refine a_alloc (hr := ?_) | refine a_neB (hr := ?_) | refine a_conv (hr := ?_) | refine a_bytesStr (hr := ?_) | refine a_strBytes (hr := ?_) | refine a_idxArr (hr := ?_) | refine a_neS (hr := ?_) | refine a_indexAddr (hr := ?_) | refine a_buildSlice (hr := ?_) | refine a_callF (hcall := hv) (hr := ?_) | refine a_callN (hcall := hU) (hr := ?_))
    | fail)
    refine awp_inv (α := Nat) (fun i => [(3, .sl 1 (u8s (e0 ++ (l.take i).flatMap varL))), (13, .sl 4 (l.map varAV)), (14, .raw (.int .i64 l.length)), (15, .raw (.int .i64 i))]) (fun _ => hpL []) (fun i => i ≤ l.length) (fun i => l.length - i) 0 (by simp) (weak_o (by repeat' (first | refine sub_ohp (by first | (simp; done) | (intro hne; simp at hne; simp [hne])) (by simp) ?_ | exact sub_hpL (by simp))) (by simp) (by simp <;> omega)) ?_
    intro i g1
    rcases Nat.lt_or_ge i l.length with hlt | hge
    · have hx := List.getElem?_eq_getElem hlt
      have ht := List.take_succ_eq_append_getElem hlt
      have hsx := hsm l[i] (List.getElem_mem hlt)
      have hwx := hw l[i] (List.getElem_mem hlt)
      have hvl := varL_len hsx
      generalize l[i] = y at hx ht hsx hwx hvl
      have ht2 : (l.take (i + 1)).flatMap varL = (l.take i).flatMap varL ++ varL y := by rw [ht, List.flatMap_append]; simp
      have hfl := flat_varL (l := l.take i) (fun x hx => hsm x (List.mem_of_mem_take hx))
      rw [List.length_take] at hfl
      obtain ⟨yn, yk, yv, ys⟩ := y
      have p1 := c_rText yn hwx.1
      have p2 := c_rPut yk yv ys hwx.2.2 hwx.2.1
      simp only [varL] at ht2 hvl
      simp only [txtL] at hvl ht2
      generalize (l.take i).flatMap varL = acc at ht2 hfl ⊢
      rw [List.length_append] at hvl
      generalize enc 9 yn.size ++ bytesOf yn = t1 at p1 ht2 hvl
      generalize putV yk yv ys = t2 at p2 ht2 hvl
      have hj := c_rJoinT [e0 ++ acc, t1, t2] (by simp; omega) (by simp)
      simp only [rws_cons, rws_nil, List.flatten_cons, List.flatten_nil, List.append_nil, List.append_assoc] at hj
      repeat' (first
    | (with_reducible refine run_n ?_; with_reducible first | refine hK _ _ (by simp) ?_ | refine hK _ _ ?_; clear hK K)
    | (with_reducible first | refine awp_seq ?_ | refine then_n ?_ | refine then_r ?_ | refine then_e ?_ | refine awp_skip ?_ | refine awp_label ?_ | refine awp_ret ?_ | refine awp_exit ?_ | refine awp_block ?_ | refine awp_scope ?_ | refine in_n ?_ | refine in_r ?_ | refine in_e ?_ | refine in_ne (by decide) ?_ | refine ng_n ?_ | refine ng_r ?_ | refine ng_e ?_)
    | (with_reducible refine awp_regT (by kernel_rfl) ?_; intro K hK)
    | (with_reducible refine awp_regAM (id := 7) [(20, some 5), (23, some 5)] mixed (by kernel_rfl) (by kernel_rfl) ?_; intro K hK)
    | (with_reducible refine a_cond (ht := ?_) (hf := ?_) <;> intro hb <;> (try simp at hb) <;> (try contradiction) <;> (try subst hb) <;> (try omega))
    | (with_reducible first | refine a_move (hr := ?_) | refine a_assign (hr := ?_) | refine a_load (hr := ?_) | refine a_fieldAddr (hr := ?_) | refine a_bin (hr := ?_) | refine a_lenS (hr := ?_) | refine a_lenR (hr := ?_) | refine a_store (hr := ?_) | refine a_alloc (hr := ?_) | refine a_neB (hr := ?_) | refine a_conv (hr := ?_) | refine a_bytesStr (hr := ?_) | refine a_strBytes (hr := ?_) | refine a_idxArr (hr := ?_) | refine a_neS (hr := ?_) | refine a_indexAddr (hr := ?_) | refine a_buildSlice (hr := ?_) | refine a_callN (hcall := p1) (hr := ?_) | refine a_callN (hcall := p2) (hr := ?_) | refine a_callF (hcall := hj) (hr := ?_))
    | fail)
      exact ⟨i + 1, by omega, by omega, by rw [ht2]; exact weak_o (by repeat' (first | refine sub_ohp (by first | (simp; done) | (intro hne; simp at hne; simp [hne])) (by simp) ?_ | exact sub_hpL (by simp))) (by simp) (by simp <;> omega)⟩
    · obtain rfl : i = l.length := by omega
      rw [List.take_length]
      repeat' (first
    | (with_reducible refine run_n ?_; with_reducible first | refine hK _ _ (by simp) ?_ | refine hK _ _ ?_; clear hK K)
    | (with_reducible first | refine awp_seq ?_ | refine then_n ?_ | refine then_r ?_ | refine then_e ?_ | refine awp_skip ?_ | refine awp_label ?_ | refine awp_ret ?_ | refine awp_exit ?_ | refine awp_block ?_ | refine awp_scope ?_ | refine in_n ?_ | refine in_r ?_ | refine in_e ?_ | refine in_ne (by decide) ?_ | refine ng_n ?_ | refine ng_r ?_ | refine ng_e ?_)
    | (with_reducible refine awp_regT (by kernel_rfl) ?_; intro K hK)
    | (with_reducible refine awp_regAM (id := 7) [(20, some 5), (23, some 5)] mixed (by kernel_rfl) (by kernel_rfl) ?_; intro K hK)
    | (with_reducible refine a_cond (ht := ?_) (hf := ?_) <;> intro hb <;> (try simp at hb) <;> (try contradiction) <;> (try subst hb) <;> (try omega))
    | (with_reducible first | refine a_move (hr := ?_) | refine a_assign (hr := ?_) | refine a_load (hr := ?_) | refine a_fieldAddr (hr := ?_) | refine a_bin (hr := ?_) | refine a_lenS (hr := ?_) | refine a_lenR (hr := ?_) | refine a_store (hr := ?_) | refine a_alloc (hr := ?_) | refine a_neB (hr := ?_) | refine a_conv (hr := ?_) | refine a_bytesStr (hr := ?_) | refine a_strBytes (hr := ?_) | refine a_idxArr (hr := ?_) | refine a_neS (hr := ?_) | refine a_indexAddr (hr := ?_) | refine a_buildSlice (hr := ?_))
    | fail)
      all_goals ((refine hQ _ _ _ _ (by first | exact .inr rfl | exact .inl rfl) (by simp; exact .r) (by simp; exact .r) ?_))
      all_goals (exact Fin.drop (by simp; exact .r) (by simp))
  · rw [if_neg h0]
    generalize varsE l = e at hv h0
    refine calls_go (nt := 30) (rs := [.tmp 2]) Try.func31 rfl rfl rfl (by simp) (by intro id h; simp at h <;> omega) ?_; intro Q hQ hW
    repeat' (first
    | (with_reducible refine run_n ?_; with_reducible first | refine hK _ _ (by simp) ?_ | refine hK _ _ ?_; clear hK K)
    | (with_reducible first | refine awp_seq ?_ | refine then_n ?_ | refine then_r ?_ | refine then_e ?_ | refine awp_skip ?_ | refine awp_label ?_ | refine awp_ret ?_ | refine awp_exit ?_ | refine awp_block ?_ | refine awp_scope ?_ | refine in_n ?_ | refine in_r ?_ | refine in_e ?_ | refine in_ne (by decide) ?_ | refine ng_n ?_ | refine ng_r ?_ | refine ng_e ?_)
    | (with_reducible refine awp_regT (by kernel_rfl) ?_; intro K hK)
    | (with_reducible refine awp_regAM (id := 7) [(20, some 5), (23, some 5)] mixed (by kernel_rfl) (by kernel_rfl) ?_; intro K hK)
    | (with_reducible refine a_cond (ht := ?_) (hf := ?_) <;> intro hb <;> (try simp at hb) <;> (try contradiction) <;> (try subst hb) <;> (try omega))
    | (with_reducible first | refine a_move (hr := ?_) | refine a_assign (hr := ?_) | refine a_load (hr := ?_) | refine a_fieldAddr (hr := ?_) | refine a_bin (hr := ?_) | refine a_lenS (hr := ?_) | refine a_lenR (hr := ?_) | refine a_store (hr := ?_) | refine a_alloc (hr := ?_) | refine a_neB (hr := ?_) | refine a_conv (hr := ?_) | refine a_bytesStr (hr := ?_) | refine a_strBytes (hr := ?_) | refine a_idxArr (hr := ?_) | refine a_neS (hr := ?_) | refine a_indexAddr (hr := ?_) | refine a_buildSlice (hr := ?_) | refine a_callF (hcall := hv) (hr := ?_))
    | fail)
    all_goals ((refine hQ _ _ _ _ (by first | exact .inr rfl | exact .inl rfl) (by simp; exact .r) (by simp; exact .r) ?_))
    all_goals (exact Fin.nil (by simp))
end Go.Proofs.Ytdbdajmgfajcpaa.Asl
