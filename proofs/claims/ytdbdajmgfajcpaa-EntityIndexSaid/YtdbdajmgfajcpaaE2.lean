/- Chapter 15: keys, the program's. -/
import Derived.Test.YtdbdajmgfajcpaaE1
namespace Go.Proofs.Ytdbdajmgfajcpaa.Asl
open Go Go.RowKit
set_option linter.unusedVariables false
set_option linter.unusedSimpArgs false
set_option maxRecDepth 100000
set_option maxHeartbeats 2000000
attribute [local simp] RefV.zero RefV.of
def RefV.short (r : RefV) : Prop := r.ok ∧ r.n.size ≤ 1000 ∧ r.y.size ≤ 1000 ∧ r.d.size ≤ 1000 ∧ r.i.size ≤ 1000 ∧ 0 ≤ r.k ∧ r.k < 256
theorem texts_small {r : RefV} (h : r.short) : (textsP r).length ≤ 5 ∧ ∀ p ∈ textsP r, p.size ≤ 1000000 := by
  obtain ⟨_, h1, h2, h3, h4, _⟩ := h
  refine ⟨by simp only [textsP, codes, List.length_map, len_bytes]; exact lay_size r.k, fun p hp => ?_⟩
  obtain ⟨c, _, rfl⟩ := List.mem_map.1 hp
  have z : ∀ x, (strOfNums (hexs x)).size = 16 := fun x => by rw [size_of_nums, hexs_len]
  unfold getP
  repeat' split
  all_goals first | omega | (rw [z]; omega)
theorem c_partsV (r : RefV) (hr : r.ok) : CallD Try.prog 45 [r.av] noHeap (if (lay r.k).2 = true then .tup [.sl 1 (strs (textsP r)), (partsL (bytesOf (lay r.k).1) r).2.av, .raw (.int .i64 0)] else .tup [.sl 1 [], r.av, .raw (.int .i64 31)]) noHeap := by
  have := c_parts r hr
  rwa [parts_texts r hr] at this
theorem c_Key (r : RefV) (hr : r.short) : CallD Try.prog 15 [r.av] noHeap (.tup [.raw (.string (keyV r).1), .raw (.int .i64 (keyV r).2)]) noHeap := by
  have hp := c_partsV r hr.1
  have hsm := texts_small hr
  have hm := fun hb => c_Make r.k (textsP r) ⟨hr.2.2.2.2.2.1, hr.2.2.2.2.2.2⟩ hb (by omega) (fun p hp => by have := hsm.2 p hp; omega)
  have hm := hm (by have := keyb_len (k := r.k) hsm.2; omega)
  have hl := parts_left r hr.1
  unfold keyV
  by_cases hk : (lay r.k).2 = true
  · rw [if_pos hk] at hp
    rw [if_neg (by simp [hk])]
    generalize (partsL (bytesOf (lay r.k).1) r).2 = lf at hp hl
    generalize textsP r = ts at hp hm hsm ⊢
    generalize strOfNums (keyb r.k ts) = kk at hm ⊢
    obtain ⟨lk, ln, ly, ld, li, lt, lo, la⟩ := lf
    by_cases he : r = bareP r
    · rw [if_pos he]
      have h2 := hl.2 he
      rw [RefV.of, RefV.mk.injEq] at h2
      obtain ⟨rfl, rfl, rfl, rfl, rfl, rfl, rfl, rfl⟩ := h2
      generalize hr0 : r = r0 at *
      obtain ⟨k, n, y, d, i, t, o, a⟩ := r0
      refine calls_go (nt := 25) (rs := [.tmp 2, .tmp 3]) Try.func15 rfl rfl rfl (by simp) (by intro id h; simp at h <;> omega) ?_; intro Q hQ hW
      repeat' (first
    | (with_reducible refine run_n ?_; with_reducible first | refine hK _ _ (by simp) ?_ | refine hK _ _ ?_; clear hK K)
    | (with_reducible first | refine awp_seq ?_ | refine then_n ?_ | refine then_r ?_ | refine then_e ?_ | refine awp_skip ?_ | refine awp_label ?_ | refine awp_ret ?_ | refine awp_exit ?_ | refine awp_block ?_ | refine awp_scope ?_ | refine in_n ?_ | refine in_r ?_ | refine in_e ?_ | refine in_ne (by decide) ?_ | refine ng_n ?_ | refine ng_r ?_ | refine ng_e ?_)
    | (with_reducible refine awp_regT (by kernel_rfl) ?_; intro K hK)
    | (with_reducible refine a_cond (ht := ?_) (hf := ?_) <;> intro hb <;> (try simp at hb) <;> (try contradiction) <;> (try subst hb) <;> (try omega))
    | (with_reducible first | refine a_move (hr := ?_) | refine a_assign (hr := ?_) | refine a_load (hr := ?_) | refine a_fieldAddr (hr := ?_) | refine a_bin (hr := ?_) | refine a_extract (hr := ?_) | refine a_store (hr := ?_) | refine a_box (hr := ?_) | refine a_alloc (hr := ?_) | refine a_neB (hr := ?_) | refine a_neS (hr := ?_) | refine a_build (hr := ?_) | refine a_call0 (hcall := hp) (hr := ?_) | refine a_callL (hcall := hm) (hr := ?_))
    | fail)
      (refine hQ _ _ _ _ (by first | exact .inr rfl | exact .inl rfl) (by simp; exact .r) (by simp; exact .r) ?_)
      exact Fin.drop (by simp; exact .r) (by simp)
    · rw [if_neg he]
      have h2 : ¬ _ := fun e => he (hl.1 e)
      rw [RefV.of, RefV.mk.injEq] at h2
      clear hl he
      generalize hr0 : r = r0 at *
      obtain ⟨k, n, y, d, i, t, o, a⟩ := r0
      refine calls_go (nt := 25) (rs := [.tmp 2, .tmp 3]) Try.func15 rfl rfl rfl (by simp) (by intro id h; simp at h <;> omega) ?_; intro Q hQ hW
      repeat' (first
    | (with_reducible refine run_n ?_; with_reducible first | refine hK _ _ (by simp) ?_ | refine hK _ _ ?_; clear hK K)
    | (with_reducible first | refine awp_seq ?_ | refine then_n ?_ | refine then_r ?_ | refine then_e ?_ | refine awp_skip ?_ | refine awp_label ?_ | refine awp_ret ?_ | refine awp_exit ?_ | refine awp_block ?_ | refine awp_scope ?_ | refine in_n ?_ | refine in_r ?_ | refine in_e ?_ | refine in_ne (by decide) ?_ | refine ng_n ?_ | refine ng_r ?_ | refine ng_e ?_)
    | (with_reducible refine awp_regT (by kernel_rfl) ?_; intro K hK)
    | (with_reducible refine a_cond (ht := ?_) (hf := ?_) <;> intro hb <;> (try simp at hb) <;> (try contradiction) <;> (try subst hb) <;> (try omega))
    | (with_reducible first | refine a_move (hr := ?_) | refine a_assign (hr := ?_) | refine a_load (hr := ?_) | refine a_fieldAddr (hr := ?_) | refine a_bin (hr := ?_) | refine a_extract (hr := ?_) | refine a_store (hr := ?_) | refine a_box (hr := ?_) | refine a_alloc (hr := ?_) | refine a_neB (hr := ?_) | refine a_neS (hr := ?_) | refine a_build (hr := ?_) | refine a_call0 (hcall := hp) (hr := ?_) | refine a_callL (hcall := hm) (hr := ?_))
    | fail)
      (refine hQ _ _ _ _ (by first | exact .inr rfl | exact .inl rfl) (by simp; exact .r) (by simp; exact .r) ?_)
      exact Fin.drop (by simp; exact .r) (by simp)
  · have hk' : (lay r.k).2 = false := by simpa using hk
    rw [if_neg hk] at hp
    rw [if_pos hk']
    generalize hr0 : r = r0 at *
    obtain ⟨k, n, y, d, i, t, o, a⟩ := r0
    refine calls_go (nt := 25) (rs := [.tmp 2, .tmp 3]) Try.func15 rfl rfl rfl (by simp) (by intro id h; simp at h <;> omega) ?_; intro Q hQ hW
    repeat' (first
    | (with_reducible refine run_n ?_; with_reducible first | refine hK _ _ (by simp) ?_ | refine hK _ _ ?_; clear hK K)
    | (with_reducible first | refine awp_seq ?_ | refine then_n ?_ | refine then_r ?_ | refine then_e ?_ | refine awp_skip ?_ | refine awp_label ?_ | refine awp_ret ?_ | refine awp_exit ?_ | refine awp_block ?_ | refine awp_scope ?_ | refine in_n ?_ | refine in_r ?_ | refine in_e ?_ | refine in_ne (by decide) ?_ | refine ng_n ?_ | refine ng_r ?_ | refine ng_e ?_)
    | (with_reducible refine awp_regT (by kernel_rfl) ?_; intro K hK)
    | (with_reducible refine a_cond (ht := ?_) (hf := ?_) <;> intro hb <;> (try simp at hb) <;> (try contradiction) <;> (try subst hb) <;> (try omega))
    | (with_reducible first | refine a_move (hr := ?_) | refine a_assign (hr := ?_) | refine a_load (hr := ?_) | refine a_fieldAddr (hr := ?_) | refine a_bin (hr := ?_) | refine a_extract (hr := ?_) | refine a_store (hr := ?_) | refine a_box (hr := ?_) | refine a_alloc (hr := ?_) | refine a_neB (hr := ?_) | refine a_neS (hr := ?_) | refine a_build (hr := ?_) | refine a_call0 (hcall := hp) (hr := ?_))
    | fail)
    (refine hQ _ _ _ _ (by first | exact .inr rfl | exact .inl rfl) (by simp; exact .r) (by simp; exact .r) ?_)
    exact Fin.drop (by simp; exact .r) (by simp)
theorem c_Under15 (r : RefV) (m : Int) (hr : r.short) (hm0 : -9223372036854775808 ≤ m) (hm1 : m < 9223372036854775808) : CallD Try.prog 16 [r.av, .raw (.int .i64 m)] noHeap (.tup [.raw (.string (underV r m).1), .raw (.string (underV r m).2)]) noHeap := by
  have hp := c_partsV r hr.1
  have hsm := texts_small hr
  unfold underV
  by_cases hk : (lay r.k).2 = true
  · rw [if_pos hk] at hp
    rw [if_neg (by simp [hk])]
    have hk0 := hr.2.2.2.2.2
    generalize (partsL (bytesOf (lay r.k).1) r).2 = lf at hp
    generalize textsP r = ts at hp hsm ⊢
    have hu := c_Under r.k (ts.take (nth m ts.length)) hk0 (by have := keyb_len (k := r.k) (ps := ts.take (nth m ts.length)) (fun p hp => hsm.2 p (List.mem_of_mem_take hp)); rw [List.length_take] at this; omega) (by rw [List.length_take]; omega) (fun p hp => by have := hsm.2 p (List.mem_of_mem_take hp); omega)
    rw [bytes_of_nums (keyb_isB hk0 _)] at hu
    generalize strOfNums (keyb r.k (ts.take (nth m ts.length))) = k1 at hu ⊢
    generalize strOfNums (after (keyb r.k (ts.take (nth m ts.length)))) = k2 at hu ⊢
    obtain ⟨lk, ln, ly, ld, li, lt, lo, la⟩ := lf
    have hn : (min (max m 0) (ts.length : Int)).toNat = nth m ts.length := rfl
    clear hr
    obtain ⟨k, n, y, d, i, t, o, a⟩ := r
    simp only at hp hu
    rw [← hn] at hu
    refine calls_go (nt := 29) (rs := [.tmp 4, .tmp 5]) Try.func16 rfl rfl rfl (by simp) (by intro id h; simp at h <;> omega) ?_; intro Q hQ hW
    repeat' (first
    | (with_reducible refine run_n ?_; with_reducible first | refine hK _ _ (by simp) ?_ | refine hK _ _ ?_; clear hK K)
    | (with_reducible first | refine awp_seq ?_ | refine then_n ?_ | refine then_r ?_ | refine then_e ?_ | refine awp_skip ?_ | refine awp_label ?_ | refine awp_ret ?_ | refine awp_exit ?_ | refine awp_block ?_ | refine awp_scope ?_ | refine in_n ?_ | refine in_r ?_ | refine in_e ?_ | refine in_ne (by decide) ?_ | refine ng_n ?_ | refine ng_r ?_ | refine ng_e ?_)
    | (with_reducible refine awp_regT (by kernel_rfl) ?_; intro K hK)
    | (with_reducible refine awp_regAM (id := 4) [(17, some 2)] mixed (by kernel_rfl) (by kernel_rfl) ?_; intro K hK)
    | (with_reducible refine a_cond (ht := ?_) (hf := ?_) <;> intro hb <;> (try simp at hb) <;> (try contradiction) <;> (try subst hb) <;> (try omega))
    | (with_reducible first | refine a_move (hr := ?_) | refine a_assign (hr := ?_) | refine a_load (hr := ?_) | refine a_fieldAddr (hr := ?_) | refine a_bin (hr := ?_) | refine a_lenS (hr := ?_) | refine a_lenR (hr := ?_) | refine a_extract (hr := ?_) | refine a_store (hr := ?_) | refine a_box (hr := ?_) | refine a_alloc (hr := ?_) | refine a_neB (hr := ?_) | refine a_sliceArr (hr := ?_) | refine a_neS (hr := ?_) | refine a_sliceS (hr := ?_) | refine a_sliceR (hr := ?_) | refine a_minC (hr := ?_) | refine a_maxC (hr := ?_) | refine a_call0 (hcall := hp) (hr := ?_) | refine a_callL (hcall := hu) (hr := ?_))
    | fail)
    (refine hQ _ _ _ _ (by first | exact .inr rfl | exact .inl rfl) (by simp; exact .r) (by simp; exact .r) ?_)
    exact Fin.drop (by simp; exact .r) (by simp)
  · have hk' : (lay r.k).2 = false := by simpa using hk
    rw [if_neg hk] at hp
    rw [if_pos hk']
    clear hr hsm hk hk'
    obtain ⟨k, n, y, d, i, t, o, a⟩ := r
    refine calls_go (nt := 29) (rs := [.tmp 4, .tmp 5]) Try.func16 rfl rfl rfl (by simp) (by intro id h; simp at h <;> omega) ?_; intro Q hQ hW
    repeat' (first
    | (with_reducible refine run_n ?_; with_reducible first | refine hK _ _ (by simp) ?_ | refine hK _ _ ?_; clear hK K)
    | (with_reducible first | refine awp_seq ?_ | refine then_n ?_ | refine then_r ?_ | refine then_e ?_ | refine awp_skip ?_ | refine awp_label ?_ | refine awp_ret ?_ | refine awp_exit ?_ | refine awp_block ?_ | refine awp_scope ?_ | refine in_n ?_ | refine in_r ?_ | refine in_e ?_ | refine in_ne (by decide) ?_ | refine ng_n ?_ | refine ng_r ?_ | refine ng_e ?_)
    | (with_reducible refine awp_regT (by kernel_rfl) ?_; intro K hK)
    | (with_reducible refine awp_regAM (id := 4) [(17, some 2)] mixed (by kernel_rfl) (by kernel_rfl) ?_; intro K hK)
    | (with_reducible refine a_cond (ht := ?_) (hf := ?_) <;> intro hb <;> (try simp at hb) <;> (try contradiction) <;> (try subst hb) <;> (try omega))
    | (with_reducible first | refine a_move (hr := ?_) | refine a_assign (hr := ?_) | refine a_load (hr := ?_) | refine a_fieldAddr (hr := ?_) | refine a_bin (hr := ?_) | refine a_lenS (hr := ?_) | refine a_lenR (hr := ?_) | refine a_extract (hr := ?_) | refine a_store (hr := ?_) | refine a_box (hr := ?_) | refine a_alloc (hr := ?_) | refine a_neB (hr := ?_) | refine a_sliceArr (hr := ?_) | refine a_neS (hr := ?_) | refine a_sliceS (hr := ?_) | refine a_sliceR (hr := ?_) | refine a_minC (hr := ?_) | refine a_maxC (hr := ?_) | refine a_call0 (hcall := hp) (hr := ?_))
    | fail)
    (refine hQ _ _ _ _ (by first | exact .inr rfl | exact .inl rfl) (by simp; exact .r) (by simp; exact .r) ?_)
    exact Fin.drop (by simp; exact .r) (by simp)
theorem psR_few (kind : Int) (l : List Int) : (psR kind (pk l)).2.1.length ≤ l.length ∧ ∀ p ∈ (psR kind (pk l)).2.1, p.size ≤ l.length := by
  cases h : pk l with
  | none => simp [psR]
  | some ps =>
    have hp := pk_of l.length l ps (Nat.le_refl _) h
    have key : ∀ qs : List (List Int), qs.length ≤ (qs.flatMap encP).length ∧ ∀ q ∈ qs, q.length ≤ (qs.flatMap encP).length := by
      intro qs
      induction qs with
      | nil => simp
      | cons q qs ih =>
        have e1 : (encP q).length = (q.flatMap es1).length + 2 := by simp [encP]
        have e2 : q.length ≤ (q.flatMap es1).length := by
          clear e1 ih
          induction q with
          | nil => simp
          | cons c q ih => rw [List.flatMap_cons, List.length_append, List.length_cons]; have : 1 ≤ (es1 c).length := by unfold es1; split <;> simp
                           omega
        rw [List.flatMap_cons, List.length_append, List.length_cons]
        refine ⟨by omega, fun x hx => ?_⟩
        rcases List.mem_cons.1 hx with rfl | hx
        · omega
        · have := ih.2 x hx; omega
    have hk := key ps
    rw [← hp] at hk
    simp only [psR, List.length_map]
    refine ⟨hk.1, fun p hp => ?_⟩
    obtain ⟨q, hq, rfl⟩ := List.mem_map.1 hp
    rw [size_of_nums]; exact hk.2 q hq
theorem parse_few (s : ByteArray) (hs : s.size ≤ 1000000) : (parseV s).2.1.length ≤ 1000000 := by
  unfold parseV
  split
  · simp
  · have := (psR_few (byteAt s 0) ((bytesOf s).drop 1)).1
    rw [List.length_drop, len_bytes] at this
    omega
theorem parse_small (s : ByteArray) (hs : s.size ≤ 1000000) : ∀ p ∈ (parseV s).2.1, p.size ≤ 1000000 := by
  unfold parseV
  split
  · simp
  · intro p hp
    have := (psR_few (byteAt s 0) ((bytesOf s).drop 1)).2 p hp
    rw [List.length_drop, len_bytes] at this
    omega
def splitAV (p : RefV × Int) : AV := .tup [p.1.av, .raw (.int .i64 p.2)]
theorem c_Split (s : ByteArray) (hs : s.size ≤ 1000000) : CallD Try.prog 20 [.raw (.string s)] noHeap (splitAV (splitV s)) noHeap := by
  have hP := c_Parse s hs
  have hPl : ∀ p ∈ (parseV s).2.1, p.size ≤ 1000000 := parse_small s hs
  have hPn : (parseV s).2.1.length ≤ 1000000 := parse_few s hs
  unfold splitV
  generalize parseV s = pv at hP hPl hPn ⊢
  obtain ⟨kk, l, e0⟩ := pv
  simp only [parseAV] at hP hPl hPn ⊢
  have hL := c_layout kk
  have hsz := lay_size kk
  by_cases he : e0 = 0
  · rw [if_neg (by simp [he])]
    subst he
    by_cases hb1 : (lay kk).2 = false ∨ (lay kk).1.size ≠ l.length
    · rw [if_pos hb1]
      generalize lay kk = ly at hL hb1 hsz
      obtain ⟨want, is⟩ := ly
      simp only at hL hb1 hsz
      cases is with
      | false =>
        refine calls_go (nt := 82) (rs := [.cell 2 27, .tmp 3]) Try.func20 rfl rfl rfl (by simp) (by intro id h; simp at h <;> omega) ?_; intro Q hQ hW
        repeat' (first
    | (with_reducible refine run_n ?_; with_reducible first | refine hK _ _ (by simp) ?_ | refine hK _ _ ?_; clear hK K)
    | (with_reducible first | refine awp_seq ?_ | refine then_n ?_ | refine then_r ?_ | refine then_e ?_ | refine awp_skip ?_ | refine awp_label ?_ | refine awp_ret ?_ | refine awp_exit ?_ | refine awp_block ?_ | refine awp_scope ?_ | refine in_n ?_ | refine in_r ?_ | refine in_e ?_ | refine in_ne (by decide) ?_ | refine ng_n ?_ | refine ng_r ?_ | refine ng_e ?_)
    | (with_reducible refine awp_regT (by kernel_rfl) ?_; intro K hK)
    | (with_reducible refine a_cond (ht := ?_) (hf := ?_) <;> intro hb <;> (try simp at hb) <;> (try contradiction) <;> (try subst hb) <;> (try omega))
    | (with_reducible first | refine a_move (hr := ?_) | refine a_assign (hr := ?_) | refine a_load (hr := ?_) | refine a_nilCheck (hr := ?_) | refine a_bin (hr := ?_) | refine a_lenS (hr := ?_) | refine a_lenR (hr := ?_) | refine a_extract (hr := ?_) | refine a_pick (hr := ?_) | refine a_un (hr := ?_) | refine a_store (hr := ?_) | refine a_alloc (hr := ?_) | refine a_eqP (hr := ?_) | refine a_neP (hr := ?_) | refine a_neB (hr := ?_) | refine a_idxArr (hr := ?_) | refine a_neS (hr := ?_) | refine a_index (hr := ?_) | refine a_indexAddr (hr := ?_) | refine a_build (hr := ?_) | refine a_call0 (hcall := hP) (hr := ?_) | refine a_call0 (hcall := hL) (hr := ?_) | refine a_gT (hr := ?_) | refine a_gF (hr := ?_) | refine a_gU (hr := ?_))
    | (with_reducible refine a_gB (hT := ?_) (hF := ?_) <;> intro hb <;> (try simp at hb) <;> (try contradiction) <;> (try subst hb) <;> (try omega))
    | fail)
        refine awp_inv (α := Unit) (fun _ => [(2, .ptr 2 0), (5, .sl 1 (strs l)), (10, .raw (.bool true)), (11, .raw (.int .i64 0))]) (fun _ => hpL [(2, .box RefV.zero.av)]) (fun _ => True) (fun _ => 0) () trivial (weak_o (by repeat' (first | refine sub_ohp (by first | (simp; done) | (intro hne; simp at hne; simp [hne])) (by simp) ?_ | exact sub_hpL (by simp))) (by simp) (by simp <;> omega)) ?_
        intro _ _
        repeat' (first
    | (with_reducible refine run_n ?_; with_reducible first | refine hK _ _ (by simp) ?_ | refine hK _ _ ?_; clear hK K)
    | (with_reducible first | refine awp_seq ?_ | refine then_n ?_ | refine then_r ?_ | refine then_e ?_ | refine awp_skip ?_ | refine awp_label ?_ | refine awp_ret ?_ | refine awp_exit ?_ | refine awp_block ?_ | refine awp_scope ?_ | refine in_n ?_ | refine in_r ?_ | refine in_e ?_ | refine in_ne (by decide) ?_ | refine ng_n ?_ | refine ng_r ?_ | refine ng_e ?_)
    | (with_reducible refine awp_regT (by kernel_rfl) ?_; intro K hK)
    | (with_reducible refine a_cond (ht := ?_) (hf := ?_) <;> intro hb <;> (try simp at hb) <;> (try contradiction) <;> (try subst hb) <;> (try omega))
    | (with_reducible first | refine a_move (hr := ?_) | refine a_assign (hr := ?_) | refine a_load (hr := ?_) | refine a_nilCheck (hr := ?_) | refine a_bin (hr := ?_) | refine a_lenS (hr := ?_) | refine a_lenR (hr := ?_) | refine a_extract (hr := ?_) | refine a_pick (hr := ?_) | refine a_un (hr := ?_) | refine a_store (hr := ?_) | refine a_alloc (hr := ?_) | refine a_eqP (hr := ?_) | refine a_neP (hr := ?_) | refine a_neB (hr := ?_) | refine a_idxArr (hr := ?_) | refine a_neS (hr := ?_) | refine a_index (hr := ?_) | refine a_indexAddr (hr := ?_) | refine a_build (hr := ?_) | refine a_gT (hr := ?_) | refine a_gF (hr := ?_) | refine a_gU (hr := ?_))
    | (with_reducible refine a_gB (hT := ?_) (hF := ?_) <;> intro hb <;> (try simp at hb) <;> (try contradiction) <;> (try subst hb) <;> (try omega))
    | fail)
        (refine hQ _ _ _ _ (by first | exact .inr rfl | exact .inl rfl) (by simp; exact .r) (by simp; exact .r) ?_)
        exact Fin.drop (by simp; exact .r) (by simp)
      | true =>
        have hb2 : ¬ want.size = l.length := by simpa using hb1
        refine calls_go (nt := 82) (rs := [.cell 2 27, .tmp 3]) Try.func20 rfl rfl rfl (by simp) (by intro id h; simp at h <;> omega) ?_; intro Q hQ hW
        repeat' (first
    | (with_reducible refine run_n ?_; with_reducible first | refine hK _ _ (by simp) ?_ | refine hK _ _ ?_; clear hK K)
    | (with_reducible first | refine awp_seq ?_ | refine then_n ?_ | refine then_r ?_ | refine then_e ?_ | refine awp_skip ?_ | refine awp_label ?_ | refine awp_ret ?_ | refine awp_exit ?_ | refine awp_block ?_ | refine awp_scope ?_ | refine in_n ?_ | refine in_r ?_ | refine in_e ?_ | refine in_ne (by decide) ?_ | refine ng_n ?_ | refine ng_r ?_ | refine ng_e ?_)
    | (with_reducible refine awp_regT (by kernel_rfl) ?_; intro K hK)
    | (with_reducible refine a_cond (ht := ?_) (hf := ?_) <;> intro hb <;> (try simp at hb) <;> (try contradiction) <;> (try subst hb) <;> (try omega))
    | (with_reducible first | refine a_move (hr := ?_) | refine a_assign (hr := ?_) | refine a_load (hr := ?_) | refine a_nilCheck (hr := ?_) | refine a_bin (hr := ?_) | refine a_lenS (hr := ?_) | refine a_lenR (hr := ?_) | refine a_extract (hr := ?_) | refine a_pick (hr := ?_) | refine a_un (hr := ?_) | refine a_store (hr := ?_) | refine a_alloc (hr := ?_) | refine a_eqP (hr := ?_) | refine a_neP (hr := ?_) | refine a_neB (hr := ?_) | refine a_idxArr (hr := ?_) | refine a_neS (hr := ?_) | refine a_index (hr := ?_) | refine a_indexAddr (hr := ?_) | refine a_build (hr := ?_) | refine a_call0 (hcall := hP) (hr := ?_) | refine a_call0 (hcall := hL) (hr := ?_) | refine a_gT (hr := ?_) | refine a_gF (hr := ?_) | refine a_gU (hr := ?_))
    | (with_reducible refine a_gB (hT := ?_) (hF := ?_) <;> intro hb <;> (try simp at hb) <;> (try contradiction) <;> (try subst hb) <;> (try omega))
    | fail)
        refine awp_inv (α := Unit) (fun _ => [(2, .ptr 2 0), (5, .sl 1 (strs l)), (10, .raw (.bool true)), (11, .raw (.int .i64 0))]) (fun _ => hpL [(2, .box RefV.zero.av)]) (fun _ => True) (fun _ => 0) () trivial (weak_o (by repeat' (first | refine sub_ohp (by first | (simp; done) | (intro hne; simp at hne; simp [hne])) (by simp) ?_ | exact sub_hpL (by simp))) (by simp) (by simp <;> omega)) ?_
        intro _ _
        repeat' (first
    | (with_reducible refine run_n ?_; with_reducible first | refine hK _ _ (by simp) ?_ | refine hK _ _ ?_; clear hK K)
    | (with_reducible first | refine awp_seq ?_ | refine then_n ?_ | refine then_r ?_ | refine then_e ?_ | refine awp_skip ?_ | refine awp_label ?_ | refine awp_ret ?_ | refine awp_exit ?_ | refine awp_block ?_ | refine awp_scope ?_ | refine in_n ?_ | refine in_r ?_ | refine in_e ?_ | refine in_ne (by decide) ?_ | refine ng_n ?_ | refine ng_r ?_ | refine ng_e ?_)
    | (with_reducible refine awp_regT (by kernel_rfl) ?_; intro K hK)
    | (with_reducible refine a_cond (ht := ?_) (hf := ?_) <;> intro hb <;> (try simp at hb) <;> (try contradiction) <;> (try subst hb) <;> (try omega))
    | (with_reducible first | refine a_move (hr := ?_) | refine a_assign (hr := ?_) | refine a_load (hr := ?_) | refine a_nilCheck (hr := ?_) | refine a_bin (hr := ?_) | refine a_lenS (hr := ?_) | refine a_lenR (hr := ?_) | refine a_extract (hr := ?_) | refine a_pick (hr := ?_) | refine a_un (hr := ?_) | refine a_store (hr := ?_) | refine a_alloc (hr := ?_) | refine a_eqP (hr := ?_) | refine a_neP (hr := ?_) | refine a_neB (hr := ?_) | refine a_idxArr (hr := ?_) | refine a_neS (hr := ?_) | refine a_index (hr := ?_) | refine a_indexAddr (hr := ?_) | refine a_build (hr := ?_) | refine a_gT (hr := ?_) | refine a_gF (hr := ?_) | refine a_gU (hr := ?_))
    | (with_reducible refine a_gB (hT := ?_) (hF := ?_) <;> intro hb <;> (try simp at hb) <;> (try contradiction) <;> (try subst hb) <;> (try omega))
    | fail)
        (refine hQ _ _ _ _ (by first | exact .inr rfl | exact .inl rfl) (by simp; exact .r) (by simp; exact .r) ?_)
        exact Fin.drop (by simp; exact .r) (by simp)
    · rw [if_neg hb1]
      have hb2 : (lay kk).2 = true ∧ (lay kk).1.size = l.length := by simpa using hb1
      rw [hb2.1] at hL
      have hco : codes kk = (bytesOf (lay kk).1).map code := rfl
      rw [hco]
      generalize (lay kk).1 = want at hL hsz hb2 ⊢
      have hb3 := hb2.2
      have hlb := len_bytes want
      clear hb1 hb2 hco
      refine calls_go (nt := 82) (rs := [.cell 2 27, .tmp 3]) Try.func20 rfl rfl rfl (by simp) (by intro id h; simp at h <;> omega) ?_; intro Q hQ hW
      repeat' (first
    | (with_reducible refine run_n ?_; with_reducible first | refine hK _ _ (by simp) ?_ | refine hK _ _ ?_; clear hK K)
    | (with_reducible first | refine awp_seq ?_ | refine then_n ?_ | refine then_r ?_ | refine then_e ?_ | refine awp_skip ?_ | refine awp_label ?_ | refine awp_ret ?_ | refine awp_exit ?_ | refine awp_block ?_ | refine awp_scope ?_ | refine in_n ?_ | refine in_r ?_ | refine in_e ?_ | refine in_ne (by decide) ?_ | refine ng_n ?_ | refine ng_r ?_ | refine ng_e ?_)
    | (with_reducible refine awp_regT (by kernel_rfl) ?_; intro K hK)
    | (with_reducible refine a_cond (ht := ?_) (hf := ?_) <;> intro hb <;> (try simp at hb) <;> (try contradiction) <;> (try subst hb) <;> (try omega))
    | (with_reducible first | refine a_move (hr := ?_) | refine a_assign (hr := ?_) | refine a_load (hr := ?_) | refine a_nilCheck (hr := ?_) | refine a_bin (hr := ?_) | refine a_lenS (hr := ?_) | refine a_lenR (hr := ?_) | refine a_extract (hr := ?_) | refine a_pick (hr := ?_) | refine a_un (hr := ?_) | refine a_store (hr := ?_) | refine a_alloc (hr := ?_) | refine a_eqP (hr := ?_) | refine a_neP (hr := ?_) | refine a_neB (hr := ?_) | refine a_idxArr (hr := ?_) | refine a_neS (hr := ?_) | refine a_index (hr := ?_) | refine a_indexAddr (hr := ?_) | refine a_build (hr := ?_) | refine a_call0 (hcall := hP) (hr := ?_) | refine a_call0 (hcall := hL) (hr := ?_) | refine a_gT (hr := ?_) | refine a_gF (hr := ?_) | refine a_gU (hr := ?_))
    | (with_reducible refine a_gB (hT := ?_) (hF := ?_) <;> intro hb <;> (try simp at hb) <;> (try contradiction) <;> (try subst hb) <;> (try omega))
    | fail)
      refine awp_inv (α := Nat × RefV) (fun p => [(2, .ptr 2 0), (5, .sl 1 (strs l)), (7, .raw (.string want)), (9, .ptr 9 0), (10, .raw (.bool false)), (11, .raw (.int .i64 p.1))]) (fun p => hpL [(2, .box RefV.zero.av), (9, .box p.2.av)])
        (fun p => p.1 ≤ l.length ∧ setL (((bytesOf want).drop p.1).map code) (l.drop p.1) p.2 = setL ((bytesOf want).map code) l (.of kk)) (fun p => l.length - p.1) (0, .of kk) ⟨by simp, by simp⟩ (weak_o (by repeat' (first | refine sub_ohp (by first | (simp; done) | (intro hne; simp at hne; simp [hne])) (by simp) ?_ | exact sub_hpL (by simp))) (by simp) (by simp <;> omega)) ?_
      rintro ⟨i, k, n, y, d, ii, t, o, a⟩ ⟨g1, g4⟩
      simp only at g1 g4 ⊢
      rcases Nat.lt_or_ge i l.length with hlt | hge
      · have hx := List.getElem?_eq_getElem hlt
        have hdb := drop_byte want i (by omega)
        rw [hdb, List.drop_eq_getElem_cons hlt, List.map_cons] at g4
        have hps := hPl l[i] (List.getElem_mem hlt)
        generalize l[i] = p at hx g4 hps
        generalize hby : byteAt want (i : Int) = c at g4
        simp only [setL] at g4
        by_cases c110 : c = 110
        · subst c110
          have e : setP ⟨k, n, y, d, ii, t, o, a⟩ (code 110) p = (⟨k, p, y, d, ii, t, o, a⟩, true) := rfl
          rw [e] at g4
          simp only [if_true] at g4
          repeat' (first
    | (with_reducible refine run_n ?_; with_reducible first | refine hK _ _ (by simp) ?_ | refine hK _ _ ?_; clear hK K)
    | (with_reducible first | refine awp_seq ?_ | refine then_n ?_ | refine then_r ?_ | refine then_e ?_ | refine awp_skip ?_ | refine awp_label ?_ | refine awp_ret ?_ | refine awp_exit ?_ | refine awp_block ?_ | refine awp_scope ?_ | refine in_n ?_ | refine in_r ?_ | refine in_e ?_ | refine in_ne (by decide) ?_ | refine ng_n ?_ | refine ng_r ?_ | refine ng_e ?_)
    | (with_reducible refine awp_regT (by kernel_rfl) ?_; intro K hK)
    | (with_reducible refine a_cond (ht := ?_) (hf := ?_) <;> intro hb <;> (try simp at hb) <;> (try contradiction) <;> (try subst hb) <;> (try omega))
    | (with_reducible first | refine a_move (hr := ?_) | refine a_assign (hr := ?_) | refine a_load (hr := ?_) | refine a_nilCheck (hr := ?_) | refine a_bin (hr := ?_) | refine a_lenS (hr := ?_) | refine a_lenR (hr := ?_) | refine a_extract (hr := ?_) | refine a_pick (hr := ?_) | refine a_un (hr := ?_) | refine a_store (hr := ?_) | refine a_alloc (hr := ?_) | refine a_eqP (hr := ?_) | refine a_neP (hr := ?_) | refine a_neB (hr := ?_) | refine a_idxArr (hr := ?_) | refine a_neS (hr := ?_) | refine a_index (hr := ?_) | refine a_indexAddr (hr := ?_) | refine a_build (hr := ?_) | refine a_callP (p := 9) (hcall := c_text 110 _ _ _ _ _ _ _ _) (hr := ?_) | refine a_gT (hr := ?_) | refine a_gF (hr := ?_) | refine a_gU (hr := ?_))
    | (with_reducible refine a_gB (hT := ?_) (hF := ?_) <;> intro hb <;> (try simp at hb) <;> (try contradiction) <;> (try subst hb) <;> (try omega))
    | fail)
          exact ⟨(i + 1, ⟨k, p, y, d, ii, t, o, a⟩), by simp only; omega, ⟨by simp only; omega, g4⟩, weak_o (by repeat' (first | refine sub_ohp (by first | (simp; done) | (intro hne; simp at hne; simp [hne])) (by simp) ?_ | exact sub_hpL (by simp))) (by simp) (by simp <;> omega)⟩
        by_cases c107 : c = 107
        · subst c107
          have e : setP ⟨k, n, y, d, ii, t, o, a⟩ (code 107) p = (⟨k, n, p, d, ii, t, o, a⟩, true) := rfl
          rw [e] at g4
          simp only [if_true] at g4
          repeat' (first
    | (with_reducible refine run_n ?_; with_reducible first | refine hK _ _ (by simp) ?_ | refine hK _ _ ?_; clear hK K)
    | (with_reducible first | refine awp_seq ?_ | refine then_n ?_ | refine then_r ?_ | refine then_e ?_ | refine awp_skip ?_ | refine awp_label ?_ | refine awp_ret ?_ | refine awp_exit ?_ | refine awp_block ?_ | refine awp_scope ?_ | refine in_n ?_ | refine in_r ?_ | refine in_e ?_ | refine in_ne (by decide) ?_ | refine ng_n ?_ | refine ng_r ?_ | refine ng_e ?_)
    | (with_reducible refine awp_regT (by kernel_rfl) ?_; intro K hK)
    | (with_reducible refine a_cond (ht := ?_) (hf := ?_) <;> intro hb <;> (try simp at hb) <;> (try contradiction) <;> (try subst hb) <;> (try omega))
    | (with_reducible first | refine a_move (hr := ?_) | refine a_assign (hr := ?_) | refine a_load (hr := ?_) | refine a_nilCheck (hr := ?_) | refine a_bin (hr := ?_) | refine a_lenS (hr := ?_) | refine a_lenR (hr := ?_) | refine a_extract (hr := ?_) | refine a_pick (hr := ?_) | refine a_un (hr := ?_) | refine a_store (hr := ?_) | refine a_alloc (hr := ?_) | refine a_eqP (hr := ?_) | refine a_neP (hr := ?_) | refine a_neB (hr := ?_) | refine a_idxArr (hr := ?_) | refine a_neS (hr := ?_) | refine a_index (hr := ?_) | refine a_indexAddr (hr := ?_) | refine a_build (hr := ?_) | refine a_callP (p := 9) (hcall := c_text 107 _ _ _ _ _ _ _ _) (hr := ?_) | refine a_gT (hr := ?_) | refine a_gF (hr := ?_) | refine a_gU (hr := ?_))
    | (with_reducible refine a_gB (hT := ?_) (hF := ?_) <;> intro hb <;> (try simp at hb) <;> (try contradiction) <;> (try subst hb) <;> (try omega))
    | fail)
          exact ⟨(i + 1, ⟨k, n, p, d, ii, t, o, a⟩), by simp only; omega, ⟨by simp only; omega, g4⟩, weak_o (by repeat' (first | refine sub_ohp (by first | (simp; done) | (intro hne; simp at hne; simp [hne])) (by simp) ?_ | exact sub_hpL (by simp))) (by simp) (by simp <;> omega)⟩
        by_cases c100 : c = 100
        · subst c100
          have e : setP ⟨k, n, y, d, ii, t, o, a⟩ (code 100) p = (⟨k, n, y, p, ii, t, o, a⟩, true) := rfl
          rw [e] at g4
          simp only [if_true] at g4
          repeat' (first
    | (with_reducible refine run_n ?_; with_reducible first | refine hK _ _ (by simp) ?_ | refine hK _ _ ?_; clear hK K)
    | (with_reducible first | refine awp_seq ?_ | refine then_n ?_ | refine then_r ?_ | refine then_e ?_ | refine awp_skip ?_ | refine awp_label ?_ | refine awp_ret ?_ | refine awp_exit ?_ | refine awp_block ?_ | refine awp_scope ?_ | refine in_n ?_ | refine in_r ?_ | refine in_e ?_ | refine in_ne (by decide) ?_ | refine ng_n ?_ | refine ng_r ?_ | refine ng_e ?_)
    | (with_reducible refine awp_regT (by kernel_rfl) ?_; intro K hK)
    | (with_reducible refine a_cond (ht := ?_) (hf := ?_) <;> intro hb <;> (try simp at hb) <;> (try contradiction) <;> (try subst hb) <;> (try omega))
    | (with_reducible first | refine a_move (hr := ?_) | refine a_assign (hr := ?_) | refine a_load (hr := ?_) | refine a_nilCheck (hr := ?_) | refine a_bin (hr := ?_) | refine a_lenS (hr := ?_) | refine a_lenR (hr := ?_) | refine a_extract (hr := ?_) | refine a_pick (hr := ?_) | refine a_un (hr := ?_) | refine a_store (hr := ?_) | refine a_alloc (hr := ?_) | refine a_eqP (hr := ?_) | refine a_neP (hr := ?_) | refine a_neB (hr := ?_) | refine a_idxArr (hr := ?_) | refine a_neS (hr := ?_) | refine a_index (hr := ?_) | refine a_indexAddr (hr := ?_) | refine a_build (hr := ?_) | refine a_callP (p := 9) (hcall := c_text 100 _ _ _ _ _ _ _ _) (hr := ?_) | refine a_gT (hr := ?_) | refine a_gF (hr := ?_) | refine a_gU (hr := ?_))
    | (with_reducible refine a_gB (hT := ?_) (hF := ?_) <;> intro hb <;> (try simp at hb) <;> (try contradiction) <;> (try subst hb) <;> (try omega))
    | fail)
          exact ⟨(i + 1, ⟨k, n, y, p, ii, t, o, a⟩), by simp only; omega, ⟨by simp only; omega, g4⟩, weak_o (by repeat' (first | refine sub_ohp (by first | (simp; done) | (intro hne; simp at hne; simp [hne])) (by simp) ?_ | exact sub_hpL (by simp))) (by simp) (by simp <;> omega)⟩
        by_cases c105 : c = 105
        · subst c105
          have e : setP ⟨k, n, y, d, ii, t, o, a⟩ (code 105) p = (⟨k, n, y, d, p, t, o, a⟩, true) := rfl
          rw [e] at g4
          simp only [if_true] at g4
          repeat' (first
    | (with_reducible refine run_n ?_; with_reducible first | refine hK _ _ (by simp) ?_ | refine hK _ _ ?_; clear hK K)
    | (with_reducible first | refine awp_seq ?_ | refine then_n ?_ | refine then_r ?_ | refine then_e ?_ | refine awp_skip ?_ | refine awp_label ?_ | refine awp_ret ?_ | refine awp_exit ?_ | refine awp_block ?_ | refine awp_scope ?_ | refine in_n ?_ | refine in_r ?_ | refine in_e ?_ | refine in_ne (by decide) ?_ | refine ng_n ?_ | refine ng_r ?_ | refine ng_e ?_)
    | (with_reducible refine awp_regT (by kernel_rfl) ?_; intro K hK)
    | (with_reducible refine a_cond (ht := ?_) (hf := ?_) <;> intro hb <;> (try simp at hb) <;> (try contradiction) <;> (try subst hb) <;> (try omega))
    | (with_reducible first | refine a_move (hr := ?_) | refine a_assign (hr := ?_) | refine a_load (hr := ?_) | refine a_nilCheck (hr := ?_) | refine a_bin (hr := ?_) | refine a_lenS (hr := ?_) | refine a_lenR (hr := ?_) | refine a_extract (hr := ?_) | refine a_pick (hr := ?_) | refine a_un (hr := ?_) | refine a_store (hr := ?_) | refine a_alloc (hr := ?_) | refine a_eqP (hr := ?_) | refine a_neP (hr := ?_) | refine a_neB (hr := ?_) | refine a_idxArr (hr := ?_) | refine a_neS (hr := ?_) | refine a_index (hr := ?_) | refine a_indexAddr (hr := ?_) | refine a_build (hr := ?_) | refine a_callP (p := 9) (hcall := c_text 105 _ _ _ _ _ _ _ _) (hr := ?_) | refine a_gT (hr := ?_) | refine a_gF (hr := ?_) | refine a_gU (hr := ?_))
    | (with_reducible refine a_gB (hT := ?_) (hF := ?_) <;> intro hb <;> (try simp at hb) <;> (try contradiction) <;> (try subst hb) <;> (try omega))
    | fail)
          exact ⟨(i + 1, ⟨k, n, y, d, p, t, o, a⟩), by simp only; omega, ⟨by simp only; omega, g4⟩, weak_o (by repeat' (first | refine sub_ohp (by first | (simp; done) | (intro hne; simp at hne; simp [hne])) (by simp) ?_ | exact sub_hpL (by simp))) (by simp) (by simp <;> omega)⟩
        by_cases c116 : c = 116
        · subst c116
          have hD := c_Digits p (by omega)
          generalize hdv : digV p = dv at hD
          obtain ⟨v, ev⟩ := dv
          simp only at hD
          by_cases hev : ev = 0
          · have e : setP ⟨k, n, y, d, ii, t, o, a⟩ (code 116) p = (⟨k, n, y, d, ii, v, o, a⟩, true) := by simp [setP, code, hdv, hev]
            rw [e] at g4
            simp only [if_true] at g4
            subst hev
            repeat' (first
    | (with_reducible refine run_n ?_; with_reducible first | refine hK _ _ (by simp) ?_ | refine hK _ _ ?_; clear hK K)
    | (with_reducible first | refine awp_seq ?_ | refine then_n ?_ | refine then_r ?_ | refine then_e ?_ | refine awp_skip ?_ | refine awp_label ?_ | refine awp_ret ?_ | refine awp_exit ?_ | refine awp_block ?_ | refine awp_scope ?_ | refine in_n ?_ | refine in_r ?_ | refine in_e ?_ | refine in_ne (by decide) ?_ | refine ng_n ?_ | refine ng_r ?_ | refine ng_e ?_)
    | (with_reducible refine awp_regT (by kernel_rfl) ?_; intro K hK)
    | (with_reducible refine a_cond (ht := ?_) (hf := ?_) <;> intro hb <;> (try simp at hb) <;> (try contradiction) <;> (try subst hb) <;> (try omega))
    | (with_reducible first | refine a_move (hr := ?_) | refine a_assign (hr := ?_) | refine a_load (hr := ?_) | refine a_nilCheck (hr := ?_) | refine a_bin (hr := ?_) | refine a_lenS (hr := ?_) | refine a_lenR (hr := ?_) | refine a_extract (hr := ?_) | refine a_pick (hr := ?_) | refine a_un (hr := ?_) | refine a_store (hr := ?_) | refine a_alloc (hr := ?_) | refine a_eqP (hr := ?_) | refine a_neP (hr := ?_) | refine a_neB (hr := ?_) | refine a_idxArr (hr := ?_) | refine a_neS (hr := ?_) | refine a_index (hr := ?_) | refine a_indexAddr (hr := ?_) | refine a_build (hr := ?_) | refine a_callP (p := 9) (hcall := c_text0 116 _ _ _ _ _ _ _ _ (by decide) (by decide) (by decide) (by decide)) (hr := ?_) | refine a_callP (p := 9) (hcall := c_number 116 _ _ _ _ _ _ _ _) (hr := ?_) | refine a_call0 (hcall := hD) (hr := ?_) | refine a_gT (hr := ?_) | refine a_gF (hr := ?_) | refine a_gU (hr := ?_))
    | (with_reducible refine a_gB (hT := ?_) (hF := ?_) <;> intro hb <;> (try simp at hb) <;> (try contradiction) <;> (try subst hb) <;> (try omega))
    | fail)
            exact ⟨(i + 1, ⟨k, n, y, d, ii, v, o, a⟩), by simp only; omega, ⟨by simp only; omega, g4⟩, weak_o (by repeat' (first | refine sub_ohp (by first | (simp; done) | (intro hne; simp at hne; simp [hne])) (by simp) ?_ | exact sub_hpL (by simp))) (by simp) (by simp <;> omega)⟩
          · have e : setP ⟨k, n, y, d, ii, t, o, a⟩ (code 116) p = (⟨k, n, y, d, ii, t, o, a⟩, false) := by simp [setP, code, hdv, hev]
            rw [e] at g4
            simp only [Bool.false_eq_true, if_false] at g4
            rw [← g4] at hQ
            repeat' (first
    | (with_reducible refine run_n ?_; with_reducible first | refine hK _ _ (by simp) ?_ | refine hK _ _ ?_; clear hK K)
    | (with_reducible first | refine awp_seq ?_ | refine then_n ?_ | refine then_r ?_ | refine then_e ?_ | refine awp_skip ?_ | refine awp_label ?_ | refine awp_ret ?_ | refine awp_exit ?_ | refine awp_block ?_ | refine awp_scope ?_ | refine in_n ?_ | refine in_r ?_ | refine in_e ?_ | refine in_ne (by decide) ?_ | refine ng_n ?_ | refine ng_r ?_ | refine ng_e ?_)
    | (with_reducible refine awp_regT (by kernel_rfl) ?_; intro K hK)
    | (with_reducible refine a_cond (ht := ?_) (hf := ?_) <;> intro hb <;> (try simp at hb) <;> (try contradiction) <;> (try subst hb) <;> (try omega))
    | (with_reducible first | refine a_move (hr := ?_) | refine a_assign (hr := ?_) | refine a_load (hr := ?_) | refine a_nilCheck (hr := ?_) | refine a_bin (hr := ?_) | refine a_lenS (hr := ?_) | refine a_lenR (hr := ?_) | refine a_extract (hr := ?_) | refine a_pick (hr := ?_) | refine a_un (hr := ?_) | refine a_store (hr := ?_) | refine a_alloc (hr := ?_) | refine a_eqP (hr := ?_) | refine a_neP (hr := ?_) | refine a_neB (hr := ?_) | refine a_idxArr (hr := ?_) | refine a_neS (hr := ?_) | refine a_index (hr := ?_) | refine a_indexAddr (hr := ?_) | refine a_build (hr := ?_) | refine a_callP (p := 9) (hcall := c_text0 116 _ _ _ _ _ _ _ _ (by decide) (by decide) (by decide) (by decide)) (hr := ?_) | refine a_callP (p := 9) (hcall := c_number 116 _ _ _ _ _ _ _ _) (hr := ?_) | refine a_call0 (hcall := hD) (hr := ?_) | refine a_gT (hr := ?_) | refine a_gF (hr := ?_) | refine a_gU (hr := ?_))
    | (with_reducible refine a_gB (hT := ?_) (hF := ?_) <;> intro hb <;> (try simp at hb) <;> (try contradiction) <;> (try subst hb) <;> (try omega))
    | fail)
            (refine hQ _ _ _ _ (by first | exact .inr rfl | exact .inl rfl) (by simp; exact .r) (by simp; exact .r) ?_)
            exact Fin.drop (by simp; exact .r) (by simp)
        by_cases c111 : c = 111
        · subst c111
          have hD := c_Digits p (by omega)
          generalize hdv : digV p = dv at hD
          obtain ⟨v, ev⟩ := dv
          simp only at hD
          by_cases hev : ev = 0
          · have e : setP ⟨k, n, y, d, ii, t, o, a⟩ (code 111) p = (⟨k, n, y, d, ii, t, v, a⟩, true) := by simp [setP, code, hdv, hev]
            rw [e] at g4
            simp only [if_true] at g4
            subst hev
            repeat' (first
    | (with_reducible refine run_n ?_; with_reducible first | refine hK _ _ (by simp) ?_ | refine hK _ _ ?_; clear hK K)
    | (with_reducible first | refine awp_seq ?_ | refine then_n ?_ | refine then_r ?_ | refine then_e ?_ | refine awp_skip ?_ | refine awp_label ?_ | refine awp_ret ?_ | refine awp_exit ?_ | refine awp_block ?_ | refine awp_scope ?_ | refine in_n ?_ | refine in_r ?_ | refine in_e ?_ | refine in_ne (by decide) ?_ | refine ng_n ?_ | refine ng_r ?_ | refine ng_e ?_)
    | (with_reducible refine awp_regT (by kernel_rfl) ?_; intro K hK)
    | (with_reducible refine a_cond (ht := ?_) (hf := ?_) <;> intro hb <;> (try simp at hb) <;> (try contradiction) <;> (try subst hb) <;> (try omega))
    | (with_reducible first | refine a_move (hr := ?_) | refine a_assign (hr := ?_) | refine a_load (hr := ?_) | refine a_nilCheck (hr := ?_) | refine a_bin (hr := ?_) | refine a_lenS (hr := ?_) | refine a_lenR (hr := ?_) | refine a_extract (hr := ?_) | refine a_pick (hr := ?_) | refine a_un (hr := ?_) | refine a_store (hr := ?_) | refine a_alloc (hr := ?_) | refine a_eqP (hr := ?_) | refine a_neP (hr := ?_) | refine a_neB (hr := ?_) | refine a_idxArr (hr := ?_) | refine a_neS (hr := ?_) | refine a_index (hr := ?_) | refine a_indexAddr (hr := ?_) | refine a_build (hr := ?_) | refine a_callP (p := 9) (hcall := c_text0 111 _ _ _ _ _ _ _ _ (by decide) (by decide) (by decide) (by decide)) (hr := ?_) | refine a_callP (p := 9) (hcall := c_number 111 _ _ _ _ _ _ _ _) (hr := ?_) | refine a_call0 (hcall := hD) (hr := ?_) | refine a_gT (hr := ?_) | refine a_gF (hr := ?_) | refine a_gU (hr := ?_))
    | (with_reducible refine a_gB (hT := ?_) (hF := ?_) <;> intro hb <;> (try simp at hb) <;> (try contradiction) <;> (try subst hb) <;> (try omega))
    | fail)
            exact ⟨(i + 1, ⟨k, n, y, d, ii, t, v, a⟩), by simp only; omega, ⟨by simp only; omega, g4⟩, weak_o (by repeat' (first | refine sub_ohp (by first | (simp; done) | (intro hne; simp at hne; simp [hne])) (by simp) ?_ | exact sub_hpL (by simp))) (by simp) (by simp <;> omega)⟩
          · have e : setP ⟨k, n, y, d, ii, t, o, a⟩ (code 111) p = (⟨k, n, y, d, ii, t, o, a⟩, false) := by simp [setP, code, hdv, hev]
            rw [e] at g4
            simp only [Bool.false_eq_true, if_false] at g4
            rw [← g4] at hQ
            repeat' (first
    | (with_reducible refine run_n ?_; with_reducible first | refine hK _ _ (by simp) ?_ | refine hK _ _ ?_; clear hK K)
    | (with_reducible first | refine awp_seq ?_ | refine then_n ?_ | refine then_r ?_ | refine then_e ?_ | refine awp_skip ?_ | refine awp_label ?_ | refine awp_ret ?_ | refine awp_exit ?_ | refine awp_block ?_ | refine awp_scope ?_ | refine in_n ?_ | refine in_r ?_ | refine in_e ?_ | refine in_ne (by decide) ?_ | refine ng_n ?_ | refine ng_r ?_ | refine ng_e ?_)
    | (with_reducible refine awp_regT (by kernel_rfl) ?_; intro K hK)
    | (with_reducible refine a_cond (ht := ?_) (hf := ?_) <;> intro hb <;> (try simp at hb) <;> (try contradiction) <;> (try subst hb) <;> (try omega))
    | (with_reducible first | refine a_move (hr := ?_) | refine a_assign (hr := ?_) | refine a_load (hr := ?_) | refine a_nilCheck (hr := ?_) | refine a_bin (hr := ?_) | refine a_lenS (hr := ?_) | refine a_lenR (hr := ?_) | refine a_extract (hr := ?_) | refine a_pick (hr := ?_) | refine a_un (hr := ?_) | refine a_store (hr := ?_) | refine a_alloc (hr := ?_) | refine a_eqP (hr := ?_) | refine a_neP (hr := ?_) | refine a_neB (hr := ?_) | refine a_idxArr (hr := ?_) | refine a_neS (hr := ?_) | refine a_index (hr := ?_) | refine a_indexAddr (hr := ?_) | refine a_build (hr := ?_) | refine a_callP (p := 9) (hcall := c_text0 111 _ _ _ _ _ _ _ _ (by decide) (by decide) (by decide) (by decide)) (hr := ?_) | refine a_callP (p := 9) (hcall := c_number 111 _ _ _ _ _ _ _ _) (hr := ?_) | refine a_call0 (hcall := hD) (hr := ?_) | refine a_gT (hr := ?_) | refine a_gF (hr := ?_) | refine a_gU (hr := ?_))
    | (with_reducible refine a_gB (hT := ?_) (hF := ?_) <;> intro hb <;> (try simp at hb) <;> (try contradiction) <;> (try subst hb) <;> (try omega))
    | fail)
            (refine hQ _ _ _ _ (by first | exact .inr rfl | exact .inl rfl) (by simp; exact .r) (by simp; exact .r) ?_)
            exact Fin.drop (by simp; exact .r) (by simp)
        have hc6 : code c = 6 := by unfold code; rw [if_neg c110, if_neg c107, if_neg c100, if_neg c105, if_neg c116, if_neg c111]
        rw [hc6] at g4
        have hD := c_Digits p (by omega)
        generalize hdv : digV p = dv at hD
        obtain ⟨v, ev⟩ := dv
        simp only at hD
        by_cases hev : ev = 0
        · have e : setP ⟨k, n, y, d, ii, t, o, a⟩ 6 p = (⟨k, n, y, d, ii, t, o, v⟩, true) := by simp [setP, code, hdv, hev]
          rw [e] at g4
          simp only [if_true] at g4
          subst hev
          repeat' (first
    | (with_reducible refine run_n ?_; with_reducible first | refine hK _ _ (by simp) ?_ | refine hK _ _ ?_; clear hK K)
    | (with_reducible first | refine awp_seq ?_ | refine then_n ?_ | refine then_r ?_ | refine then_e ?_ | refine awp_skip ?_ | refine awp_label ?_ | refine awp_ret ?_ | refine awp_exit ?_ | refine awp_block ?_ | refine awp_scope ?_ | refine in_n ?_ | refine in_r ?_ | refine in_e ?_ | refine in_ne (by decide) ?_ | refine ng_n ?_ | refine ng_r ?_ | refine ng_e ?_)
    | (with_reducible refine awp_regT (by kernel_rfl) ?_; intro K hK)
    | (with_reducible refine a_cond (ht := ?_) (hf := ?_) <;> intro hb <;> (try simp at hb) <;> (try contradiction) <;> (try subst hb) <;> (try omega))
    | (with_reducible first | refine a_move (hr := ?_) | refine a_assign (hr := ?_) | refine a_load (hr := ?_) | refine a_nilCheck (hr := ?_) | refine a_bin (hr := ?_) | refine a_lenS (hr := ?_) | refine a_lenR (hr := ?_) | refine a_extract (hr := ?_) | refine a_pick (hr := ?_) | refine a_un (hr := ?_) | refine a_store (hr := ?_) | refine a_alloc (hr := ?_) | refine a_eqP (hr := ?_) | refine a_neP (hr := ?_) | refine a_neB (hr := ?_) | refine a_idxArr (hr := ?_) | refine a_neS (hr := ?_) | refine a_index (hr := ?_) | refine a_indexAddr (hr := ?_) | refine a_build (hr := ?_) | refine a_callP (p := 9) (hcall := c_text0 c _ _ _ _ _ _ _ _ c110 c107 c100 c105) (hr := ?_) | refine a_callP (p := 9) (hcall := c_numA c _ _ _ _ _ _ _ _ c116 c111) (hr := ?_) | refine a_call0 (hcall := hD) (hr := ?_) | refine a_gT (hr := ?_) | refine a_gF (hr := ?_) | refine a_gU (hr := ?_))
    | (with_reducible refine a_gB (hT := ?_) (hF := ?_) <;> intro hb <;> (try simp at hb) <;> (try contradiction) <;> (try subst hb) <;> (try omega))
    | fail)
          exact ⟨(i + 1, ⟨k, n, y, d, ii, t, o, v⟩), by simp only; omega, ⟨by simp only; omega, g4⟩, weak_o (by repeat' (first | refine sub_ohp (by first | (simp; done) | (intro hne; simp at hne; simp [hne])) (by simp) ?_ | exact sub_hpL (by simp))) (by simp) (by simp <;> omega)⟩
        · have e : setP ⟨k, n, y, d, ii, t, o, a⟩ 6 p = (⟨k, n, y, d, ii, t, o, a⟩, false) := by simp [setP, code, hdv, hev]
          rw [e] at g4
          simp only [Bool.false_eq_true, if_false] at g4
          rw [← g4] at hQ
          repeat' (first
    | (with_reducible refine run_n ?_; with_reducible first | refine hK _ _ (by simp) ?_ | refine hK _ _ ?_; clear hK K)
    | (with_reducible first | refine awp_seq ?_ | refine then_n ?_ | refine then_r ?_ | refine then_e ?_ | refine awp_skip ?_ | refine awp_label ?_ | refine awp_ret ?_ | refine awp_exit ?_ | refine awp_block ?_ | refine awp_scope ?_ | refine in_n ?_ | refine in_r ?_ | refine in_e ?_ | refine in_ne (by decide) ?_ | refine ng_n ?_ | refine ng_r ?_ | refine ng_e ?_)
    | (with_reducible refine awp_regT (by kernel_rfl) ?_; intro K hK)
    | (with_reducible refine a_cond (ht := ?_) (hf := ?_) <;> intro hb <;> (try simp at hb) <;> (try contradiction) <;> (try subst hb) <;> (try omega))
    | (with_reducible first | refine a_move (hr := ?_) | refine a_assign (hr := ?_) | refine a_load (hr := ?_) | refine a_nilCheck (hr := ?_) | refine a_bin (hr := ?_) | refine a_lenS (hr := ?_) | refine a_lenR (hr := ?_) | refine a_extract (hr := ?_) | refine a_pick (hr := ?_) | refine a_un (hr := ?_) | refine a_store (hr := ?_) | refine a_alloc (hr := ?_) | refine a_eqP (hr := ?_) | refine a_neP (hr := ?_) | refine a_neB (hr := ?_) | refine a_idxArr (hr := ?_) | refine a_neS (hr := ?_) | refine a_index (hr := ?_) | refine a_indexAddr (hr := ?_) | refine a_build (hr := ?_) | refine a_callP (p := 9) (hcall := c_text0 c _ _ _ _ _ _ _ _ c110 c107 c100 c105) (hr := ?_) | refine a_callP (p := 9) (hcall := c_numA c _ _ _ _ _ _ _ _ c116 c111) (hr := ?_) | refine a_call0 (hcall := hD) (hr := ?_) | refine a_gT (hr := ?_) | refine a_gF (hr := ?_) | refine a_gU (hr := ?_))
    | (with_reducible refine a_gB (hT := ?_) (hF := ?_) <;> intro hb <;> (try simp at hb) <;> (try contradiction) <;> (try subst hb) <;> (try omega))
    | fail)
          (refine hQ _ _ _ _ (by first | exact .inr rfl | exact .inl rfl) (by simp; exact .r) (by simp; exact .r) ?_)
          exact Fin.drop (by simp; exact .r) (by simp)
      · obtain rfl : i = l.length := by omega
        rw [List.drop_of_length_le (by omega), List.drop_of_length_le (by omega)] at g4
        simp only [List.map_nil, setL] at g4
        rw [← g4] at hQ
        repeat' (first
    | (with_reducible refine run_n ?_; with_reducible first | refine hK _ _ (by simp) ?_ | refine hK _ _ ?_; clear hK K)
    | (with_reducible first | refine awp_seq ?_ | refine then_n ?_ | refine then_r ?_ | refine then_e ?_ | refine awp_skip ?_ | refine awp_label ?_ | refine awp_ret ?_ | refine awp_exit ?_ | refine awp_block ?_ | refine awp_scope ?_ | refine in_n ?_ | refine in_r ?_ | refine in_e ?_ | refine in_ne (by decide) ?_ | refine ng_n ?_ | refine ng_r ?_ | refine ng_e ?_)
    | (with_reducible refine awp_regT (by kernel_rfl) ?_; intro K hK)
    | (with_reducible refine a_cond (ht := ?_) (hf := ?_) <;> intro hb <;> (try simp at hb) <;> (try contradiction) <;> (try subst hb) <;> (try omega))
    | (with_reducible first | refine a_move (hr := ?_) | refine a_assign (hr := ?_) | refine a_load (hr := ?_) | refine a_nilCheck (hr := ?_) | refine a_bin (hr := ?_) | refine a_lenS (hr := ?_) | refine a_lenR (hr := ?_) | refine a_extract (hr := ?_) | refine a_pick (hr := ?_) | refine a_un (hr := ?_) | refine a_store (hr := ?_) | refine a_alloc (hr := ?_) | refine a_eqP (hr := ?_) | refine a_neP (hr := ?_) | refine a_neB (hr := ?_) | refine a_idxArr (hr := ?_) | refine a_neS (hr := ?_) | refine a_index (hr := ?_) | refine a_indexAddr (hr := ?_) | refine a_build (hr := ?_) | refine a_gT (hr := ?_) | refine a_gF (hr := ?_) | refine a_gU (hr := ?_))
    | (with_reducible refine a_gB (hT := ?_) (hF := ?_) <;> intro hb <;> (try simp at hb) <;> (try contradiction) <;> (try subst hb) <;> (try omega))
    | fail)
        (refine hQ _ _ _ _ (by first | exact .inr rfl | exact .inl rfl) (by simp; exact .r) (by simp; exact .r) ?_)
        exact Fin.drop (by simp; exact .r) (by simp)
  · rw [if_pos (by simpa using he)]
    refine calls_go (nt := 82) (rs := [.cell 2 27, .tmp 3]) Try.func20 rfl rfl rfl (by simp) (by intro id h; simp at h <;> omega) ?_; intro Q hQ hW
    repeat' (first
    | (with_reducible refine run_n ?_; with_reducible first | refine hK _ _ (by simp) ?_ | refine hK _ _ ?_; clear hK K)
    | (with_reducible first | refine awp_seq ?_ | refine then_n ?_ | refine then_r ?_ | refine then_e ?_ | refine awp_skip ?_ | refine awp_label ?_ | refine awp_ret ?_ | refine awp_exit ?_ | refine awp_block ?_ | refine awp_scope ?_ | refine in_n ?_ | refine in_r ?_ | refine in_e ?_ | refine in_ne (by decide) ?_ | refine ng_n ?_ | refine ng_r ?_ | refine ng_e ?_)
    | (with_reducible refine awp_regT (by kernel_rfl) ?_; intro K hK)
    | (with_reducible refine a_cond (ht := ?_) (hf := ?_) <;> intro hb <;> (try simp at hb) <;> (try contradiction) <;> (try subst hb) <;> (try omega))
    | (with_reducible first | refine a_move (hr := ?_) | refine a_assign (hr := ?_) | refine a_load (hr := ?_) | refine a_nilCheck (hr := ?_) | refine a_bin (hr := ?_) | refine a_lenS (hr := ?_) | refine a_lenR (hr := ?_) | refine a_extract (hr := ?_) | refine a_pick (hr := ?_) | refine a_un (hr := ?_) | refine a_store (hr := ?_) | refine a_alloc (hr := ?_) | refine a_eqP (hr := ?_) | refine a_neP (hr := ?_) | refine a_neB (hr := ?_) | refine a_idxArr (hr := ?_) | refine a_neS (hr := ?_) | refine a_index (hr := ?_) | refine a_indexAddr (hr := ?_) | refine a_build (hr := ?_) | refine a_call0 (hcall := hP) (hr := ?_) | refine a_gT (hr := ?_) | refine a_gF (hr := ?_) | refine a_gU (hr := ?_))
    | (with_reducible refine a_gB (hT := ?_) (hF := ?_) <;> intro hb <;> (try simp at hb) <;> (try contradiction) <;> (try subst hb) <;> (try omega))
    | fail)
    (refine hQ _ _ _ _ (by first | exact .inr rfl | exact .inl rfl) (by simp; exact .r) (by simp; exact .r) ?_)
    exact Fin.drop (by simp; exact .r) (by simp)
end Go.Proofs.Ytdbdajmgfajcpaa.Asl
