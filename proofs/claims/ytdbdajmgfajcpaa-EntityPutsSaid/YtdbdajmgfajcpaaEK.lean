/- EntityPuts: the law. -/
import Derived.Test.YtdbdajmgfajcpaaEJ
namespace Go.Proofs.Ytdbdajmgfajcpaa.Asl
open Go Go.RowKit
set_option linter.unusedVariables false
set_option linter.unusedSimpArgs false
set_option maxRecDepth 100000
set_option maxHeartbeats 4000000
theorem p128_10 : (128 : Int) ^ (9 + 1) = 1180591620717411303424 := by decide
theorem enc9_isB {n : Int} (h0 : 0 ≤ n) (h1 : n < 18446744073709551616) : IsB (enc 9 n) := enc_isB 9 n h0 (by rw [p128_10]; omega)
theorem txtL_isB (s : ByteArray) (h : s.size ≤ 140737488351232) : IsB (txtL s) := isB_app.2 ⟨enc9_isB (by omega) (by omega), isB_bytes s⟩
theorem putInst_isB {d c : ByteArray} {v s x : Int} (hd : d.size ≤ 1000000) (hc : c.size ≤ 1000000) (hv : 0 ≤ v ∧ v < 18446744073709551616) (hx : 0 ≤ x ∧ x < 18446744073709551616) : IsB (putInst d v s c x) ∧ (putInst d v s c x).length ≤ 10000000 := by
  have b1 := txtL_len d
  have b2 := (enc_len 9 v).1
  have b3 := txtL_len c
  have b4 := (enc_len 9 x).1
  unfold putInst
  by_cases hB : instB d v s c x = true
  · rw [if_pos hB]
    have hs := instB_of hB
    refine ⟨isB_app.2 ⟨txtL_isB d (by omega), isB_app.2 ⟨enc9_isB hv.1 hv.2, isB_app.2 ⟨isB_cons.2 ⟨by omega, isB_nil⟩, isB_app.2 ⟨txtL_isB c (by omega), enc9_isB hx.1 hx.2⟩⟩⟩⟩, ?_⟩
    simp only [List.length_append, List.length_cons, List.length_nil] at *; omega
  · rw [if_neg hB]; exact ⟨isB_nil, by simp⟩
theorem putTok_isB {a s f : Int} (h : 0 ≤ s ∧ s < 18446744073709551616) : IsB (putTok a s f) ∧ (putTok a s f).length ≤ 1000 := by
  have b1 := (enc_len 9 a).1
  have b2 := (enc_len 9 s).1
  have b4 := (enc_len 9 (f + 1)).1
  unfold putTok
  by_cases hB : mayTok a f
  · rw [if_pos hB]
    unfold mayTok at hB
    refine ⟨isB_app.2 ⟨enc9_isB (by omega) (by omega), isB_app.2 ⟨enc9_isB h.1 h.2, enc9_isB (by omega) (by omega)⟩⟩, ?_⟩
    simp only [List.length_append] at *; omega
  · rw [if_neg hB]; exact ⟨isB_nil, by simp⟩
theorem putArm_isB {k d : Int} {n y : ByteArray} (hn : n.size ≤ 1000000) (hy : y.size ≤ 1000000) (hd : 0 ≤ d ∧ d < 18446744073709551616) : IsB (putArm k n y d) ∧ (putArm k n y d).length ≤ 10000000 := by
  have b1 := txtL_len n
  have b2 := (enc_len 9 d).1
  have b3 := txtL_len y
  unfold putArm
  by_cases hB : armB k n y d = true
  · rw [if_pos hB]
    have h1 := txtL_isB n (by omega)
    have h2 := txtL_isB y (by omega)
    have h3 := enc9_isB hd.1 hd.2
    repeat' split
    · exact ⟨isB_cons.2 ⟨by omega, h3⟩, by simp only [List.length_cons]; omega⟩
    · exact ⟨isB_cons.2 ⟨by omega, isB_app.2 ⟨h1, h2⟩⟩, by simp only [List.length_cons, List.length_append] at *; omega⟩
    · exact ⟨isB_cons.2 ⟨by omega, h1⟩, by simp only [List.length_cons, List.length_append] at *; omega⟩
  · rw [if_neg hB]; exact ⟨isB_nil, by simp⟩
theorem putV_isB' (k n : Int) (s : ByteArray) (hn : -9223372036854775808 ≤ n ∧ n < 9223372036854775808) (hs : s.size ≤ 140737488351232) : IsB (putV k n s) := by
  have hz := zz_range hn.1 hn.2
  unfold putV
  by_cases hr : rightE k n s = 0
  · rw [if_neg (by simp [hr])]
    have hk := rightE_k hr
    by_cases k3 : k = 3
    · rw [if_pos k3, isB_cons]; exact ⟨by omega, isB_app.2 ⟨enc9_isB (by omega) (by omega), isB_bytes s⟩⟩
    · rw [if_neg k3, isB_cons]; exact ⟨by omega, enc9_isB hz.1 (by omega)⟩
  · rw [if_pos (by simpa using hr)]; exact isB_nil
theorem putVars_isB {l : List VarV} (hw : ∀ x ∈ l, wfV x) : IsB (putVars l) := by
  unfold putVars
  by_cases h : varsE l = 0
  · rw [if_pos h]
    obtain ⟨h1, h2⟩ := varsE_small h
    refine isB_app.2 ⟨enc9_isB (by omega) (by omega), fun b hb => ?_⟩
    obtain ⟨x, hx, hb⟩ := List.mem_flatMap.1 hb
    have w := hw x hx
    exact (isB_app.2 ⟨txtL_isB x.n w.1, putV_isB' x.k x.v x.s w.2.2 w.2.1⟩) b hb
  · rw [if_neg h]; exact isB_nil
theorem law_EntityPuts (d c : ByteArray) (v s x : Int) (ta ts tf : Int) (k : Int) (n y : ByteArray) (du : Int) (l : List VarV) (m : Int)
    (hd : d.size ≤ 140737488351232) (hc : c.size ≤ 140737488351232) (hv : 0 ≤ v ∧ v < 18446744073709551616) (hx : 0 ≤ x ∧ x < 18446744073709551616) (hts : 0 ≤ ts ∧ ts < 18446744073709551616)
    (hn : n.size ≤ 140737488351232) (hy : y.size ≤ 140737488351232) (hdu : 0 ≤ du ∧ du < 18446744073709551616) (hl : l.length ≤ 140737488351232) (hw : ∀ x ∈ l, wfV x) (hm : 0 ≤ m ∧ m < 18446744073709551616) :
    CallD Try.prog 8 [instAV d v s c x, tokAV ta ts tf, armAV k n y du, .sl 4 (l.map varAV), .raw (.int .u64 m)] noHeap (.raw (.bool true)) noHeap := by
  have hlv := c_live
  by_cases hz : 1000 < d.size + c.size + n.size + y.size
  · refine calls_go (nt := 70) (rs := [.tmp 10]) Try.func8 rfl rfl rfl (by simp) (by intro id h; simp at h <;> omega) ?_; intro Q hQ hW
    repeat' (first
    | (with_reducible refine run_n ?_; with_reducible first | refine hK _ _ (by simp) ?_ | refine hK _ _ ?_; clear hK K)
    | (with_reducible first | refine awp_seq ?_ | refine then_n ?_ | refine then_r ?_ | refine then_e ?_ | refine awp_skip ?_ | refine awp_label ?_ | refine awp_ret ?_ | refine awp_exit ?_ | refine awp_block ?_ | refine awp_scope ?_ | refine in_n ?_ | refine in_r ?_ | refine in_e ?_ | refine in_ne (by decide) ?_ | refine ng_n ?_ | refine ng_r ?_ | refine ng_e ?_)
    | (with_reducible refine awp_regT (by kernel_rfl) ?_; intro K hK)
    | (with_reducible refine awp_regAM (id := 3) [(5, some 5), (6, some 6), (7, some 7)] mixed (by kernel_rfl) (by kernel_rfl) ?_; intro K hK)
    | (with_reducible refine a_cond (ht := ?_) (hf := ?_) <;> intro hb <;> (try simp at hb) <;> (try contradiction) <;> (try subst hb) <;> (try omega))
    | (with_reducible first | refine a_move (hr := ?_) | refine a_assign (hr := ?_) | refine a_load (hr := ?_) | refine a_fieldAddr (hr := ?_) | refine a_bin (hr := ?_) | refine a_lenS (hr := ?_) | refine a_lenR (hr := ?_) | refine a_pick (hr := ?_) | refine a_un (hr := ?_) | refine a_box (hr := ?_) | refine a_call0 (hcall := hlv) (hr := ?_) | refine a_gT (hr := ?_) | refine a_gF (hr := ?_) | refine a_gU (hr := ?_))
    | (with_reducible refine a_gB (hT := ?_) (hF := ?_) <;> intro hb <;> (try simp at hb) <;> (try contradiction) <;> (try subst hb) <;> (try omega))
    | fail)
    all_goals ((refine hQ _ _ _ _ (by first | exact .inr rfl | exact .inl rfl) (by simp; exact .r) (by simp; exact .r) ?_))
    all_goals (exact Fin.drop (by simp; exact .r) (by simp))
  by_cases h40 : 40 < l.length
  · refine calls_go (nt := 70) (rs := [.tmp 10]) Try.func8 rfl rfl rfl (by simp) (by intro id h; simp at h <;> omega) ?_; intro Q hQ hW
    repeat' (first
    | (with_reducible refine run_n ?_; with_reducible first | refine hK _ _ (by simp) ?_ | refine hK _ _ ?_; clear hK K)
    | (with_reducible first | refine awp_seq ?_ | refine then_n ?_ | refine then_r ?_ | refine then_e ?_ | refine awp_skip ?_ | refine awp_label ?_ | refine awp_ret ?_ | refine awp_exit ?_ | refine awp_block ?_ | refine awp_scope ?_ | refine in_n ?_ | refine in_r ?_ | refine in_e ?_ | refine in_ne (by decide) ?_ | refine ng_n ?_ | refine ng_r ?_ | refine ng_e ?_)
    | (with_reducible refine awp_regT (by kernel_rfl) ?_; intro K hK)
    | (with_reducible refine awp_regAM (id := 3) [(5, some 5), (6, some 6), (7, some 7)] mixed (by kernel_rfl) (by kernel_rfl) ?_; intro K hK)
    | (with_reducible refine a_cond (ht := ?_) (hf := ?_) <;> intro hb <;> (try simp at hb) <;> (try contradiction) <;> (try subst hb) <;> (try omega))
    | (with_reducible first | refine a_move (hr := ?_) | refine a_assign (hr := ?_) | refine a_load (hr := ?_) | refine a_fieldAddr (hr := ?_) | refine a_bin (hr := ?_) | refine a_lenS (hr := ?_) | refine a_lenR (hr := ?_) | refine a_pick (hr := ?_) | refine a_un (hr := ?_) | refine a_box (hr := ?_) | refine a_call0 (hcall := hlv) (hr := ?_) | refine a_gT (hr := ?_) | refine a_gF (hr := ?_) | refine a_gU (hr := ?_))
    | (with_reducible refine a_gB (hT := ?_) (hF := ?_) <;> intro hb <;> (try simp at hb) <;> (try contradiction) <;> (try subst hb) <;> (try omega))
    | fail)
    all_goals ((refine hQ _ _ _ _ (by first | exact .inr rfl | exact .inl rfl) (by simp; exact .r) (by simp; exact .r) ?_))
    all_goals (exact Fin.drop (by simp; exact .r) (by simp))
  have a1 := c_PutInst d v s c x (by omega) (by omega) hv hx
  have a2 := c_rPutInst d v s c x (by omega) (by omega) hv hx
  have i1 := putInst_isB (s := s) (show d.size ≤ 1000000 by omega) (show c.size ≤ 1000000 by omega) hv hx
  have q1 := c_rEqualT (putInst d v s c x) (by omega) i1.1
  have a3 := c_PutToken ta ts tf hts.1 hts.2
  have a4 := c_rPutToken ta ts tf hts.1 hts.2
  have i2 := putTok_isB (a := ta) (f := tf) hts
  have q2 := c_rEqualT (putTok ta ts tf) (by omega) i2.1
  have a5 := c_PutArm k n y du hn hy hdu
  have a6 := c_rPutArm k n y du (by omega) (by omega) hdu
  have i3 := putArm_isB (k := k) (show n.size ≤ 1000000 by omega) (show y.size ≤ 1000000 by omega) hdu
  have q3 := c_rEqualT (putArm k n y du) (by omega) i3.1
  have a7 := c_PutVars l hl hw
  have a8 := c_rPutVars l hl hw
  have i4 := putVars_len l
  have q4 := c_rEqualT (putVars l) (by omega) (putVars_isB hw)
  have a9 := c_PutNumber m hm.1 hm.2
  have a0 := c_rUintT m hm.1 hm.2
  have i5 := (enc_len 9 m).1
  have q5 := c_rEqualT (enc 9 m) (by omega) (enc9_isB hm.1 hm.2)
  generalize putInst d v s c x = w1 at a1 a2 q1
  generalize putTok ta ts tf = w2 at a3 a4 q2
  generalize putArm k n y du = w3 at a5 a6 q3
  generalize putVars l = w4 at a7 a8 q4
  generalize enc 9 m = w5 at a9 a0 q5
  clear i1 i2 i3 i4 i5
  refine calls_go (nt := 70) (rs := [.tmp 10]) Try.func8 rfl rfl rfl (by simp) (by intro id h; simp at h <;> omega) ?_; intro Q hQ hW
  repeat' (first
    | (with_reducible refine run_n ?_; with_reducible first | refine hK _ _ (by simp) ?_ | refine hK _ _ ?_; clear hK K)
    | (with_reducible first | refine awp_seq ?_ | refine then_n ?_ | refine then_r ?_ | refine then_e ?_ | refine awp_skip ?_ | refine awp_label ?_ | refine awp_ret ?_ | refine awp_exit ?_ | refine awp_block ?_ | refine awp_scope ?_ | refine in_n ?_ | refine in_r ?_ | refine in_e ?_ | refine in_ne (by decide) ?_ | refine ng_n ?_ | refine ng_r ?_ | refine ng_e ?_)
    | (with_reducible refine awp_regT (by kernel_rfl) ?_; intro K hK)
    | (with_reducible refine awp_regCM (id := 3) [(5, some 5), (6, some 6), (7, some 7)] [(5, some 5), (6, some 6), (7, some 7), (37, none), (38, none), (39, none), (40, none), (43, none), (44, none), (45, none), (46, none), (50, none), (51, none), (52, none), (53, none), (57, none), (58, none), (59, none), (60, none), (64, none), (65, none), (66, none), (67, none)] mixed (by kernel_rfl) (by kernel_rfl) (by kernel_rfl) ?_; intro K hK)
    | (with_reducible refine a_cond (ht := ?_) (hf := ?_) <;> intro hb <;> (try simp at hb) <;> (try contradiction) <;> (try subst hb) <;> (try omega))
    | (with_reducible first | refine a_move (hr := ?_) | refine a_assign (hr := ?_) | refine a_load (hr := ?_) | refine a_fieldAddr (hr := ?_) | refine a_bin (hr := ?_) | refine a_lenS (hr := ?_) | refine a_lenR (hr := ?_) | refine a_pick (hr := ?_) | refine a_un (hr := ?_) | refine a_box (hr := ?_) | refine a_call0 (hcall := hlv) (hr := ?_) | refine a_callN (hcall := a1) (hr := ?_) | refine a_callN (hcall := a2) (hr := ?_) | refine a_callN (hcall := a3) (hr := ?_) | refine a_callN (hcall := a4) (hr := ?_) | refine a_callN (hcall := a5) (hr := ?_) | refine a_callN (hcall := a6) (hr := ?_) | refine a_callF (hcall := a7) (hr := ?_) | refine a_callF (hcall := a8) (hr := ?_) | refine a_callN (hcall := a9) (hr := ?_) | refine a_callN (hcall := a0) (hr := ?_) | refine a_callF (hcall := q1) (hr := ?_) | refine a_callF (hcall := q2) (hr := ?_) | refine a_callF (hcall := q3) (hr := ?_) | refine a_callF (hcall := q4) (hr := ?_) | refine a_callF (hcall := q5) (hr := ?_) | refine a_gT (hr := ?_) | refine a_gF (hr := ?_) | refine a_gU (hr := ?_))
    | (with_reducible refine a_gB (hT := ?_) (hF := ?_) <;> intro hb <;> (try simp at hb) <;> (try contradiction) <;> (try subst hb) <;> (try omega))
    | fail)
  all_goals ((refine hQ _ _ _ _ (by first | exact .inr rfl | exact .inl rfl) (by simp; exact .r) (by simp; exact .r) ?_))
  all_goals (exact Fin.drop (by simp; exact .r) (by simp))
theorem row_EntityPuts (x0 : ByteArray × Int × Int × ByteArray × Int) (x1 : Int × Int × Int) (x2 : Int × ByteArray × ByteArray × Int) (x3 : List (ByteArray × Int × Int × ByteArray)) (m : Int)
    (hd : x0.1.size ≤ 140737488351232) (hc : x0.2.2.2.1.size ≤ 140737488351232) (hv : 0 ≤ x0.2.1 ∧ x0.2.1 < 18446744073709551616) (hx : 0 ≤ x0.2.2.2.2 ∧ x0.2.2.2.2 < 18446744073709551616) (hts : 0 ≤ x1.2.1 ∧ x1.2.1 < 18446744073709551616)
    (hn : x2.2.1.size ≤ 140737488351232) (hy : x2.2.2.1.size ≤ 140737488351232) (hdu : 0 ≤ x2.2.2.2 ∧ x2.2.2.2 < 18446744073709551616) (hl : x3.length ≤ 140737488351232) (hw : ∀ x ∈ x3, wfV (vof x)) (hm : 0 ≤ m ∧ m < 18446744073709551616) :
    CallD Try.prog 8 [instAV x0.1 x0.2.1 x0.2.2.1 x0.2.2.2.1 x0.2.2.2.2, tokAV x1.1 x1.2.1 x1.2.2, armAV x2.1 x2.2.1 x2.2.2.1 x2.2.2.2, .sl 4 (x3.map fun x => varAV (vof x)), .raw (.int .u64 m)] noHeap (.raw (.bool true)) noHeap := by
  have := law_EntityPuts x0.1 x0.2.2.2.1 x0.2.1 x0.2.2.1 x0.2.2.2.2 x1.1 x1.2.1 x1.2.2 x2.1 x2.2.1 x2.2.2.1 x2.2.2.2 (x3.map vof) m hd hc hv hx hts hn hy hdu (by simpa using hl) (fun y hy => by obtain ⟨z, hz, rfl⟩ := List.mem_map.1 hy; exact hw z hz) hm
  rwa [map_vof] at this
end Go.Proofs.Ytdbdajmgfajcpaa.Asl
