/- Part 16 of what the row leans on: abstract values and states, their rules, and the contracts of the functions. -/
import Derived.Test.YtdbdajmgfajcpaaZ15
namespace Go.Proofs.Ytdbdajmgfajcpaa.Asl
open Go Go.RowKit
set_option linter.unusedVariables false
set_option linter.unusedSimpArgs false
set_option maxRecDepth 100000
set_option maxHeartbeats 4000000
theorem p128_10 : (128 : Int) ^ (9 + 1) = 1180591620717411303424 := by decide
theorem enc9_isB {n : Int} (h0 : 0 ≤ n) (h1 : n < 18446744073709551616) : IsB (enc 9 n) := enc_isB 9 n h0 (by rw [p128_10]; omega)
theorem txtL_isB (s : ByteArray) (h : s.size ≤ 140737488351232) : IsB (txtL s) := isB_app.2 ⟨enc9_isB (by omega) (by omega), isB_bytes s⟩
theorem putInst_isB {d c : ByteArray} {v s x : Int} (hd : d.size ≤ 1000000) (hc : c.size ≤ 1000000) (hv : 0 ≤ v ∧ v < 18446744073709551616) (hx : 0 ≤ x ∧ x < 18446744073709551616) : IsB (putInst d v s c x) ∧ (putInst d v s c x).length ≤ 10000000 := by
  have b1 := txtL_len d
  have b2 := (enc_len 9 v).1
  have b3 := txtL_len c
  have b4 := (enc_len 9 x).1
  unfold putInst
  by_cases hB : instB d v s c x = true
  · rw [if_pos hB]
    have hs := instB_of hB
    refine ⟨isB_app.2 ⟨txtL_isB d (by omega), isB_app.2 ⟨enc9_isB hv.1 hv.2, isB_app.2 ⟨isB_cons.2 ⟨by omega, isB_nil⟩, isB_app.2 ⟨txtL_isB c (by omega), enc9_isB hx.1 hx.2⟩⟩⟩⟩, ?_⟩
    simp only [List.length_append, List.length_cons, List.length_nil] at *; omega
  · rw [if_neg hB]; exact ⟨isB_nil, by simp⟩
theorem putArm_isB {k d : Int} {n y : ByteArray} (hn : n.size ≤ 1000000) (hy : y.size ≤ 1000000) (hd : 0 ≤ d ∧ d < 18446744073709551616) : IsB (putArm k n y d) ∧ (putArm k n y d).length ≤ 10000000 := by
  have b1 := txtL_len n
  have b2 := (enc_len 9 d).1
  have b3 := txtL_len y
  unfold putArm
  by_cases hB : armB k n y d = true
  · rw [if_pos hB]
    have h1 := txtL_isB n (by omega)
    have h2 := txtL_isB y (by omega)
    have h3 := enc9_isB hd.1 hd.2
    repeat' split
    · exact ⟨isB_cons.2 ⟨by omega, h3⟩, by simp only [List.length_cons]; omega⟩
    · exact ⟨isB_cons.2 ⟨by omega, isB_app.2 ⟨h1, h2⟩⟩, by simp only [List.length_cons, List.length_append] at *; omega⟩
    · exact ⟨isB_cons.2 ⟨by omega, h1⟩, by simp only [List.length_cons, List.length_append] at *; omega⟩
  · rw [if_neg hB]; exact ⟨isB_nil, by simp⟩
theorem putV_isB' (k n : Int) (s : ByteArray) (hn : -9223372036854775808 ≤ n ∧ n < 9223372036854775808) (hs : s.size ≤ 140737488351232) : IsB (putV k n s) := by
  have hz := zz_range hn.1 hn.2
  unfold putV
  by_cases hr : rightE k n s = 0
  · rw [if_neg (by simp [hr])]
    have hk := rightE_k hr
    by_cases k3 : k = 3
    · rw [if_pos k3, isB_cons]; exact ⟨by omega, isB_app.2 ⟨enc9_isB (by omega) (by omega), isB_bytes s⟩⟩
    · rw [if_neg k3, isB_cons]; exact ⟨by omega, enc9_isB hz.1 (by omega)⟩
  · rw [if_pos (by simpa using hr)]; exact isB_nil
theorem putVars_isB {l : List VarV} (hw : ∀ x ∈ l, wfV x) : IsB (putVars l) := by
  unfold putVars
  by_cases h : varsE l = 0
  · rw [if_pos h]
    obtain ⟨h1, h2⟩ := varsE_small h
    refine isB_app.2 ⟨enc9_isB (by omega) (by omega), fun b hb => ?_⟩
    obtain ⟨x, hx, hb⟩ := List.mem_flatMap.1 hb
    have w := hw x hx
    exact (isB_app.2 ⟨txtL_isB x.n w.1, putV_isB' x.k x.v x.s w.2.2 w.2.1⟩) b hb
  · rw [if_neg h]; exact isB_nil
end Go.Proofs.Ytdbdajmgfajcpaa.Asl

namespace Go.Proofs.Ytdbdajmgfajcpaa.Asl
open Go Go.RowKit
set_option linter.unusedVariables false
set_option linter.unusedSimpArgs false
set_option maxRecDepth 100000
set_option maxHeartbeats 4000000
section
variable {P : Program} {nt : Nat} {σ : St} {Q : Exit → St → Prop}
/-- Ways that meet again. -/
theorem ef_join {x y : Code} {Q' : Exit → St → Prop} (σ2 : St) (hy : AWP P nt y Q σ2) (hx : AWP P nt x (Then (fun σ' => Weak σ' σ2) Q') σ) : AWP P nt x (Then (fun σ' => AWP P nt y Q σ') Q') σ :=
  hx.mono fun ex σ' h => by
    cases ex with
    | normal => exact AWP.weak h hy
    | _ => exact h
end
theorem armS_cons (c : Int) (l : List Int) : armS (c :: l, 0) = armT c (l, 0) := by unfold armS; rw [sB_put]
theorem arm_put {k d : Int} {n y : ByteArray} (h : armB k n y d = true) (hd : 0 ≤ d ∧ d < 18446744073709551616) : armR (putArm k n y d) = (⟨k, n, y, d⟩, 0) := by
  have key : ∀ l, armS (k :: l, 0) = (⟨k, n, y, d⟩, ([], 0)) → (k = 1 ∨ k = 2 ∨ k = 3) → armR (k :: l) = (⟨k, n, y, d⟩, 0) := by
    intro l hl hk
    rw [armR, if_neg (by omega), armO, hl]
    simp only [Arm.b, h]
    rfl
  unfold putArm
  rw [if_pos h]
  rcases armB_k h with ⟨rfl, rfl, rfl⟩ | ⟨rfl, hn, hy, rfl⟩ | ⟨rfl, hn, rfl, rfl⟩
  · rw [if_pos rfl]
    refine key _ ?_ (.inl rfl)
    have := sU_put (most := 18446744073709551615) hd.1 (by omega) hd.2 []
    rw [List.append_nil] at this
    rw [armS_cons, armT, if_pos rfl, this]
  · rw [if_neg (by decide), if_pos rfl]
    refine key _ ?_ (.inr (.inl rfl))
    have hn' := (nameB_len hn).1
    rw [len_bytes] at hn'
    have h2 := sT_put (s := y) (most := 64) (by omega) (by omega) []
    rw [List.append_nil] at h2
    rw [armS_cons, armT, if_neg (by decide), if_pos rfl, sT_put (s := n) (by omega) (by omega)]
    simp only [h2]
  · rw [if_neg (by decide), if_neg (by decide)]
    refine key _ ?_ (.inr (.inr rfl))
    have hn' := (nameB_len hn).1
    rw [len_bytes] at hn'
    have h2 := sT_put (s := n) (most := 16) (by omega) (by omega) []
    rw [List.append_nil] at h2
    rw [armS_cons, armT, if_neg (by decide), if_neg (by decide), if_pos rfl, h2]
theorem sT_small {l : List Int} {e most : Int} {n : Nat} (h : l.length ≤ n) : (sT most (l, e)).1.size ≤ n := Nat.le_trans (r_T l e most) h
theorem arm_take {l : List Int} (hB : IsB l) (hl : l.length ≤ 1000) (h : (armR l).2 = 0) : putArm (armR l).1.k (armR l).1.n (armR l).1.y (armR l).1.d = l ∧ (armR l).1.n.size ≤ 1000 ∧ (armR l).1.y.size ≤ 1000 ∧ 0 ≤ (armR l).1.d ∧ (armR l).1.d < 18446744073709551616 := by
  cases l with
  | nil =>
    obtain ⟨hq, _⟩ := outR_fst (z := Arm.z) (r := (armS ([], 0)).1) h
    obtain ⟨_, he, _⟩ := wrong_0 hq
    exact absurd he (by decide)
  | cons c l =>
    by_cases hc : c < 1 ∨ 3 < c
    · rw [armR, if_pos hc] at h; exact absurd h (by decide)
    rw [armR, if_neg hc] at h ⊢
    obtain ⟨hq, hr⟩ := outR_fst (z := Arm.z) (r := (armS (c :: l, 0)).1) h
    obtain ⟨hb, he, hl0⟩ := wrong_0 hq
    have hBl := (isB_cons.1 hB).2
    simp only [List.length_cons] at hl
    have hr : (armO (c :: l, 0)).1 = (armS (c :: l, 0)).1 := hr
    rw [hr]
    rw [armS_cons] at hb he hl0 ⊢
    clear hr hq h
    unfold armT at hb he hl0 ⊢
    by_cases c1 : c = 1
    · subst c1
      simp only [if_true] at hb he hl0 ⊢
      have f := sU_form (most := 18446744073709551615) hBl he
      generalize sU 18446744073709551615 (l, 0) = r at *
      obtain ⟨v, l1, e1⟩ := r
      simp only at *
      obtain ⟨_, g, g1, g2⟩ := f
      rw [hl0, List.append_nil] at g
      have hb' : armB 1 ⟨#[]⟩ ⟨#[]⟩ v = true := hb
      refine ⟨?_, Nat.zero_le _, Nat.zero_le _, by omega, by omega⟩
      unfold putArm
      rw [if_pos hb', if_pos rfl, ← g]
    rw [if_neg c1] at hb he hl0 ⊢
    by_cases c2 : c = 2
    · subst c2
      simp only [if_true] at hb he hl0 ⊢
      have b1 := isB_sT (e := 0) (most := 16) hBl
      have f1 := sT_form (l := l) (e := 0) (most := 16) hBl
      have s1 := sT_small (l := l) (e := 0) (most := 16) (n := 1000) (by omega)
      have n1 := ln_sT (l := l) (e := 0) (most := 16) (n := 1000) (by omega)
      generalize sT 16 (l, 0) = r at *
      obtain ⟨v, l1, e1⟩ := r
      simp only at *
      have f2 := sT_form (l := l1) (e := e1) (most := 64) b1
      have s2 := sT_small (l := l1) (e := e1) (most := 64) n1
      generalize sT 64 (l1, e1) = r2 at *
      obtain ⟨v2, l2, e2⟩ := r2
      simp only at *
      obtain ⟨rfl, g2⟩ := f2 he
      obtain ⟨_, g1⟩ := f1 rfl
      rw [hl0, List.append_nil] at g2
      have hb' : armB 2 v v2 0 = true := hb
      refine ⟨?_, s1, s2, by decide, by decide⟩
      unfold putArm
      rw [if_pos hb', if_neg (by decide), if_pos rfl, g1, g2]
    rw [if_neg c2] at hb he hl0 ⊢
    obtain rfl : c = 3 := by omega
    simp only [if_true] at hb he hl0 ⊢
    have f1 := sT_form (l := l) (e := 0) (most := 16) hBl
    have s1 := sT_small (l := l) (e := 0) (most := 16) (n := 1000) (by omega)
    generalize sT 16 (l, 0) = r at *
    obtain ⟨v, l1, e1⟩ := r
    simp only at *
    obtain ⟨_, g1⟩ := f1 he
    rw [hl0, List.append_nil] at g1
    have hb' : armB 3 v ⟨#[]⟩ 0 = true := hb
    refine ⟨?_, s1, Nat.zero_le _, by decide, by decide⟩
    unfold putArm
    rw [if_pos hb', if_neg (by decide), if_neg (by decide), g1]
/-- Variables. -/
theorem chkV_right : ∀ (l : List VarV) (last : ByteArray), chkV last l = 0 → ∀ x ∈ l, rightE x.k x.v x.s = 0 := by
  intro l
  induction l with
  | nil => intro _ _ x hx; cases hx
  | cons y l ih =>
    intro last h x hx
    simp only [chkV] at h
    by_cases h1 : nameB (bytesOf y.n) = false
    · rw [if_pos h1] at h; cases h
    rw [if_neg h1] at h
    by_cases h2 : sless last y.n = false
    · rw [if_pos h2] at h; cases h
    rw [if_neg h2] at h
    by_cases h3 : rightE y.k y.v y.s ≠ 0
    · rw [if_pos h3] at h; exact absurd h h3
    rw [if_neg h3] at h
    rcases List.mem_cons.1 hx with rfl | hx
    · simpa using h3
    · exact ih _ h x hx
theorem varsE_right {l : List VarV} (h : varsE l = 0) : ∀ x ∈ l, rightE x.k x.v x.s = 0 := by
  unfold varsE at h
  by_cases h8 : 8 < l.length
  · rw [if_pos h8] at h; cases h
  · rw [if_neg h8] at h; exact chkV_right l _ h
theorem tvL_put : ∀ (l : List VarV) (r : List Int) (out : List VarV), (∀ x ∈ l, x.n.size ≤ 16 ∧ rightE x.k x.v x.s = 0 ∧ (-9223372036854775808 ≤ x.v ∧ x.v < 9223372036854775808)) → tvL l.length (l.flatMap varL ++ r, 0) out = (0, (r, 0), out ++ l)
  | [], r, out, _ => by simp [tvL]
  | x :: l, r, out, h => by
    obtain ⟨h1, h2, h3⟩ := h x List.mem_cons_self
    have e1 : (x :: l).flatMap varL ++ r = txtL x.n ++ (putV x.k x.v x.s ++ (l.flatMap varL ++ r)) := by
      rw [List.flatMap_cons, varL]; simp only [List.append_assoc]
    rw [e1, List.length_cons, tvL, sT_put (by omega) (by omega)]
    simp only
    rw [take_put h2 h3]
    simp only [ne_eq, not_true_eq_false, if_false]
    rw [Int.toNat_natCast, List.drop_left, tvL_put l r _ (fun y hy => h y (List.mem_cons_of_mem _ hy))]
    simp
theorem vars_put {l : List VarV} (h : varsE l = 0) (hw : ∀ x ∈ l, wfV x) : varsR (putVars l) = (l, 0) := by
  have hr := varsE_right h
  obtain ⟨h8, hs⟩ := varsE_small h
  unfold putVars varsR
  rw [if_pos h, sU_put (by omega) (by omega) (by omega)]
  simp only
  rw [Int.toNat_natCast]
  have := tvL_put l [] [] (fun x hx => ⟨(hs x hx).1, hr x hx, (hw x hx).2.2⟩)
  rw [List.append_nil, List.nil_append] at this
  rw [this, varsF]
  have e0 : endV (endE [] 0) l = 0 := by show varsE l = 0; exact h
  simp only
  rw [if_neg (by decide), e0, outR_0]
theorem tvL_form : ∀ (n : Nat) (l : List Int) (e : Int) (out : List VarV), IsB l → l.length ≤ 1000 → (tvL n (l, e) out).1 = 0 → (tvL n (l, e) out).2.1.2 = 0 → e = 0 ∧ ∃ vs, (tvL n (l, e) out).2.2 = out ++ vs ∧ vs.length = n ∧ l = vs.flatMap varL ++ (tvL n (l, e) out).2.1.1 ∧ ∀ x ∈ vs, wfV x
  | 0, l, e, out, hB, hl, h, he => ⟨he, [], by simp [tvL]⟩
  | n + 1, l, e, out, hB, hl, h, he => by
    rw [tvL] at h he ⊢
    have f1 := sT_form (l := l) (e := e) (most := 16) hB
    have b1 := isB_sT (e := e) (most := 16) hB
    have s1 := sT_small (l := l) (e := e) (most := 16) (n := 1000) hl
    have n1 := ln_sT (l := l) (e := e) (most := 16) (n := 1000) hl
    generalize sT 16 (l, e) = r at *
    obtain ⟨v, l1, e1⟩ := r
    simp only at *
    by_cases h1 : e1 = 0
    · subst h1
      obtain ⟨rfl, g1⟩ := f1 rfl
      rw [if_neg (by decide)] at h he ⊢
      have f2 := put_take b1
      generalize takeV l1 = t at *
      obtain ⟨⟨a, b, c⟩, k, q⟩ := t
      simp only at *
      by_cases h2 : q = 0
      · subst h2
        rw [if_neg (by decide)] at h he ⊢
        obtain ⟨p1, p2, p3, p4, p5, p6⟩ := f2 rfl
        obtain ⟨_, vs, q1, q2, q3, q4⟩ := tvL_form n (l1.drop k.toNat) 0 _ (isB_drop b1 _) (by rw [List.length_drop]; omega) h he
        refine ⟨by trivial, ⟨v, a, b, c⟩ :: vs, by rw [q1]; simp, by simp [q2], ?_, fun x hx => ?_⟩
        · rw [List.flatMap_cons, varL]
          simp only
          rw [p2, List.append_assoc, List.append_assoc, ← q3, List.take_append_drop, ← g1]
        · rcases List.mem_cons.1 hx with rfl | hx
          · exact ⟨by simp only; omega, by simp only; omega, p5⟩
          · exact q4 x hx
      · rw [if_pos h2] at h; exact absurd h h2
    · rw [if_pos h1] at h; exact absurd h h1
theorem vars_take {l : List Int} (hB : IsB l) (hl : l.length ≤ 1000) (h : (varsR l).2 = 0) : putVars (varsR l).1 = l ∧ (∀ x ∈ (varsR l).1, wfV x) ∧ varsE (varsR l).1 = 0 := by
  unfold varsR at h ⊢
  have f0 := sU_form (l := l) (e := 0) (most := 8) hB
  have b0 := isB_sU (e := 0) (most := 8) hB
  have n0 := ln_sU (l := l) (e := 0) (most := 8) (n := 1000) hl
  generalize sU 8 (l, 0) = u at *
  obtain ⟨n, m, e⟩ := u
  simp only at *
  have ft := tvL_form n.toNat m e [] b0 n0
  generalize tvL n.toNat (m, e) [] = T at *
  obtain ⟨t1, ⟨t2, t3⟩, out⟩ := T
  unfold varsF at h ⊢
  simp only at *
  by_cases ht : t1 = 0
  · subst ht
    rw [if_neg (by decide)] at h ⊢
    obtain ⟨hq, hr⟩ := outR_fst h
    rw [hr]
    unfold endV at hq
    by_cases hE : endE t2 t3 = 0
    · rw [if_neg (by simpa using hE)] at hq
      have h3 : t3 = 0 ∧ t2 = [] := by
        unfold endE at hE
        by_cases h3 : t3 = 0
        · subst h3
          by_cases h2 : t2 = []
          · simp [h2]
          · simp [h2] at hE
        · simp [h3] at hE
      obtain ⟨rfl, rfl⟩ := h3
      obtain ⟨rfl, vs, q1, q2, q3, q4⟩ := ft rfl rfl
      rw [List.nil_append] at q1
      subst q1
      obtain ⟨_, g1, g2, g3⟩ := f0 rfl
      refine ⟨?_, q4, hq⟩
      unfold putVars
      rw [if_pos hq, g1, q2]
      rw [List.append_nil] at q3
      rw [q3, show ((n.toNat : Nat) : Int) = n by omega]
    · rw [if_pos hE] at hq; exact absurd hq hE
  · rw [if_pos ht] at h; exact absurd h ht
theorem putArm_len {k d : Int} {n y : ByteArray} (h : armB k n y d = true) : 0 < (putArm k n y d).length := by
  unfold putArm
  rw [if_pos h]
  repeat' split
  all_goals simp
theorem putInst_len {d c : ByteArray} {v s x : Int} (h : instB d v s c x = true) : 0 < (putInst d v s c x).length := by
  unfold putInst
  rw [if_pos h]; simp; omega
theorem law_EntityForms (d c : ByteArray) (v s x : Int) (k : Int) (n y : ByteArray) (du : Int) (l : List VarV) (b : List Int)
    (hd : d.size ≤ 140737488351232) (hc : c.size ≤ 140737488351232) (hv : 0 ≤ v ∧ v < 18446744073709551616) (hx : 0 ≤ x ∧ x < 18446744073709551616)
    (hn : n.size ≤ 140737488351232) (hy : y.size ≤ 140737488351232) (hdu : 0 ≤ du ∧ du < 18446744073709551616) (hl : l.length ≤ 140737488351232) (hw : ∀ x ∈ l, wfV x) (hB : IsB b) (hbl : b.length ≤ 140737488355328) :
    CallD Try.prog 10 [instAV d v s c x, armAV k n y du, .sl 4 (l.map varAV), .sl 1 (u8s b)] noHeap (.raw (.bool true)) noHeap := by
  have hlv := c_live
  by_cases hz : 1000 < d.size + c.size + n.size + y.size
  · refine calls_go (nt := 167) (rs := [.tmp 8]) Try.func10 rfl rfl rfl (by simp) (by intro id h; simp at h <;> omega) ?_; intro Q hQ hW
    repeat' (first
    | (with_reducible refine run_n ?_; with_reducible first | refine hK _ _ (by simp) ?_ | refine hK _ _ ?_; clear hK K)
    | (with_reducible first | refine awp_seq ?_ | refine then_n ?_ | refine then_r ?_ | refine then_e ?_ | refine awp_skip ?_ | refine awp_label ?_ | refine awp_ret ?_ | refine awp_exit ?_ | refine awp_block ?_ | refine awp_scope ?_ | refine in_n ?_ | refine in_r ?_ | refine in_e ?_ | refine in_ne (by decide) ?_ | refine ng_n ?_ | refine ng_r ?_ | refine ng_e ?_)
    | (with_reducible refine awp_regT (by kernel_rfl) ?_; intro K hK)
    | (with_reducible refine a_cond (ht := ?_) (hf := ?_) <;> intro hb <;> (try simp at hb) <;> (try contradiction) <;> (try subst hb) <;> (try omega))
    | (with_reducible first | refine a_move (hr := ?_) | refine a_assign (hr := ?_) | refine a_load (hr := ?_) | refine a_fieldAddr (hr := ?_) | refine a_bin (hr := ?_) | refine a_lenS (hr := ?_) | refine a_lenR (hr := ?_) | refine a_extract (hr := ?_) | refine a_pick (hr := ?_) | refine a_un (hr := ?_) | refine a_store (hr := ?_) | refine a_box (hr := ?_) | refine a_alloc (hr := ?_) | refine a_neB (hr := ?_) | refine a_neS (hr := ?_) | refine a_call0 (hcall := hlv) (hr := ?_) | refine a_gT (hr := ?_) | refine a_gF (hr := ?_) | refine a_gU (hr := ?_))
    | (with_reducible refine a_gB (hT := ?_) (hF := ?_) <;> intro hb <;> (try simp at hb) <;> (try contradiction) <;> (try subst hb) <;> (try omega))
    | fail)
    all_goals ((refine hQ _ _ _ _ (by first | exact .inr rfl | exact .inl rfl) (by simp; exact .r) (by simp; exact .r) ?_))
    all_goals (exact Fin.drop (by simp; exact .r) (by simp))
  by_cases h40 : 40 < l.length
  · refine calls_go (nt := 167) (rs := [.tmp 8]) Try.func10 rfl rfl rfl (by simp) (by intro id h; simp at h <;> omega) ?_; intro Q hQ hW
    repeat' (first
    | (with_reducible refine run_n ?_; with_reducible first | refine hK _ _ (by simp) ?_ | refine hK _ _ ?_; clear hK K)
    | (with_reducible first | refine awp_seq ?_ | refine then_n ?_ | refine then_r ?_ | refine then_e ?_ | refine awp_skip ?_ | refine awp_label ?_ | refine awp_ret ?_ | refine awp_exit ?_ | refine awp_block ?_ | refine awp_scope ?_ | refine in_n ?_ | refine in_r ?_ | refine in_e ?_ | refine in_ne (by decide) ?_ | refine ng_n ?_ | refine ng_r ?_ | refine ng_e ?_)
    | (with_reducible refine awp_regT (by kernel_rfl) ?_; intro K hK)
    | (with_reducible refine a_cond (ht := ?_) (hf := ?_) <;> intro hb <;> (try simp at hb) <;> (try contradiction) <;> (try subst hb) <;> (try omega))
    | (with_reducible first | refine a_move (hr := ?_) | refine a_assign (hr := ?_) | refine a_load (hr := ?_) | refine a_fieldAddr (hr := ?_) | refine a_bin (hr := ?_) | refine a_lenS (hr := ?_) | refine a_lenR (hr := ?_) | refine a_extract (hr := ?_) | refine a_pick (hr := ?_) | refine a_un (hr := ?_) | refine a_store (hr := ?_) | refine a_box (hr := ?_) | refine a_alloc (hr := ?_) | refine a_neB (hr := ?_) | refine a_neS (hr := ?_) | refine a_call0 (hcall := hlv) (hr := ?_) | refine a_gT (hr := ?_) | refine a_gF (hr := ?_) | refine a_gU (hr := ?_))
    | (with_reducible refine a_gB (hT := ?_) (hF := ?_) <;> intro hb <;> (try simp at hb) <;> (try contradiction) <;> (try subst hb) <;> (try omega))
    | fail)
    all_goals ((refine hQ _ _ _ _ (by first | exact .inr rfl | exact .inl rfl) (by simp; exact .r) (by simp; exact .r) ?_))
    all_goals (exact Fin.drop (by simp; exact .r) (by simp))
  by_cases hb0 : 1000 < b.length
  · refine calls_go (nt := 167) (rs := [.tmp 8]) Try.func10 rfl rfl rfl (by simp) (by intro id h; simp at h <;> omega) ?_; intro Q hQ hW
    repeat' (first
    | (with_reducible refine run_n ?_; with_reducible first | refine hK _ _ (by simp) ?_ | refine hK _ _ ?_; clear hK K)
    | (with_reducible first | refine awp_seq ?_ | refine then_n ?_ | refine then_r ?_ | refine then_e ?_ | refine awp_skip ?_ | refine awp_label ?_ | refine awp_ret ?_ | refine awp_exit ?_ | refine awp_block ?_ | refine awp_scope ?_ | refine in_n ?_ | refine in_r ?_ | refine in_e ?_ | refine in_ne (by decide) ?_ | refine ng_n ?_ | refine ng_r ?_ | refine ng_e ?_)
    | (with_reducible refine awp_regT (by kernel_rfl) ?_; intro K hK)
    | (with_reducible refine a_cond (ht := ?_) (hf := ?_) <;> intro hb <;> (try simp at hb) <;> (try contradiction) <;> (try subst hb) <;> (try omega))
    | (with_reducible first | refine a_move (hr := ?_) | refine a_assign (hr := ?_) | refine a_load (hr := ?_) | refine a_fieldAddr (hr := ?_) | refine a_bin (hr := ?_) | refine a_lenS (hr := ?_) | refine a_lenR (hr := ?_) | refine a_extract (hr := ?_) | refine a_pick (hr := ?_) | refine a_un (hr := ?_) | refine a_store (hr := ?_) | refine a_box (hr := ?_) | refine a_alloc (hr := ?_) | refine a_neB (hr := ?_) | refine a_neS (hr := ?_) | refine a_call0 (hcall := hlv) (hr := ?_) | refine a_gT (hr := ?_) | refine a_gF (hr := ?_) | refine a_gU (hr := ?_))
    | (with_reducible refine a_gB (hT := ?_) (hF := ?_) <;> intro hb <;> (try simp at hb) <;> (try contradiction) <;> (try subst hb) <;> (try omega))
    | fail)
    all_goals ((refine hQ _ _ _ _ (by first | exact .inr rfl | exact .inl rfl) (by simp; exact .r) (by simp; exact .r) ?_))
    all_goals (exact Fin.drop (by simp; exact .r) (by simp))
  have hb1 : b.length ≤ 1000 := by omega
  -- what is put
  have a1 := c_PutInst d v s c x (by omega) (by omega) hv hx
  have i1 := putInst_isB (s := s) (show d.size ≤ 1000000 by omega) (show c.size ≤ 1000000 by omega) hv hx
  have p1 : (putInst d v s c x = [] ∨ (0 < (putInst d v s c x).length ∧ CallD Try.prog 34 [.sl 1 (u8s (putInst d v s c x))] noHeap (.tup [instAV d v s c x, .raw (.int .i64 0)]) noHeap)) := by
    by_cases hB1 : instB d v s c x = true
    · right
      refine ⟨putInst_len hB1, ?_⟩
      have hln : (putInst d v s c x).length ≤ 1000 := by
        have hs1 : d.size ≤ 16 ∧ c.size ≤ 16 := by
          have hB1 := hB1
          unfold instB at hB1
          simp only [Bool.and_eq_true] at hB1
          refine ⟨nameB_sz hB1.1.1.1.1.2, ?_⟩
          have h1 := hB1.1.1.1.1.1
          split at h1
          · exact nameB_sz h1
          · rw [decide_eq_true_eq] at h1; rw [h1]; decide
        have b1 := txtL_len d
        have b2 := (enc_len 9 v).1
        have b3 := txtL_len c
        have b4 := (enc_len 9 x).1
        unfold putInst
        rw [if_pos hB1]
        simp only [List.length_append, List.length_cons, List.length_nil] at *; omega
      have := c_TakeInst _ i1.1 hln
      rw [inst_put hB1 hv hx] at this
      exact this
    · left; unfold putInst; rw [if_neg hB1]
  have a2 := c_PutArm k n y du hn hy hdu
  have i2 := putArm_isB (k := k) (show n.size ≤ 1000000 by omega) (show y.size ≤ 1000000 by omega) hdu
  have p2 : (putArm k n y du = [] ∨ (0 < (putArm k n y du).length ∧ CallD Try.prog 38 [.sl 1 (u8s (putArm k n y du))] noHeap (.tup [armAV k n y du, .raw (.int .i64 0)]) noHeap)) := by
    by_cases hB1 : armB k n y du = true
    · right
      refine ⟨putArm_len hB1, ?_⟩
      have hln : (putArm k n y du).length ≤ 1000 := by
        have hs1 : n.size ≤ 16 ∧ y.size ≤ 64 := by
          rcases armB_k hB1 with ⟨rfl, rfl, rfl⟩ | ⟨rfl, hn, hy, rfl⟩ | ⟨rfl, hn, rfl, rfl⟩
          · exact ⟨by decide, by decide⟩
          · exact ⟨nameB_sz hn, hy⟩
          · exact ⟨nameB_sz hn, by decide⟩
        have b1 := txtL_len n
        have b2 := (enc_len 9 du).1
        have b3 := txtL_len y
        unfold putArm
        rw [if_pos hB1]
        repeat' split
        all_goals simp only [List.length_append, List.length_cons] at * <;> omega
      have := c_TakeArm _ i2.1 hln
      rw [arm_put hB1 hdu] at this
      exact this
    · left; unfold putArm; rw [if_neg hB1]
  have a3 := c_PutVars l hl hw
  have i3 := putVars_len l
  have i3b := putVars_isB hw
  have p3 : (putVars l = [] ∨ (0 < (putVars l).length ∧ CallD Try.prog 40 [.sl 1 (u8s (putVars l))] noHeap (.tup [.sl 4 (l.map varAV), .raw (.int .i64 0)]) noHeap)) := by
    by_cases hB1 : varsE l = 0
    · right
      have h0 : 0 < (putVars l).length := by
        unfold putVars; rw [if_pos hB1, List.length_append]
        have := (enc_len 9 (l.length : Int)).2
        omega
      refine ⟨h0, ?_⟩
      have := c_TakeVars _ i3b i3
      rw [vars_put hB1 hw] at this
      exact this
    · left; unfold putVars; rw [if_neg hB1]
  have a4 := c_SameVars l l (by omega) (by omega)
  rw [decide_eq_true rfl] at a4
  -- what is taken
  have k1 := c_TakeInst b hB hb1
  have t1 := inst_take hB
  have k2 := c_TakeTok b hB hb1
  have t2 := tok_take hB
  have k3 := c_TakeArm b hB hb1
  have t3 := arm_take hB hb1
  have k4 := c_TakeVars b hB hb1
  have t4 := vars_take hB hb1
  generalize instR (b, 0) = r1 at k1 t1
  obtain ⟨⟨jd, jv, js, jc, jx⟩, q1⟩ := r1
  generalize tokR (b, 0) = r2 at k2 t2
  obtain ⟨⟨ta, ts, tf⟩, q2⟩ := r2
  generalize armR b = r3 at k3 t3
  obtain ⟨⟨ak, an, ay, ad⟩, q3⟩ := r3
  generalize varsR b = r4 at k4 t4
  obtain ⟨vl, q4⟩ := r4
  simp only at k1 k2 k3 k4 t1 t2 t3 t4
  have q := c_rEqualT b (by omega) hB
  generalize putInst d v s c x = w1 at a1 p1
  generalize putArm k n y du = w2 at a2 p2
  generalize putVars l = w3 at a3 p3
  clear i1 i2 i3 i3b
  refine calls_go (nt := 167) (rs := [.tmp 8]) Try.func10 rfl rfl rfl (by simp) (by intro id h; simp at h <;> omega) ?_; intro Q hQ hW
  repeat' (first
    | (with_reducible refine run_n ?_; with_reducible first | refine hK _ _ (by simp) ?_ | refine hK _ _ ?_; clear hK K)
    | (with_reducible first | refine awp_seq ?_ | refine then_n ?_ | refine then_r ?_ | refine then_e ?_ | refine awp_skip ?_ | refine awp_label ?_ | refine awp_ret ?_ | refine awp_exit ?_ | refine awp_block ?_ | refine awp_scope ?_ | refine in_n ?_ | refine in_r ?_ | refine in_e ?_ | refine in_ne (by decide) ?_ | refine ng_n ?_ | refine ng_r ?_ | refine ng_e ?_)
    | (with_reducible refine awp_regT (by kernel_rfl) ?_; intro K hK)
    | (with_reducible first | refine a_move (hr := ?_) | refine a_assign (hr := ?_) | refine a_load (hr := ?_) | refine a_fieldAddr (hr := ?_) | refine a_bin (hr := ?_) | refine a_lenS (hr := ?_) | refine a_lenR (hr := ?_) | refine a_extract (hr := ?_) | refine a_pick (hr := ?_) | refine a_un (hr := ?_) | refine a_store (hr := ?_) | refine a_box (hr := ?_) | refine a_alloc (hr := ?_) | refine a_neB (hr := ?_) | refine a_neS (hr := ?_) | refine a_call0 (hcall := hlv) (hr := ?_) | refine a_gT (hr := ?_) | refine a_gF (hr := ?_) | refine a_gU (hr := ?_))
    | (with_reducible refine a_gB (hT := ?_) (hF := ?_) <;> intro hb <;> (try simp at hb) <;> (try contradiction) <;> (try subst hb) <;> (try omega))
    | fail)
  refine a_cond (ht := ?_) (hf := ?_) <;> intro hb <;> (try simp at hb) <;> (try omega)
  repeat' (first
    | (with_reducible refine run_n ?_; with_reducible first | refine hK _ _ (by simp) ?_ | refine hK _ _ ?_; clear hK K)
    | (with_reducible first | refine awp_seq ?_ | refine then_n ?_ | refine then_r ?_ | refine then_e ?_ | refine awp_skip ?_ | refine awp_label ?_ | refine awp_ret ?_ | refine awp_exit ?_ | refine awp_block ?_ | refine awp_scope ?_ | refine in_n ?_ | refine in_r ?_ | refine in_e ?_ | refine in_ne (by decide) ?_ | refine ng_n ?_ | refine ng_r ?_ | refine ng_e ?_)
    | (with_reducible refine awp_regT (by kernel_rfl) ?_; intro K hK)
    | (with_reducible first | refine a_move (hr := ?_) | refine a_assign (hr := ?_) | refine a_load (hr := ?_) | refine a_fieldAddr (hr := ?_) | refine a_bin (hr := ?_) | refine a_lenS (hr := ?_) | refine a_lenR (hr := ?_) | refine a_extract (hr := ?_) | refine a_pick (hr := ?_) | refine a_un (hr := ?_) | refine a_store (hr := ?_) | refine a_box (hr := ?_) | refine a_alloc (hr := ?_) | refine a_neB (hr := ?_) | refine a_neS (hr := ?_) | refine a_callN (hcall := a1) (hr := ?_) | refine a_gT (hr := ?_) | refine a_gF (hr := ?_) | refine a_gU (hr := ?_))
    | (with_reducible refine a_gB (hT := ?_) (hF := ?_) <;> intro hb <;> (try simp at hb) <;> (try contradiction) <;> (try subst hb) <;> (try omega))
    | fail)
  refine ef_join ⟨envA [(2, .sl 4 (l.map varAV)), (3, .sl 1 (u8s b)), (4, .ptr 4 0), (5, .ptr 5 0), (8, .raw (.bool false))], hpL [(4, .box (instAV d v s c x)), (5, .box (armAV k n y du))]⟩ ?_ ?_
  rotate_left
  · rcases p1 with rfl | ⟨h0, t⟩
    · repeat' (first
    | (with_reducible refine run_n ?_; with_reducible first | refine hK _ _ (by simp) ?_ | refine hK _ _ ?_; clear hK K)
    | (with_reducible first | refine awp_seq ?_ | refine then_n ?_ | refine then_r ?_ | refine then_e ?_ | refine awp_skip ?_ | refine awp_label ?_ | refine awp_ret ?_ | refine awp_exit ?_ | refine awp_block ?_ | refine awp_scope ?_ | refine in_n ?_ | refine in_r ?_ | refine in_e ?_ | refine in_ne (by decide) ?_ | refine ng_n ?_ | refine ng_r ?_ | refine ng_e ?_)
    | (with_reducible refine awp_regT (by kernel_rfl) ?_; intro K hK)
    | (with_reducible refine a_cond (ht := ?_) (hf := ?_) <;> intro hb <;> (try simp at hb) <;> (try contradiction) <;> (try subst hb) <;> (try omega))
    | (with_reducible first | refine a_move (hr := ?_) | refine a_assign (hr := ?_) | refine a_load (hr := ?_) | refine a_fieldAddr (hr := ?_) | refine a_bin (hr := ?_) | refine a_lenS (hr := ?_) | refine a_lenR (hr := ?_) | refine a_extract (hr := ?_) | refine a_pick (hr := ?_) | refine a_un (hr := ?_) | refine a_store (hr := ?_) | refine a_box (hr := ?_) | refine a_alloc (hr := ?_) | refine a_neB (hr := ?_) | refine a_neS (hr := ?_) | refine a_gT (hr := ?_) | refine a_gF (hr := ?_) | refine a_gU (hr := ?_))
    | (with_reducible refine a_gB (hT := ?_) (hF := ?_) <;> intro hb <;> (try simp at hb) <;> (try contradiction) <;> (try subst hb) <;> (try omega))
    | fail)
      all_goals (exact weak_o (by repeat' (first | refine sub_ohp (by first | (simp; done) | (intro hne; simp at hne; simp [hne])) (by simp) ?_ | exact sub_hpL (by simp))) (by simp) (by simp <;> omega))
    · repeat' (first
    | (with_reducible refine run_n ?_; with_reducible first | refine hK _ _ (by simp) ?_ | refine hK _ _ ?_; clear hK K)
    | (with_reducible first | refine awp_seq ?_ | refine then_n ?_ | refine then_r ?_ | refine then_e ?_ | refine awp_skip ?_ | refine awp_label ?_ | refine awp_ret ?_ | refine awp_exit ?_ | refine awp_block ?_ | refine awp_scope ?_ | refine in_n ?_ | refine in_r ?_ | refine in_e ?_ | refine in_ne (by decide) ?_ | refine ng_n ?_ | refine ng_r ?_ | refine ng_e ?_)
    | (with_reducible refine awp_regT (by kernel_rfl) ?_; intro K hK)
    | (with_reducible refine a_cond (ht := ?_) (hf := ?_) <;> intro hb <;> (try simp at hb) <;> (try contradiction) <;> (try subst hb) <;> (try omega))
    | (with_reducible first | refine a_move (hr := ?_) | refine a_assign (hr := ?_) | refine a_load (hr := ?_) | refine a_fieldAddr (hr := ?_) | refine a_bin (hr := ?_) | refine a_lenS (hr := ?_) | refine a_lenR (hr := ?_) | refine a_extract (hr := ?_) | refine a_pick (hr := ?_) | refine a_un (hr := ?_) | refine a_store (hr := ?_) | refine a_box (hr := ?_) | refine a_alloc (hr := ?_) | refine a_neB (hr := ?_) | refine a_neS (hr := ?_) | refine a_callF (hcall := t) (hr := ?_) | refine a_gT (hr := ?_) | refine a_gF (hr := ?_) | refine a_gU (hr := ?_))
    | (with_reducible refine a_gB (hT := ?_) (hF := ?_) <;> intro hb <;> (try simp at hb) <;> (try contradiction) <;> (try subst hb) <;> (try omega))
    | fail)
      all_goals (exact weak_o (by repeat' (first | refine sub_ohp (by first | (simp; done) | (intro hne; simp at hne; simp [hne])) (by simp) ?_ | exact sub_hpL (by simp))) (by simp) (by simp <;> omega))
  repeat' (first
    | (with_reducible refine run_n ?_; with_reducible first | refine hK _ _ (by simp) ?_ | refine hK _ _ ?_; clear hK K)
    | (with_reducible first | refine awp_seq ?_ | refine then_n ?_ | refine then_r ?_ | refine then_e ?_ | refine awp_skip ?_ | refine awp_label ?_ | refine awp_ret ?_ | refine awp_exit ?_ | refine awp_block ?_ | refine awp_scope ?_ | refine in_n ?_ | refine in_r ?_ | refine in_e ?_ | refine in_ne (by decide) ?_ | refine ng_n ?_ | refine ng_r ?_ | refine ng_e ?_)
    | (with_reducible refine awp_regT (by kernel_rfl) ?_; intro K hK)
    | (with_reducible first | refine a_move (hr := ?_) | refine a_assign (hr := ?_) | refine a_load (hr := ?_) | refine a_fieldAddr (hr := ?_) | refine a_bin (hr := ?_) | refine a_lenS (hr := ?_) | refine a_lenR (hr := ?_) | refine a_extract (hr := ?_) | refine a_pick (hr := ?_) | refine a_un (hr := ?_) | refine a_store (hr := ?_) | refine a_box (hr := ?_) | refine a_alloc (hr := ?_) | refine a_neB (hr := ?_) | refine a_neS (hr := ?_) | refine a_callN (hcall := a2) (hr := ?_) | refine a_gT (hr := ?_) | refine a_gF (hr := ?_) | refine a_gU (hr := ?_))
    | (with_reducible refine a_gB (hT := ?_) (hF := ?_) <;> intro hb <;> (try simp at hb) <;> (try contradiction) <;> (try subst hb) <;> (try omega))
    | fail)
  refine ef_join ⟨envA [(2, .sl 4 (l.map varAV)), (3, .sl 1 (u8s b)), (4, .ptr 4 0), (5, .ptr 5 0), (8, .raw (.bool false))], hpL [(4, .box (instAV d v s c x)), (5, .box (armAV k n y du))]⟩ ?_ ?_
  rotate_left
  · rcases p2 with rfl | ⟨h0, t⟩
    · repeat' (first
    | (with_reducible refine run_n ?_; with_reducible first | refine hK _ _ (by simp) ?_ | refine hK _ _ ?_; clear hK K)
    | (with_reducible first | refine awp_seq ?_ | refine then_n ?_ | refine then_r ?_ | refine then_e ?_ | refine awp_skip ?_ | refine awp_label ?_ | refine awp_ret ?_ | refine awp_exit ?_ | refine awp_block ?_ | refine awp_scope ?_ | refine in_n ?_ | refine in_r ?_ | refine in_e ?_ | refine in_ne (by decide) ?_ | refine ng_n ?_ | refine ng_r ?_ | refine ng_e ?_)
    | (with_reducible refine awp_regT (by kernel_rfl) ?_; intro K hK)
    | (with_reducible refine a_cond (ht := ?_) (hf := ?_) <;> intro hb <;> (try simp at hb) <;> (try contradiction) <;> (try subst hb) <;> (try omega))
    | (with_reducible first | refine a_move (hr := ?_) | refine a_assign (hr := ?_) | refine a_load (hr := ?_) | refine a_fieldAddr (hr := ?_) | refine a_bin (hr := ?_) | refine a_lenS (hr := ?_) | refine a_lenR (hr := ?_) | refine a_extract (hr := ?_) | refine a_pick (hr := ?_) | refine a_un (hr := ?_) | refine a_store (hr := ?_) | refine a_box (hr := ?_) | refine a_alloc (hr := ?_) | refine a_neB (hr := ?_) | refine a_neS (hr := ?_) | refine a_gT (hr := ?_) | refine a_gF (hr := ?_) | refine a_gU (hr := ?_))
    | (with_reducible refine a_gB (hT := ?_) (hF := ?_) <;> intro hb <;> (try simp at hb) <;> (try contradiction) <;> (try subst hb) <;> (try omega))
    | fail)
      all_goals (exact weak_o (by repeat' (first | refine sub_ohp (by first | (simp; done) | (intro hne; simp at hne; simp [hne])) (by simp) ?_ | exact sub_hpL (by simp))) (by simp) (by simp <;> omega))
    · repeat' (first
    | (with_reducible refine run_n ?_; with_reducible first | refine hK _ _ (by simp) ?_ | refine hK _ _ ?_; clear hK K)
    | (with_reducible first | refine awp_seq ?_ | refine then_n ?_ | refine then_r ?_ | refine then_e ?_ | refine awp_skip ?_ | refine awp_label ?_ | refine awp_ret ?_ | refine awp_exit ?_ | refine awp_block ?_ | refine awp_scope ?_ | refine in_n ?_ | refine in_r ?_ | refine in_e ?_ | refine in_ne (by decide) ?_ | refine ng_n ?_ | refine ng_r ?_ | refine ng_e ?_)
    | (with_reducible refine awp_regT (by kernel_rfl) ?_; intro K hK)
    | (with_reducible refine a_cond (ht := ?_) (hf := ?_) <;> intro hb <;> (try simp at hb) <;> (try contradiction) <;> (try subst hb) <;> (try omega))
    | (with_reducible first | refine a_move (hr := ?_) | refine a_assign (hr := ?_) | refine a_load (hr := ?_) | refine a_fieldAddr (hr := ?_) | refine a_bin (hr := ?_) | refine a_lenS (hr := ?_) | refine a_lenR (hr := ?_) | refine a_extract (hr := ?_) | refine a_pick (hr := ?_) | refine a_un (hr := ?_) | refine a_store (hr := ?_) | refine a_box (hr := ?_) | refine a_alloc (hr := ?_) | refine a_neB (hr := ?_) | refine a_neS (hr := ?_) | refine a_callF (hcall := t) (hr := ?_) | refine a_gT (hr := ?_) | refine a_gF (hr := ?_) | refine a_gU (hr := ?_))
    | (with_reducible refine a_gB (hT := ?_) (hF := ?_) <;> intro hb <;> (try simp at hb) <;> (try contradiction) <;> (try subst hb) <;> (try omega))
    | fail)
      all_goals (exact weak_o (by repeat' (first | refine sub_ohp (by first | (simp; done) | (intro hne; simp at hne; simp [hne])) (by simp) ?_ | exact sub_hpL (by simp))) (by simp) (by simp <;> omega))
  repeat' (first
    | (with_reducible refine run_n ?_; with_reducible first | refine hK _ _ (by simp) ?_ | refine hK _ _ ?_; clear hK K)
    | (with_reducible first | refine awp_seq ?_ | refine then_n ?_ | refine then_r ?_ | refine then_e ?_ | refine awp_skip ?_ | refine awp_label ?_ | refine awp_ret ?_ | refine awp_exit ?_ | refine awp_block ?_ | refine awp_scope ?_ | refine in_n ?_ | refine in_r ?_ | refine in_e ?_ | refine in_ne (by decide) ?_ | refine ng_n ?_ | refine ng_r ?_ | refine ng_e ?_)
    | (with_reducible refine awp_regT (by kernel_rfl) ?_; intro K hK)
    | (with_reducible first | refine a_move (hr := ?_) | refine a_assign (hr := ?_) | refine a_load (hr := ?_) | refine a_fieldAddr (hr := ?_) | refine a_bin (hr := ?_) | refine a_lenS (hr := ?_) | refine a_lenR (hr := ?_) | refine a_extract (hr := ?_) | refine a_pick (hr := ?_) | refine a_un (hr := ?_) | refine a_store (hr := ?_) | refine a_box (hr := ?_) | refine a_alloc (hr := ?_) | refine a_neB (hr := ?_) | refine a_neS (hr := ?_) | refine a_callF (hcall := a3) (hr := ?_) | refine a_gT (hr := ?_) | refine a_gF (hr := ?_) | refine a_gU (hr := ?_))
    | (with_reducible refine a_gB (hT := ?_) (hF := ?_) <;> intro hb <;> (try simp at hb) <;> (try contradiction) <;> (try subst hb) <;> (try omega))
    | fail)
  refine ef_join ⟨envA [(2, .sl 4 (l.map varAV)), (3, .sl 1 (u8s b)), (4, .ptr 4 0), (5, .ptr 5 0), (8, .raw (.bool false))], hpL [(4, .box (instAV d v s c x)), (5, .box (armAV k n y du))]⟩ ?_ ?_
  rotate_left
  · rcases p3 with rfl | ⟨h0, t⟩
    · repeat' (first
    | (with_reducible refine run_n ?_; with_reducible first | refine hK _ _ (by simp) ?_ | refine hK _ _ ?_; clear hK K)
    | (with_reducible first | refine awp_seq ?_ | refine then_n ?_ | refine then_r ?_ | refine then_e ?_ | refine awp_skip ?_ | refine awp_label ?_ | refine awp_ret ?_ | refine awp_exit ?_ | refine awp_block ?_ | refine awp_scope ?_ | refine in_n ?_ | refine in_r ?_ | refine in_e ?_ | refine in_ne (by decide) ?_ | refine ng_n ?_ | refine ng_r ?_ | refine ng_e ?_)
    | (with_reducible refine awp_regT (by kernel_rfl) ?_; intro K hK)
    | (with_reducible refine a_cond (ht := ?_) (hf := ?_) <;> intro hb <;> (try simp at hb) <;> (try contradiction) <;> (try subst hb) <;> (try omega))
    | (with_reducible first | refine a_move (hr := ?_) | refine a_assign (hr := ?_) | refine a_load (hr := ?_) | refine a_fieldAddr (hr := ?_) | refine a_bin (hr := ?_) | refine a_lenS (hr := ?_) | refine a_lenR (hr := ?_) | refine a_extract (hr := ?_) | refine a_pick (hr := ?_) | refine a_un (hr := ?_) | refine a_store (hr := ?_) | refine a_box (hr := ?_) | refine a_alloc (hr := ?_) | refine a_neB (hr := ?_) | refine a_neS (hr := ?_) | refine a_gT (hr := ?_) | refine a_gF (hr := ?_) | refine a_gU (hr := ?_))
    | (with_reducible refine a_gB (hT := ?_) (hF := ?_) <;> intro hb <;> (try simp at hb) <;> (try contradiction) <;> (try subst hb) <;> (try omega))
    | fail)
      all_goals (exact weak_o (by repeat' (first | refine sub_ohp (by first | (simp; done) | (intro hne; simp at hne; simp [hne])) (by simp) ?_ | exact sub_hpL (by simp))) (by simp) (by simp <;> omega))
    · repeat' (first
    | (with_reducible refine run_n ?_; with_reducible first | refine hK _ _ (by simp) ?_ | refine hK _ _ ?_; clear hK K)
    | (with_reducible first | refine awp_seq ?_ | refine then_n ?_ | refine then_r ?_ | refine then_e ?_ | refine awp_skip ?_ | refine awp_label ?_ | refine awp_ret ?_ | refine awp_exit ?_ | refine awp_block ?_ | refine awp_scope ?_ | refine in_n ?_ | refine in_r ?_ | refine in_e ?_ | refine in_ne (by decide) ?_ | refine ng_n ?_ | refine ng_r ?_ | refine ng_e ?_)
    | (with_reducible refine awp_regT (by kernel_rfl) ?_; intro K hK)
    | (with_reducible refine a_cond (ht := ?_) (hf := ?_) <;> intro hb <;> (try simp at hb) <;> (try contradiction) <;> (try subst hb) <;> (try omega))
    | (with_reducible first | refine a_move (hr := ?_) | refine a_assign (hr := ?_) | refine a_load (hr := ?_) | refine a_fieldAddr (hr := ?_) | refine a_bin (hr := ?_) | refine a_lenS (hr := ?_) | refine a_lenR (hr := ?_) | refine a_extract (hr := ?_) | refine a_pick (hr := ?_) | refine a_un (hr := ?_) | refine a_store (hr := ?_) | refine a_box (hr := ?_) | refine a_alloc (hr := ?_) | refine a_neB (hr := ?_) | refine a_neS (hr := ?_) | refine a_callF (hcall := t) (hr := ?_) | refine a_callF (hcall := a4) (hr := ?_) | refine a_gT (hr := ?_) | refine a_gF (hr := ?_) | refine a_gU (hr := ?_))
    | (with_reducible refine a_gB (hT := ?_) (hF := ?_) <;> intro hb <;> (try simp at hb) <;> (try contradiction) <;> (try subst hb) <;> (try omega))
    | fail)
      all_goals (exact weak_o (by repeat' (first | refine sub_ohp (by first | (simp; done) | (intro hne; simp at hne; simp [hne])) (by simp) ?_ | exact sub_hpL (by simp))) (by simp) (by simp <;> omega))
  clear a1 a2 a3 p1 p2 p3 a4 hlv
  by_cases z1 : q1 = 0
  · subst z1
    obtain ⟨e1, h2, h3, h4, h5⟩ := t1 rfl
    have c1 := c_PutInst jd jv js jc jx (by omega) (by omega) h4 h5
    rw [e1] at c1
    clear e1 h2 h3 h4 h5
    by_cases z2 : q2 = 0
    · subst z2
      obtain ⟨e2, h2⟩ := t2 rfl
      have c2 := c_PutToken ta ts tf h2.1 h2.2
      rw [e2] at c2
      clear e2 h2
      by_cases z3 : q3 = 0
      · subst z3
        obtain ⟨e3, h2, h3, h4⟩ := t3 rfl
        have c3 := c_PutArm ak an ay ad (by omega) (by omega) h4
        rw [e3] at c3
        clear e3 h2 h3 h4
        by_cases z4 : q4 = 0
        · subst z4
          obtain ⟨e4, h2, h3⟩ := t4 rfl
          have c4 := c_PutVars vl (by have := (varsE_small h3).1; omega) h2
          rw [e4] at c4
          clear e4 h2 h3
          repeat' (first
    | (with_reducible refine run_n ?_; with_reducible first | refine hK _ _ (by simp) ?_ | refine hK _ _ ?_; clear hK K)
    | (with_reducible first | refine awp_seq ?_ | refine then_n ?_ | refine then_r ?_ | refine then_e ?_ | refine awp_skip ?_ | refine awp_label ?_ | refine awp_ret ?_ | refine awp_exit ?_ | refine awp_block ?_ | refine awp_scope ?_ | refine in_n ?_ | refine in_r ?_ | refine in_e ?_ | refine in_ne (by decide) ?_ | refine ng_n ?_ | refine ng_r ?_ | refine ng_e ?_)
    | (with_reducible refine awp_regT (by kernel_rfl) ?_; intro K hK)
    | (with_reducible refine a_cond (ht := ?_) (hf := ?_) <;> intro hb <;> (try simp at hb) <;> (try contradiction) <;> (try subst hb) <;> (try omega))
    | (with_reducible first | refine a_move (hr := ?_) | refine a_assign (hr := ?_) | refine a_load (hr := ?_) | refine a_fieldAddr (hr := ?_) | refine a_bin (hr := ?_) | refine a_lenS (hr := ?_) | refine a_lenR (hr := ?_) | refine a_extract (hr := ?_) | refine a_pick (hr := ?_) | refine a_un (hr := ?_) | refine a_store (hr := ?_) | refine a_box (hr := ?_) | refine a_alloc (hr := ?_) | refine a_neB (hr := ?_) | refine a_neS (hr := ?_) | refine a_callF (hcall := k1) (hr := ?_) | refine a_callF (hcall := k2) (hr := ?_) | refine a_callF (hcall := k3) (hr := ?_) | refine a_callF (hcall := k4) (hr := ?_) | refine a_callN (hcall := c1) (hr := ?_) | refine a_callN (hcall := c2) (hr := ?_) | refine a_callN (hcall := c3) (hr := ?_) | refine a_callF (hcall := c4) (hr := ?_) | refine a_callF (hcall := q) (hr := ?_) | refine a_gT (hr := ?_) | refine a_gF (hr := ?_) | refine a_gU (hr := ?_))
    | (with_reducible refine a_gB (hT := ?_) (hF := ?_) <;> intro hb <;> (try simp at hb) <;> (try contradiction) <;> (try subst hb) <;> (try omega))
    | fail)
          all_goals ((refine hQ _ _ _ _ (by first | exact .inr rfl | exact .inl rfl) (by simp; exact .r) (by simp; exact .r) ?_))
          all_goals (exact Fin.drop (by simp; exact .r) (by simp))
        · clear t4
          repeat' (first
    | (with_reducible refine run_n ?_; with_reducible first | refine hK _ _ (by simp) ?_ | refine hK _ _ ?_; clear hK K)
    | (with_reducible first | refine awp_seq ?_ | refine then_n ?_ | refine then_r ?_ | refine then_e ?_ | refine awp_skip ?_ | refine awp_label ?_ | refine awp_ret ?_ | refine awp_exit ?_ | refine awp_block ?_ | refine awp_scope ?_ | refine in_n ?_ | refine in_r ?_ | refine in_e ?_ | refine in_ne (by decide) ?_ | refine ng_n ?_ | refine ng_r ?_ | refine ng_e ?_)
    | (with_reducible refine awp_regT (by kernel_rfl) ?_; intro K hK)
    | (with_reducible refine a_cond (ht := ?_) (hf := ?_) <;> intro hb <;> (try simp at hb) <;> (try contradiction) <;> (try subst hb) <;> (try omega))
    | (with_reducible first | refine a_move (hr := ?_) | refine a_assign (hr := ?_) | refine a_load (hr := ?_) | refine a_fieldAddr (hr := ?_) | refine a_bin (hr := ?_) | refine a_lenS (hr := ?_) | refine a_lenR (hr := ?_) | refine a_extract (hr := ?_) | refine a_pick (hr := ?_) | refine a_un (hr := ?_) | refine a_store (hr := ?_) | refine a_box (hr := ?_) | refine a_alloc (hr := ?_) | refine a_neB (hr := ?_) | refine a_neS (hr := ?_) | refine a_callF (hcall := k1) (hr := ?_) | refine a_callF (hcall := k2) (hr := ?_) | refine a_callF (hcall := k3) (hr := ?_) | refine a_callF (hcall := k4) (hr := ?_) | refine a_callN (hcall := c1) (hr := ?_) | refine a_callN (hcall := c2) (hr := ?_) | refine a_callN (hcall := c3) (hr := ?_) | refine a_callF (hcall := q) (hr := ?_) | refine a_gT (hr := ?_) | refine a_gF (hr := ?_) | refine a_gU (hr := ?_))
    | (with_reducible refine a_gB (hT := ?_) (hF := ?_) <;> intro hb <;> (try simp at hb) <;> (try contradiction) <;> (try subst hb) <;> (try omega))
    | fail)
          all_goals ((refine hQ _ _ _ _ (by first | exact .inr rfl | exact .inl rfl) (by simp; exact .r) (by simp; exact .r) ?_))
          all_goals (exact Fin.drop (by simp; exact .r) (by simp))
      · clear t3
        by_cases z4 : q4 = 0
        · subst z4
          obtain ⟨e4, h2, h3⟩ := t4 rfl
          have c4 := c_PutVars vl (by have := (varsE_small h3).1; omega) h2
          rw [e4] at c4
          clear e4 h2 h3
          repeat' (first
    | (with_reducible refine run_n ?_; with_reducible first | refine hK _ _ (by simp) ?_ | refine hK _ _ ?_; clear hK K)
    | (with_reducible first | refine awp_seq ?_ | refine then_n ?_ | refine then_r ?_ | refine then_e ?_ | refine awp_skip ?_ | refine awp_label ?_ | refine awp_ret ?_ | refine awp_exit ?_ | refine awp_block ?_ | refine awp_scope ?_ | refine in_n ?_ | refine in_r ?_ | refine in_e ?_ | refine in_ne (by decide) ?_ | refine ng_n ?_ | refine ng_r ?_ | refine ng_e ?_)
    | (with_reducible refine awp_regT (by kernel_rfl) ?_; intro K hK)
    | (with_reducible refine a_cond (ht := ?_) (hf := ?_) <;> intro hb <;> (try simp at hb) <;> (try contradiction) <;> (try subst hb) <;> (try omega))
    | (with_reducible first | refine a_move (hr := ?_) | refine a_assign (hr := ?_) | refine a_load (hr := ?_) | refine a_fieldAddr (hr := ?_) | refine a_bin (hr := ?_) | refine a_lenS (hr := ?_) | refine a_lenR (hr := ?_) | refine a_extract (hr := ?_) | refine a_pick (hr := ?_) | refine a_un (hr := ?_) | refine a_store (hr := ?_) | refine a_box (hr := ?_) | refine a_alloc (hr := ?_) | refine a_neB (hr := ?_) | refine a_neS (hr := ?_) | refine a_callF (hcall := k1) (hr := ?_) | refine a_callF (hcall := k2) (hr := ?_) | refine a_callF (hcall := k3) (hr := ?_) | refine a_callF (hcall := k4) (hr := ?_) | refine a_callN (hcall := c1) (hr := ?_) | refine a_callN (hcall := c2) (hr := ?_) | refine a_callF (hcall := c4) (hr := ?_) | refine a_callF (hcall := q) (hr := ?_) | refine a_gT (hr := ?_) | refine a_gF (hr := ?_) | refine a_gU (hr := ?_))
    | (with_reducible refine a_gB (hT := ?_) (hF := ?_) <;> intro hb <;> (try simp at hb) <;> (try contradiction) <;> (try subst hb) <;> (try omega))
    | fail)
          all_goals ((refine hQ _ _ _ _ (by first | exact .inr rfl | exact .inl rfl) (by simp; exact .r) (by simp; exact .r) ?_))
          all_goals (exact Fin.drop (by simp; exact .r) (by simp))
        · clear t4
          repeat' (first
    | (with_reducible refine run_n ?_; with_reducible first | refine hK _ _ (by simp) ?_ | refine hK _ _ ?_; clear hK K)
    | (with_reducible first | refine awp_seq ?_ | refine then_n ?_ | refine then_r ?_ | refine then_e ?_ | refine awp_skip ?_ | refine awp_label ?_ | refine awp_ret ?_ | refine awp_exit ?_ | refine awp_block ?_ | refine awp_scope ?_ | refine in_n ?_ | refine in_r ?_ | refine in_e ?_ | refine in_ne (by decide) ?_ | refine ng_n ?_ | refine ng_r ?_ | refine ng_e ?_)
    | (with_reducible refine awp_regT (by kernel_rfl) ?_; intro K hK)
    | (with_reducible refine a_cond (ht := ?_) (hf := ?_) <;> intro hb <;> (try simp at hb) <;> (try contradiction) <;> (try subst hb) <;> (try omega))
    | (with_reducible first | refine a_move (hr := ?_) | refine a_assign (hr := ?_) | refine a_load (hr := ?_) | refine a_fieldAddr (hr := ?_) | refine a_bin (hr := ?_) | refine a_lenS (hr := ?_) | refine a_lenR (hr := ?_) | refine a_extract (hr := ?_) | refine a_pick (hr := ?_) | refine a_un (hr := ?_) | refine a_store (hr := ?_) | refine a_box (hr := ?_) | refine a_alloc (hr := ?_) | refine a_neB (hr := ?_) | refine a_neS (hr := ?_) | refine a_callF (hcall := k1) (hr := ?_) | refine a_callF (hcall := k2) (hr := ?_) | refine a_callF (hcall := k3) (hr := ?_) | refine a_callF (hcall := k4) (hr := ?_) | refine a_callN (hcall := c1) (hr := ?_) | refine a_callN (hcall := c2) (hr := ?_) | refine a_callF (hcall := q) (hr := ?_) | refine a_gT (hr := ?_) | refine a_gF (hr := ?_) | refine a_gU (hr := ?_))
    | (with_reducible refine a_gB (hT := ?_) (hF := ?_) <;> intro hb <;> (try simp at hb) <;> (try contradiction) <;> (try subst hb) <;> (try omega))
    | fail)
          all_goals ((refine hQ _ _ _ _ (by first | exact .inr rfl | exact .inl rfl) (by simp; exact .r) (by simp; exact .r) ?_))
          all_goals (exact Fin.drop (by simp; exact .r) (by simp))
    · clear t2
      by_cases z3 : q3 = 0
      · subst z3
        obtain ⟨e3, h2, h3, h4⟩ := t3 rfl
        have c3 := c_PutArm ak an ay ad (by omega) (by omega) h4
        rw [e3] at c3
        clear e3 h2 h3 h4
        by_cases z4 : q4 = 0
        · subst z4
          obtain ⟨e4, h2, h3⟩ := t4 rfl
          have c4 := c_PutVars vl (by have := (varsE_small h3).1; omega) h2
          rw [e4] at c4
          clear e4 h2 h3
          repeat' (first
    | (with_reducible refine run_n ?_; with_reducible first | refine hK _ _ (by simp) ?_ | refine hK _ _ ?_; clear hK K)
    | (with_reducible first | refine awp_seq ?_ | refine then_n ?_ | refine then_r ?_ | refine then_e ?_ | refine awp_skip ?_ | refine awp_label ?_ | refine awp_ret ?_ | refine awp_exit ?_ | refine awp_block ?_ | refine awp_scope ?_ | refine in_n ?_ | refine in_r ?_ | refine in_e ?_ | refine in_ne (by decide) ?_ | refine ng_n ?_ | refine ng_r ?_ | refine ng_e ?_)
    | (with_reducible refine awp_regT (by kernel_rfl) ?_; intro K hK)
    | (with_reducible refine a_cond (ht := ?_) (hf := ?_) <;> intro hb <;> (try simp at hb) <;> (try contradiction) <;> (try subst hb) <;> (try omega))
    | (with_reducible first | refine a_move (hr := ?_) | refine a_assign (hr := ?_) | refine a_load (hr := ?_) | refine a_fieldAddr (hr := ?_) | refine a_bin (hr := ?_) | refine a_lenS (hr := ?_) | refine a_lenR (hr := ?_) | refine a_extract (hr := ?_) | refine a_pick (hr := ?_) | refine a_un (hr := ?_) | refine a_store (hr := ?_) | refine a_box (hr := ?_) | refine a_alloc (hr := ?_) | refine a_neB (hr := ?_) | refine a_neS (hr := ?_) | refine a_callF (hcall := k1) (hr := ?_) | refine a_callF (hcall := k2) (hr := ?_) | refine a_callF (hcall := k3) (hr := ?_) | refine a_callF (hcall := k4) (hr := ?_) | refine a_callN (hcall := c1) (hr := ?_) | refine a_callN (hcall := c3) (hr := ?_) | refine a_callF (hcall := c4) (hr := ?_) | refine a_callF (hcall := q) (hr := ?_) | refine a_gT (hr := ?_) | refine a_gF (hr := ?_) | refine a_gU (hr := ?_))
    | (with_reducible refine a_gB (hT := ?_) (hF := ?_) <;> intro hb <;> (try simp at hb) <;> (try contradiction) <;> (try subst hb) <;> (try omega))
    | fail)
          all_goals ((refine hQ _ _ _ _ (by first | exact .inr rfl | exact .inl rfl) (by simp; exact .r) (by simp; exact .r) ?_))
          all_goals (exact Fin.drop (by simp; exact .r) (by simp))
        · clear t4
          repeat' (first
    | (with_reducible refine run_n ?_; with_reducible first | refine hK _ _ (by simp) ?_ | refine hK _ _ ?_; clear hK K)
    | (with_reducible first | refine awp_seq ?_ | refine then_n ?_ | refine then_r ?_ | refine then_e ?_ | refine awp_skip ?_ | refine awp_label ?_ | refine awp_ret ?_ | refine awp_exit ?_ | refine awp_block ?_ | refine awp_scope ?_ | refine in_n ?_ | refine in_r ?_ | refine in_e ?_ | refine in_ne (by decide) ?_ | refine ng_n ?_ | refine ng_r ?_ | refine ng_e ?_)
    | (with_reducible refine awp_regT (by kernel_rfl) ?_; intro K hK)
    | (with_reducible refine a_cond (ht := ?_) (hf := ?_) <;> intro hb <;> (try simp at hb) <;> (try contradiction) <;> (try subst hb) <;> (try omega))
    | (with_reducible first | refine a_move (hr := ?_) | refine a_assign (hr := ?_) | refine a_load (hr := ?_) | refine a_fieldAddr (hr := ?_) | refine a_bin (hr := ?_) | refine a_lenS (hr := ?_) | refine a_lenR (hr := ?_) | refine a_extract (hr := ?_) | refine a_pick (hr := ?_) | refine a_un (hr := ?_) | refine a_store (hr := ?_) | refine a_box (hr := ?_) | refine a_alloc (hr := ?_) | refine a_neB (hr := ?_) | refine a_neS (hr := ?_) | refine a_callF (hcall := k1) (hr := ?_) | refine a_callF (hcall := k2) (hr := ?_) | refine a_callF (hcall := k3) (hr := ?_) | refine a_callF (hcall := k4) (hr := ?_) | refine a_callN (hcall := c1) (hr := ?_) | refine a_callN (hcall := c3) (hr := ?_) | refine a_callF (hcall := q) (hr := ?_) | refine a_gT (hr := ?_) | refine a_gF (hr := ?_) | refine a_gU (hr := ?_))
    | (with_reducible refine a_gB (hT := ?_) (hF := ?_) <;> intro hb <;> (try simp at hb) <;> (try contradiction) <;> (try subst hb) <;> (try omega))
    | fail)
          all_goals ((refine hQ _ _ _ _ (by first | exact .inr rfl | exact .inl rfl) (by simp; exact .r) (by simp; exact .r) ?_))
          all_goals (exact Fin.drop (by simp; exact .r) (by simp))
      · clear t3
        by_cases z4 : q4 = 0
        · subst z4
          obtain ⟨e4, h2, h3⟩ := t4 rfl
          have c4 := c_PutVars vl (by have := (varsE_small h3).1; omega) h2
          rw [e4] at c4
          clear e4 h2 h3
          repeat' (first
    | (with_reducible refine run_n ?_; with_reducible first | refine hK _ _ (by simp) ?_ | refine hK _ _ ?_; clear hK K)
    | (with_reducible first | refine awp_seq ?_ | refine then_n ?_ | refine then_r ?_ | refine then_e ?_ | refine awp_skip ?_ | refine awp_label ?_ | refine awp_ret ?_ | refine awp_exit ?_ | refine awp_block ?_ | refine awp_scope ?_ | refine in_n ?_ | refine in_r ?_ | refine in_e ?_ | refine in_ne (by decide) ?_ | refine ng_n ?_ | refine ng_r ?_ | refine ng_e ?_)
    | (with_reducible refine awp_regT (by kernel_rfl) ?_; intro K hK)
    | (with_reducible refine a_cond (ht := ?_) (hf := ?_) <;> intro hb <;> (try simp at hb) <;> (try contradiction) <;> (try subst hb) <;> (try omega))
    | (with_reducible first | refine a_move (hr := ?_) | refine a_assign (hr := ?_) | refine a_load (hr := ?_) | refine a_fieldAddr (hr := ?_) | refine a_bin (hr := ?_) | refine a_lenS (hr := ?_) | refine a_lenR (hr := ?_) | refine a_extract (hr := ?_) | refine a_pick (hr := ?_) | refine a_un (hr := ?_) | refine a_store (hr := ?_) | refine a_box (hr := ?_) | refine a_alloc (hr := ?_) | refine a_neB (hr := ?_) | refine a_neS (hr := ?_) | refine a_callF (hcall := k1) (hr := ?_) | refine a_callF (hcall := k2) (hr := ?_) | refine a_callF (hcall := k3) (hr := ?_) | refine a_callF (hcall := k4) (hr := ?_) | refine a_callN (hcall := c1) (hr := ?_) | refine a_callF (hcall := c4) (hr := ?_) | refine a_callF (hcall := q) (hr := ?_) | refine a_gT (hr := ?_) | refine a_gF (hr := ?_) | refine a_gU (hr := ?_))
    | (with_reducible refine a_gB (hT := ?_) (hF := ?_) <;> intro hb <;> (try simp at hb) <;> (try contradiction) <;> (try subst hb) <;> (try omega))
    | fail)
          all_goals ((refine hQ _ _ _ _ (by first | exact .inr rfl | exact .inl rfl) (by simp; exact .r) (by simp; exact .r) ?_))
          all_goals (exact Fin.drop (by simp; exact .r) (by simp))
        · clear t4
          repeat' (first
    | (with_reducible refine run_n ?_; with_reducible first | refine hK _ _ (by simp) ?_ | refine hK _ _ ?_; clear hK K)
    | (with_reducible first | refine awp_seq ?_ | refine then_n ?_ | refine then_r ?_ | refine then_e ?_ | refine awp_skip ?_ | refine awp_label ?_ | refine awp_ret ?_ | refine awp_exit ?_ | refine awp_block ?_ | refine awp_scope ?_ | refine in_n ?_ | refine in_r ?_ | refine in_e ?_ | refine in_ne (by decide) ?_ | refine ng_n ?_ | refine ng_r ?_ | refine ng_e ?_)
    | (with_reducible refine awp_regT (by kernel_rfl) ?_; intro K hK)
    | (with_reducible refine a_cond (ht := ?_) (hf := ?_) <;> intro hb <;> (try simp at hb) <;> (try contradiction) <;> (try subst hb) <;> (try omega))
    | (with_reducible first | refine a_move (hr := ?_) | refine a_assign (hr := ?_) | refine a_load (hr := ?_) | refine a_fieldAddr (hr := ?_) | refine a_bin (hr := ?_) | refine a_lenS (hr := ?_) | refine a_lenR (hr := ?_) | refine a_extract (hr := ?_) | refine a_pick (hr := ?_) | refine a_un (hr := ?_) | refine a_store (hr := ?_) | refine a_box (hr := ?_) | refine a_alloc (hr := ?_) | refine a_neB (hr := ?_) | refine a_neS (hr := ?_) | refine a_callF (hcall := k1) (hr := ?_) | refine a_callF (hcall := k2) (hr := ?_) | refine a_callF (hcall := k3) (hr := ?_) | refine a_callF (hcall := k4) (hr := ?_) | refine a_callN (hcall := c1) (hr := ?_) | refine a_callF (hcall := q) (hr := ?_) | refine a_gT (hr := ?_) | refine a_gF (hr := ?_) | refine a_gU (hr := ?_))
    | (with_reducible refine a_gB (hT := ?_) (hF := ?_) <;> intro hb <;> (try simp at hb) <;> (try contradiction) <;> (try subst hb) <;> (try omega))
    | fail)
          all_goals ((refine hQ _ _ _ _ (by first | exact .inr rfl | exact .inl rfl) (by simp; exact .r) (by simp; exact .r) ?_))
          all_goals (exact Fin.drop (by simp; exact .r) (by simp))
  · clear t1
    by_cases z2 : q2 = 0
    · subst z2
      obtain ⟨e2, h2⟩ := t2 rfl
      have c2 := c_PutToken ta ts tf h2.1 h2.2
      rw [e2] at c2
      clear e2 h2
      by_cases z3 : q3 = 0
      · subst z3
        obtain ⟨e3, h2, h3, h4⟩ := t3 rfl
        have c3 := c_PutArm ak an ay ad (by omega) (by omega) h4
        rw [e3] at c3
        clear e3 h2 h3 h4
        by_cases z4 : q4 = 0
        · subst z4
          obtain ⟨e4, h2, h3⟩ := t4 rfl
          have c4 := c_PutVars vl (by have := (varsE_small h3).1; omega) h2
          rw [e4] at c4
          clear e4 h2 h3
          repeat' (first
    | (with_reducible refine run_n ?_; with_reducible first | refine hK _ _ (by simp) ?_ | refine hK _ _ ?_; clear hK K)
    | (with_reducible first | refine awp_seq ?_ | refine then_n ?_ | refine then_r ?_ | refine then_e ?_ | refine awp_skip ?_ | refine awp_label ?_ | refine awp_ret ?_ | refine awp_exit ?_ | refine awp_block ?_ | refine awp_scope ?_ | refine in_n ?_ | refine in_r ?_ | refine in_e ?_ | refine in_ne (by decide) ?_ | refine ng_n ?_ | refine ng_r ?_ | refine ng_e ?_)
    | (with_reducible refine awp_regT (by kernel_rfl) ?_; intro K hK)
    | (with_reducible refine a_cond (ht := ?_) (hf := ?_) <;> intro hb <;> (try simp at hb) <;> (try contradiction) <;> (try subst hb) <;> (try omega))
    | (with_reducible first | refine a_move (hr := ?_) | refine a_assign (hr := ?_) | refine a_load (hr := ?_) | refine a_fieldAddr (hr := ?_) | refine a_bin (hr := ?_) | refine a_lenS (hr := ?_) | refine a_lenR (hr := ?_) | refine a_extract (hr := ?_) | refine a_pick (hr := ?_) | refine a_un (hr := ?_) | refine a_store (hr := ?_) | refine a_box (hr := ?_) | refine a_alloc (hr := ?_) | refine a_neB (hr := ?_) | refine a_neS (hr := ?_) | refine a_callF (hcall := k1) (hr := ?_) | refine a_callF (hcall := k2) (hr := ?_) | refine a_callF (hcall := k3) (hr := ?_) | refine a_callF (hcall := k4) (hr := ?_) | refine a_callN (hcall := c2) (hr := ?_) | refine a_callN (hcall := c3) (hr := ?_) | refine a_callF (hcall := c4) (hr := ?_) | refine a_callF (hcall := q) (hr := ?_) | refine a_gT (hr := ?_) | refine a_gF (hr := ?_) | refine a_gU (hr := ?_))
    | (with_reducible refine a_gB (hT := ?_) (hF := ?_) <;> intro hb <;> (try simp at hb) <;> (try contradiction) <;> (try subst hb) <;> (try omega))
    | fail)
          all_goals ((refine hQ _ _ _ _ (by first | exact .inr rfl | exact .inl rfl) (by simp; exact .r) (by simp; exact .r) ?_))
          all_goals (exact Fin.drop (by simp; exact .r) (by simp))
        · clear t4
          repeat' (first
    | (with_reducible refine run_n ?_; with_reducible first | refine hK _ _ (by simp) ?_ | refine hK _ _ ?_; clear hK K)
    | (with_reducible first | refine awp_seq ?_ | refine then_n ?_ | refine then_r ?_ | refine then_e ?_ | refine awp_skip ?_ | refine awp_label ?_ | refine awp_ret ?_ | refine awp_exit ?_ | refine awp_block ?_ | refine awp_scope ?_ | refine in_n ?_ | refine in_r ?_ | refine in_e ?_ | refine in_ne (by decide) ?_ | refine ng_n ?_ | refine ng_r ?_ | refine ng_e ?_)
    | (with_reducible refine awp_regT (by kernel_rfl) ?_; intro K hK)
    | (with_reducible refine a_cond (ht := ?_) (hf := ?_) <;> intro hb <;> (try simp at hb) <;> (try contradiction) <;> (try subst hb) <;> (try omega))
    | (with_reducible first | refine a_move (hr := ?_) | refine a_assign (hr := ?_) | refine a_load (hr := ?_) | refine a_fieldAddr (hr := ?_) | refine a_bin (hr := ?_) | refine a_lenS (hr := ?_) | refine a_lenR (hr := ?_) | refine a_extract (hr := ?_) | refine a_pick (hr := ?_) | refine a_un (hr := ?_) | refine a_store (hr := ?_) | refine a_box (hr := ?_) | refine a_alloc (hr := ?_) | refine a_neB (hr := ?_) | refine a_neS (hr := ?_) | refine a_callF (hcall := k1) (hr := ?_) | refine a_callF (hcall := k2) (hr := ?_) | refine a_callF (hcall := k3) (hr := ?_) | refine a_callF (hcall := k4) (hr := ?_) | refine a_callN (hcall := c2) (hr := ?_) | refine a_callN (hcall := c3) (hr := ?_) | refine a_callF (hcall := q) (hr := ?_) | refine a_gT (hr := ?_) | refine a_gF (hr := ?_) | refine a_gU (hr := ?_))
    | (with_reducible refine a_gB (hT := ?_) (hF := ?_) <;> intro hb <;> (try simp at hb) <;> (try contradiction) <;> (try subst hb) <;> (try omega))
    | fail)
          all_goals ((refine hQ _ _ _ _ (by first | exact .inr rfl | exact .inl rfl) (by simp; exact .r) (by simp; exact .r) ?_))
          all_goals (exact Fin.drop (by simp; exact .r) (by simp))
      · clear t3
        by_cases z4 : q4 = 0
        · subst z4
          obtain ⟨e4, h2, h3⟩ := t4 rfl
          have c4 := c_PutVars vl (by have := (varsE_small h3).1; omega) h2
          rw [e4] at c4
          clear e4 h2 h3
          repeat' (first
    | (with_reducible refine run_n ?_; with_reducible first | refine hK _ _ (by simp) ?_ | refine hK _ _ ?_; clear hK K)
    | (with_reducible first | refine awp_seq ?_ | refine then_n ?_ | refine then_r ?_ | refine then_e ?_ | refine awp_skip ?_ | refine awp_label ?_ | refine awp_ret ?_ | refine awp_exit ?_ | refine awp_block ?_ | refine awp_scope ?_ | refine in_n ?_ | refine in_r ?_ | refine in_e ?_ | refine in_ne (by decide) ?_ | refine ng_n ?_ | refine ng_r ?_ | refine ng_e ?_)
    | (with_reducible refine awp_regT (by kernel_rfl) ?_; intro K hK)
    | (with_reducible refine a_cond (ht := ?_) (hf := ?_) <;> intro hb <;> (try simp at hb) <;> (try contradiction) <;> (try subst hb) <;> (try omega))
    | (with_reducible first | refine a_move (hr := ?_) | refine a_assign (hr := ?_) | refine a_load (hr := ?_) | refine a_fieldAddr (hr := ?_) | refine a_bin (hr := ?_) | refine a_lenS (hr := ?_) | refine a_lenR (hr := ?_) | refine a_extract (hr := ?_) | refine a_pick (hr := ?_) | refine a_un (hr := ?_) | refine a_store (hr := ?_) | refine a_box (hr := ?_) | refine a_alloc (hr := ?_) | refine a_neB (hr := ?_) | refine a_neS (hr := ?_) | refine a_callF (hcall := k1) (hr := ?_) | refine a_callF (hcall := k2) (hr := ?_) | refine a_callF (hcall := k3) (hr := ?_) | refine a_callF (hcall := k4) (hr := ?_) | refine a_callN (hcall := c2) (hr := ?_) | refine a_callF (hcall := c4) (hr := ?_) | refine a_callF (hcall := q) (hr := ?_) | refine a_gT (hr := ?_) | refine a_gF (hr := ?_) | refine a_gU (hr := ?_))
    | (with_reducible refine a_gB (hT := ?_) (hF := ?_) <;> intro hb <;> (try simp at hb) <;> (try contradiction) <;> (try subst hb) <;> (try omega))
    | fail)
          all_goals ((refine hQ _ _ _ _ (by first | exact .inr rfl | exact .inl rfl) (by simp; exact .r) (by simp; exact .r) ?_))
          all_goals (exact Fin.drop (by simp; exact .r) (by simp))
        · clear t4
          repeat' (first
    | (with_reducible refine run_n ?_; with_reducible first | refine hK _ _ (by simp) ?_ | refine hK _ _ ?_; clear hK K)
    | (with_reducible first | refine awp_seq ?_ | refine then_n ?_ | refine then_r ?_ | refine then_e ?_ | refine awp_skip ?_ | refine awp_label ?_ | refine awp_ret ?_ | refine awp_exit ?_ | refine awp_block ?_ | refine awp_scope ?_ | refine in_n ?_ | refine in_r ?_ | refine in_e ?_ | refine in_ne (by decide) ?_ | refine ng_n ?_ | refine ng_r ?_ | refine ng_e ?_)
    | (with_reducible refine awp_regT (by kernel_rfl) ?_; intro K hK)
    | (with_reducible refine a_cond (ht := ?_) (hf := ?_) <;> intro hb <;> (try simp at hb) <;> (try contradiction) <;> (try subst hb) <;> (try omega))
    | (with_reducible first | refine a_move (hr := ?_) | refine a_assign (hr := ?_) | refine a_load (hr := ?_) | refine a_fieldAddr (hr := ?_) | refine a_bin (hr := ?_) | refine a_lenS (hr := ?_) | refine a_lenR (hr := ?_) | refine a_extract (hr := ?_) | refine a_pick (hr := ?_) | refine a_un (hr := ?_) | refine a_store (hr := ?_) | refine a_box (hr := ?_) | refine a_alloc (hr := ?_) | refine a_neB (hr := ?_) | refine a_neS (hr := ?_) | refine a_callF (hcall := k1) (hr := ?_) | refine a_callF (hcall := k2) (hr := ?_) | refine a_callF (hcall := k3) (hr := ?_) | refine a_callF (hcall := k4) (hr := ?_) | refine a_callN (hcall := c2) (hr := ?_) | refine a_callF (hcall := q) (hr := ?_) | refine a_gT (hr := ?_) | refine a_gF (hr := ?_) | refine a_gU (hr := ?_))
    | (with_reducible refine a_gB (hT := ?_) (hF := ?_) <;> intro hb <;> (try simp at hb) <;> (try contradiction) <;> (try subst hb) <;> (try omega))
    | fail)
          all_goals ((refine hQ _ _ _ _ (by first | exact .inr rfl | exact .inl rfl) (by simp; exact .r) (by simp; exact .r) ?_))
          all_goals (exact Fin.drop (by simp; exact .r) (by simp))
    · clear t2
      by_cases z3 : q3 = 0
      · subst z3
        obtain ⟨e3, h2, h3, h4⟩ := t3 rfl
        have c3 := c_PutArm ak an ay ad (by omega) (by omega) h4
        rw [e3] at c3
        clear e3 h2 h3 h4
        by_cases z4 : q4 = 0
        · subst z4
          obtain ⟨e4, h2, h3⟩ := t4 rfl
          have c4 := c_PutVars vl (by have := (varsE_small h3).1; omega) h2
          rw [e4] at c4
          clear e4 h2 h3
          repeat' (first
    | (with_reducible refine run_n ?_; with_reducible first | refine hK _ _ (by simp) ?_ | refine hK _ _ ?_; clear hK K)
    | (with_reducible first | refine awp_seq ?_ | refine then_n ?_ | refine then_r ?_ | refine then_e ?_ | refine awp_skip ?_ | refine awp_label ?_ | refine awp_ret ?_ | refine awp_exit ?_ | refine awp_block ?_ | refine awp_scope ?_ | refine in_n ?_ | refine in_r ?_ | refine in_e ?_ | refine in_ne (by decide) ?_ | refine ng_n ?_ | refine ng_r ?_ | refine ng_e ?_)
    | (with_reducible refine awp_regT (by kernel_rfl) ?_; intro K hK)
    | (with_reducible refine a_cond (ht := ?_) (hf := ?_) <;> intro hb <;> (try simp at hb) <;> (try contradiction) <;> (try subst hb) <;> (try omega))
    | (with_reducible first | refine a_move (hr := ?_) | refine a_assign (hr := ?_) | refine a_load (hr := ?_) | refine a_fieldAddr (hr := ?_) | refine a_bin (hr := ?_) | refine a_lenS (hr := ?_) | refine a_lenR (hr := ?_) | refine a_extract (hr := ?_) | refine a_pick (hr := ?_) | refine a_un (hr := ?_) | refine a_store (hr := ?_) | refine a_box (hr := ?_) | refine a_alloc (hr := ?_) | refine a_neB (hr := ?_) | refine a_neS (hr := ?_) | refine a_callF (hcall := k1) (hr := ?_) | refine a_callF (hcall := k2) (hr := ?_) | refine a_callF (hcall := k3) (hr := ?_) | refine a_callF (hcall := k4) (hr := ?_) | refine a_callN (hcall := c3) (hr := ?_) | refine a_callF (hcall := c4) (hr := ?_) | refine a_callF (hcall := q) (hr := ?_) | refine a_gT (hr := ?_) | refine a_gF (hr := ?_) | refine a_gU (hr := ?_))
    | (with_reducible refine a_gB (hT := ?_) (hF := ?_) <;> intro hb <;> (try simp at hb) <;> (try contradiction) <;> (try subst hb) <;> (try omega))
    | fail)
          all_goals ((refine hQ _ _ _ _ (by first | exact .inr rfl | exact .inl rfl) (by simp; exact .r) (by simp; exact .r) ?_))
          all_goals (exact Fin.drop (by simp; exact .r) (by simp))
        · clear t4
          repeat' (first
    | (with_reducible refine run_n ?_; with_reducible first | refine hK _ _ (by simp) ?_ | refine hK _ _ ?_; clear hK K)
    | (with_reducible first | refine awp_seq ?_ | refine then_n ?_ | refine then_r ?_ | refine then_e ?_ | refine awp_skip ?_ | refine awp_label ?_ | refine awp_ret ?_ | refine awp_exit ?_ | refine awp_block ?_ | refine awp_scope ?_ | refine in_n ?_ | refine in_r ?_ | refine in_e ?_ | refine in_ne (by decide) ?_ | refine ng_n ?_ | refine ng_r ?_ | refine ng_e ?_)
    | (with_reducible refine awp_regT (by kernel_rfl) ?_; intro K hK)
    | (with_reducible refine a_cond (ht := ?_) (hf := ?_) <;> intro hb <;> (try simp at hb) <;> (try contradiction) <;> (try subst hb) <;> (try omega))
    | (with_reducible first | refine a_move (hr := ?_) | refine a_assign (hr := ?_) | refine a_load (hr := ?_) | refine a_fieldAddr (hr := ?_) | refine a_bin (hr := ?_) | refine a_lenS (hr := ?_) | refine a_lenR (hr := ?_) | refine a_extract (hr := ?_) | refine a_pick (hr := ?_) | refine a_un (hr := ?_) | refine a_store (hr := ?_) | refine a_box (hr := ?_) | refine a_alloc (hr := ?_) | refine a_neB (hr := ?_) | refine a_neS (hr := ?_) | refine a_callF (hcall := k1) (hr := ?_) | refine a_callF (hcall := k2) (hr := ?_) | refine a_callF (hcall := k3) (hr := ?_) | refine a_callF (hcall := k4) (hr := ?_) | refine a_callN (hcall := c3) (hr := ?_) | refine a_callF (hcall := q) (hr := ?_) | refine a_gT (hr := ?_) | refine a_gF (hr := ?_) | refine a_gU (hr := ?_))
    | (with_reducible refine a_gB (hT := ?_) (hF := ?_) <;> intro hb <;> (try simp at hb) <;> (try contradiction) <;> (try subst hb) <;> (try omega))
    | fail)
          all_goals ((refine hQ _ _ _ _ (by first | exact .inr rfl | exact .inl rfl) (by simp; exact .r) (by simp; exact .r) ?_))
          all_goals (exact Fin.drop (by simp; exact .r) (by simp))
      · clear t3
        by_cases z4 : q4 = 0
        · subst z4
          obtain ⟨e4, h2, h3⟩ := t4 rfl
          have c4 := c_PutVars vl (by have := (varsE_small h3).1; omega) h2
          rw [e4] at c4
          clear e4 h2 h3
          repeat' (first
    | (with_reducible refine run_n ?_; with_reducible first | refine hK _ _ (by simp) ?_ | refine hK _ _ ?_; clear hK K)
    | (with_reducible first | refine awp_seq ?_ | refine then_n ?_ | refine then_r ?_ | refine then_e ?_ | refine awp_skip ?_ | refine awp_label ?_ | refine awp_ret ?_ | refine awp_exit ?_ | refine awp_block ?_ | refine awp_scope ?_ | refine in_n ?_ | refine in_r ?_ | refine in_e ?_ | refine in_ne (by decide) ?_ | refine ng_n ?_ | refine ng_r ?_ | refine ng_e ?_)
    | (with_reducible refine awp_regT (by kernel_rfl) ?_; intro K hK)
    | (with_reducible refine a_cond (ht := ?_) (hf := ?_) <;> intro hb <;> (try simp at hb) <;> (try contradiction) <;> (try subst hb) <;> (try omega))
    | (with_reducible first | refine a_move (hr := ?_) | refine a_assign (hr := ?_) | refine a_load (hr := ?_) | refine a_fieldAddr (hr := ?_) | refine a_bin (hr := ?_) | refine a_lenS (hr := ?_) | refine a_lenR (hr := ?_) | refine a_extract (hr := ?_) | refine a_pick (hr := ?_) | refine a_un (hr := ?_) | refine a_store (hr := ?_) | refine a_box (hr := ?_) | refine a_alloc (hr := ?_) | refine a_neB (hr := ?_) | refine a_neS (hr := ?_) | refine a_callF (hcall := k1) (hr := ?_) | refine a_callF (hcall := k2) (hr := ?_) | refine a_callF (hcall := k3) (hr := ?_) | refine a_callF (hcall := k4) (hr := ?_) | refine a_callF (hcall := c4) (hr := ?_) | refine a_callF (hcall := q) (hr := ?_) | refine a_gT (hr := ?_) | refine a_gF (hr := ?_) | refine a_gU (hr := ?_))
    | (with_reducible refine a_gB (hT := ?_) (hF := ?_) <;> intro hb <;> (try simp at hb) <;> (try contradiction) <;> (try subst hb) <;> (try omega))
    | fail)
          all_goals ((refine hQ _ _ _ _ (by first | exact .inr rfl | exact .inl rfl) (by simp; exact .r) (by simp; exact .r) ?_))
          all_goals (exact Fin.drop (by simp; exact .r) (by simp))
        · clear t4
          repeat' (first
    | (with_reducible refine run_n ?_; with_reducible first | refine hK _ _ (by simp) ?_ | refine hK _ _ ?_; clear hK K)
    | (with_reducible first | refine awp_seq ?_ | refine then_n ?_ | refine then_r ?_ | refine then_e ?_ | refine awp_skip ?_ | refine awp_label ?_ | refine awp_ret ?_ | refine awp_exit ?_ | refine awp_block ?_ | refine awp_scope ?_ | refine in_n ?_ | refine in_r ?_ | refine in_e ?_ | refine in_ne (by decide) ?_ | refine ng_n ?_ | refine ng_r ?_ | refine ng_e ?_)
    | (with_reducible refine awp_regT (by kernel_rfl) ?_; intro K hK)
    | (with_reducible refine a_cond (ht := ?_) (hf := ?_) <;> intro hb <;> (try simp at hb) <;> (try contradiction) <;> (try subst hb) <;> (try omega))
    | (with_reducible first | refine a_move (hr := ?_) | refine a_assign (hr := ?_) | refine a_load (hr := ?_) | refine a_fieldAddr (hr := ?_) | refine a_bin (hr := ?_) | refine a_lenS (hr := ?_) | refine a_lenR (hr := ?_) | refine a_extract (hr := ?_) | refine a_pick (hr := ?_) | refine a_un (hr := ?_) | refine a_store (hr := ?_) | refine a_box (hr := ?_) | refine a_alloc (hr := ?_) | refine a_neB (hr := ?_) | refine a_neS (hr := ?_) | refine a_callF (hcall := k1) (hr := ?_) | refine a_callF (hcall := k2) (hr := ?_) | refine a_callF (hcall := k3) (hr := ?_) | refine a_callF (hcall := k4) (hr := ?_) | refine a_callF (hcall := q) (hr := ?_) | refine a_gT (hr := ?_) | refine a_gF (hr := ?_) | refine a_gU (hr := ?_))
    | (with_reducible refine a_gB (hT := ?_) (hF := ?_) <;> intro hb <;> (try simp at hb) <;> (try contradiction) <;> (try subst hb) <;> (try omega))
    | fail)
          all_goals ((refine hQ _ _ _ _ (by first | exact .inr rfl | exact .inl rfl) (by simp; exact .r) (by simp; exact .r) ?_))
          all_goals (exact Fin.drop (by simp; exact .r) (by simp))
theorem row_EntityForms (x0 : ByteArray × Int × Int × ByteArray × Int) (x1 : Int × ByteArray × ByteArray × Int) (x2 : List (ByteArray × Int × Int × ByteArray)) (b : List Int)
    (hd : x0.1.size ≤ 140737488351232) (hc : x0.2.2.2.1.size ≤ 140737488351232) (hv : 0 ≤ x0.2.1 ∧ x0.2.1 < 18446744073709551616) (hx : 0 ≤ x0.2.2.2.2 ∧ x0.2.2.2.2 < 18446744073709551616)
    (hn : x1.2.1.size ≤ 140737488351232) (hy : x1.2.2.1.size ≤ 140737488351232) (hdu : 0 ≤ x1.2.2.2 ∧ x1.2.2.2 < 18446744073709551616) (hl : x2.length ≤ 140737488351232) (hw : ∀ x ∈ x2, wfV (vof x)) (hB : IsB b) (hbl : b.length ≤ 140737488355328) :
    CallD Try.prog 10 [instAV x0.1 x0.2.1 x0.2.2.1 x0.2.2.2.1 x0.2.2.2.2, armAV x1.1 x1.2.1 x1.2.2.1 x1.2.2.2, .sl 4 (x2.map fun x => varAV (vof x)), .sl 1 (u8s b)] noHeap (.raw (.bool true)) noHeap := by
  have := law_EntityForms x0.1 x0.2.2.2.1 x0.2.1 x0.2.2.1 x0.2.2.2.2 x1.1 x1.2.1 x1.2.2.1 x1.2.2.2 (x2.map vof) b hd hc hv hx hn hy hdu (by simpa using hl) (fun y hy => by obtain ⟨z, hz, rfl⟩ := List.mem_map.1 hy; exact hw z hz) hB hbl
  rwa [map_vof] at this
end Go.Proofs.Ytdbdajmgfajcpaa.Asl

