/- Chapter 2: FaultFirst, FaultFields. -/
import Derived.Test.YtngeckkebejhiaaDoorFG
namespace Go.Proofs.YtngeckkebejhiaaDoor.Asl
open Go Go.RowKit
open Go.Proofs.YtngeckkebejhiaaDoor.Errs (EV)
set_option linter.unusedVariables false
set_option linter.unusedSimpArgs false
set_option maxRecDepth 100000
set_option maxHeartbeats 4000000
/-- What is told of one that is made. -/
structure Told (m : Mk) (e : Option EV) (x : RE) (tx : ByteArray) : Prop where
  mkd : CallD Tryd.prog 10 [m.av] noHeap (errO e) noHeap
  sh : CallD Tryd.prog 18 [m.av] noHeap x.av noHeap
  is : e.isSome = x.is
  code : CallD Tryd.prog 14 [errO e] noHeap (.raw (.int .i64 x.c)) noHeap
  text : CallD Tryd.prog 16 [errO e] noHeap (.raw (.string tx)) noHeap
  rtext : CallD Tryd.prog 22 [x.av] noHeap (.raw (.string tx)) noHeap
theorem told (m : Mk) (hm : m.ok) (hfe : m.few = true) : ∃ e x tx, Told m e x tx := by
  have hmk := c_make m hm
  have hsh := c_should m hm (by have := few_len hfe; omega)
  have hs := small hm hfe
  have ht := tells m
  generalize m.ev = e at hmk ht
  generalize m.re = x at hs ht hsh
  obtain ⟨hs1, hs2, hs3⟩ := hs
  have hci : inI (codeE e) := by rw [ht.code]; unfold inI; omega
  have a2 := c_FCode e
  have a4 := c_FText e (by rw [ht.trail]; omega) (by rw [ht.trail]; omega) hci
  have a5 := c_RText x (by omega) (by rw [← ht.code]; exact hci)
  rw [ht.code] at a2
  rw [ht.text] at a4
  generalize (if x.is then tailT x.asks x.c (joinS x.ps ⟨#[]⟩) else ⟨#[]⟩) = tx at a4 a5
  exact ⟨e, x, tx, hmk, hsh, ht.is, a2, a4, a5⟩
theorem plAV_cases (l : List ByteArray) : plAV l = .raw (.slice none 0 0) ∨ ∃ m, plAV l = .sl 1 (strs m) := by
  unfold plAV
  split
  · exact .inl rfl
  · exact .inr ⟨_, rfl⟩
@[simp ↓ high] theorem plAV_noid (l : List ByteArray) : (plAV l).noid = true := by rcases plAV_cases l with e | ⟨m, e⟩ <;> rw [e] <;> rfl
@[simp ↓ high] theorem plAV_one (l : List ByteArray) : (plAV l).one = true := by rcases plAV_cases l with e | ⟨m, e⟩ <;> rw [e] <;> rfl
@[simp ↓ high] theorem plAV_size (l : List ByteArray) : (plAV l).size = 1 := AV.size_one (plAV_one l)
@[simp ↓ high] theorem plAV_isAgg (l : List ByteArray) : (plAV l).isAgg = false := by rcases plAV_cases l with e | ⟨m, e⟩ <;> rw [e] <;> rfl
@[simp ↓ high] theorem plAV_tag (l : List ByteArray) : (plAV l).tagP = some none := by rcases plAV_cases l with e | ⟨m, e⟩ <;> rw [e] <;> rfl
@[simp ↓ high] theorem plAV_top (l : List ByteArray) : (plAV l).top = none := by rcases plAV_cases l with e | ⟨m, e⟩ <;> rw [e] <;> rfl
@[simp] theorem plAV_deep (h : Hp) (l : List ByteArray) : (plAV l).deep h = plAV l := noid_deep.1 _ (plAV_noid l) h
@[simp] theorem plAV_within (h : Hp) (l : List ByteArray) : (plAV l).within h = true := (noid_withins h).1 _ (plAV_noid l)
@[simp] theorem plAV_ren (π : Nat → Nat) (l : List ByteArray) : (plAV l).ren π = plAV l := noid_ren.1 _ (plAV_noid l) π
@[simp] theorem plAV_rows (l : List ByteArray) : (plAV l).rowsOf = [] := noid_rows.1 _ (plAV_noid l)
theorem c_First0 : CallD Tryd.prog 21 [.raw (.slice none 0 0)] noHeap (.raw .nilIface) noHeap := CallD.nil1 (sz := 1) (by
  have := c_FFirst [] (by simp)
  simpa [firstE] using this)
theorem law_FaultFirst (a b c : Mk) (ha : a.ok) (hb0 : b.ok) (hc : c.ok) : CallD Tryd.prog 5 [a.av, b.av, c.av] noHeap (.raw (.bool true)) noHeap := by
  have hlv := c_Live2
  have fa := c_mfew a ha
  have fb := c_mfew b hb0
  have fc := c_mfew c hc
  obtain ⟨xa, ea⟩ : ∃ q, a.few = q := ⟨_, rfl⟩
  obtain ⟨xb, eb⟩ : ∃ q, b.few = q := ⟨_, rfl⟩
  obtain ⟨xc, ec⟩ : ∃ q, c.few = q := ⟨_, rfl⟩
  rw [ea] at fa
  rw [eb] at fb
  rw [ec] at fc
  by_cases hall : xa = true ∧ xb = true ∧ xc = true
  · obtain ⟨rfl, rfl, rfl⟩ := hall
    obtain ⟨e1, x1, tx1, q1⟩ := told a ha ea
    obtain ⟨e2, x2, tx2, q2⟩ := told b hb0 eb
    obtain ⟨e3, x3, tx3, q3⟩ := told c hc ec
    have f0 := c_First0
    have f1 := c_FFirst [e1, none, e2, e3] (by simp)
    simp only [List.map_cons, List.map_nil, errO_none] at f1
    have z1 := q1.is
    have z2 := q2.is
    have z3 := q3.is
    obtain ⟨m1, s1, _, c1, t1, r1⟩ := q1
    obtain ⟨m2, s2, _, c2, t2, r2⟩ := q2
    obtain ⟨m3, s3, _, c3, t3, r3⟩ := q3
    obtain ⟨is1, ps1, cd1, as1, lo1, hi1⟩ := x1
    obtain ⟨is2, ps2, cd2, as2, lo2, hi2⟩ := x2
    obtain ⟨is3, ps3, cd3, as3, lo3, hi3⟩ := x3
    simp only [RE.av] at z1 z2 z3 m1 m2 m3 s1 s2 s3 c1 c2 c3 t1 t2 t3 r1 r2 r3
    obtain ⟨a1, a2, a3, a4, a5⟩ := a
    obtain ⟨b1, b2, b3, b4, b5⟩ := b
    obtain ⟨d1, d2, d3, d4, d5⟩ := c
    cases e1 with
    | some e1 =>
      obtain rfl : is1 = true := by simpa using z1.symm
      simp only [firstE, errO_some] at f1 m1 c1 t1
      refine calls_go (nt := 70) (rs := [.tmp 6]) Tryd.func5 rfl rfl rfl (by simp) (by intro id h; simp at h <;> omega) ?_; intro Q hQ hW
      repeat' (first
    | (with_reducible refine run_n ?_; with_reducible first | refine hK _ _ (by simp) ?_ | refine hK _ _ ?_; clear hK K)
    | (with_reducible first | refine awp_seq ?_ | refine then_n ?_ | refine then_r ?_ | refine then_e ?_ | refine awp_skip ?_ | refine awp_label ?_ | refine awp_ret ?_ | refine awp_exit ?_ | refine awp_block ?_ | refine awp_scope ?_ | refine in_n ?_ | refine in_r ?_ | refine in_e ?_ | refine in_ne (by decide) ?_ | refine ng_n ?_ | refine ng_r ?_ | refine ng_e ?_)
    | (with_reducible refine awp_regT (by kernel_rfl) ?_; intro K hK)
    | (with_reducible refine awp_regCM (id := 8) [(3, some 3), (4, some 4), (5, some 5)] [(3, some 3), (4, some 4), (5, some 5), (39, none), (41, none), (43, none)] mixed (by kernel_rfl) (by kernel_rfl) (by kernel_rfl) ?_; intro K hK)
    | (with_reducible refine awp_regCM (id := 9) [(7, some 7), (49, some 7), (55, some 7)] [(7, some 7), (49, some 7), (53, none), (55, some 7), (60, none), (62, none)] mixed (by kernel_rfl) (by kernel_rfl) (by kernel_rfl) ?_; intro K hK)
    | (with_reducible refine a_cond (ht := ?_) (hf := ?_) <;> intro hb <;> (try simp at hb) <;> (try contradiction) <;> (try subst hb) <;> (try omega))
    | (with_reducible first | refine a_move (hr := ?_) | refine a_assign (hr := ?_) | refine a_load (hr := ?_) | refine a_fieldAddr (hr := ?_) | refine a_bin (hr := ?_) | refine a_pick (hr := ?_) | refine a_un (hr := ?_) | refine a_store (hr := ?_) | refine a_box (hr := ?_) | refine a_alloc (hr := ?_) | refine a_eqI (hr := ?_) | refine a_neI (hr := ?_) | refine a_eqB (hr := ?_) | refine a_neB (hr := ?_) | refine a_eqS (hr := ?_) | refine a_neS (hr := ?_) | refine a_buildSlice (hr := ?_) | refine a_call0 (hcall := hlv) (hr := ?_) | refine a_callF (hcall := fa) (hr := ?_) | refine a_callF (hcall := fb) (hr := ?_) | refine a_callF (hcall := fc) (hr := ?_) | refine a_callF (hcall := s1) (hr := ?_) | refine a_callF (hcall := s2) (hr := ?_) | refine a_callF (hcall := s3) (hr := ?_) | refine a_callF (hcall := m1) (hr := ?_) | refine a_callF (hcall := m2) (hr := ?_) | refine a_callF (hcall := m3) (hr := ?_) | refine a_callF (hcall := f1) (hr := ?_) | refine a_callF (hcall := f0) (hr := ?_) | refine a_callF (hcall := c1) (hr := ?_) | refine a_callF (hcall := t1) (hr := ?_) | refine a_callF (hcall := r1) (hr := ?_) | refine a_gT (hr := ?_) | refine a_gF (hr := ?_) | refine a_gU (hr := ?_))
    | (with_reducible refine a_gB (hT := ?_) (hF := ?_) <;> intro hb <;> (try simp at hb) <;> (try contradiction) <;> (try subst hb) <;> (try omega))
    | fail)
      all_goals ((refine hQ _ _ _ _ (by first | exact .inr rfl | exact .inl rfl) (by simp; exact .r) (by simp; exact .r) ?_))
      all_goals (exact Fin.drop (by simp; exact .r) (by simp))
    | none =>
      obtain rfl : is1 = false := by simpa using z1.symm
      simp only [firstE, errO_none] at f1 m1
      cases e2 with
      | some e2 =>
        obtain rfl : is2 = true := by simpa using z2.symm
        simp only [firstE, errO_some] at f1 m2 c2 t2
        refine calls_go (nt := 70) (rs := [.tmp 6]) Tryd.func5 rfl rfl rfl (by simp) (by intro id h; simp at h <;> omega) ?_; intro Q hQ hW
        repeat' (first
    | (with_reducible refine run_n ?_; with_reducible first | refine hK _ _ (by simp) ?_ | refine hK _ _ ?_; clear hK K)
    | (with_reducible first | refine awp_seq ?_ | refine then_n ?_ | refine then_r ?_ | refine then_e ?_ | refine awp_skip ?_ | refine awp_label ?_ | refine awp_ret ?_ | refine awp_exit ?_ | refine awp_block ?_ | refine awp_scope ?_ | refine in_n ?_ | refine in_r ?_ | refine in_e ?_ | refine in_ne (by decide) ?_ | refine ng_n ?_ | refine ng_r ?_ | refine ng_e ?_)
    | (with_reducible refine awp_regT (by kernel_rfl) ?_; intro K hK)
    | (with_reducible refine awp_regCM (id := 8) [(3, some 3), (4, some 4), (5, some 5)] [(3, some 3), (4, some 4), (5, some 5), (39, none), (41, none), (43, none)] mixed (by kernel_rfl) (by kernel_rfl) (by kernel_rfl) ?_; intro K hK)
    | (with_reducible refine awp_regCM (id := 9) [(7, some 7), (49, some 7), (55, some 7)] [(7, some 7), (49, some 7), (53, none), (55, some 7), (60, none), (62, none)] mixed (by kernel_rfl) (by kernel_rfl) (by kernel_rfl) ?_; intro K hK)
    | (with_reducible refine a_cond (ht := ?_) (hf := ?_) <;> intro hb <;> (try simp at hb) <;> (try contradiction) <;> (try subst hb) <;> (try omega))
    | (with_reducible first | refine a_move (hr := ?_) | refine a_assign (hr := ?_) | refine a_load (hr := ?_) | refine a_fieldAddr (hr := ?_) | refine a_bin (hr := ?_) | refine a_pick (hr := ?_) | refine a_un (hr := ?_) | refine a_store (hr := ?_) | refine a_box (hr := ?_) | refine a_alloc (hr := ?_) | refine a_eqI (hr := ?_) | refine a_neI (hr := ?_) | refine a_eqB (hr := ?_) | refine a_neB (hr := ?_) | refine a_eqS (hr := ?_) | refine a_neS (hr := ?_) | refine a_buildSlice (hr := ?_) | refine a_call0 (hcall := hlv) (hr := ?_) | refine a_callF (hcall := fa) (hr := ?_) | refine a_callF (hcall := fb) (hr := ?_) | refine a_callF (hcall := fc) (hr := ?_) | refine a_callF (hcall := s1) (hr := ?_) | refine a_callF (hcall := s2) (hr := ?_) | refine a_callF (hcall := s3) (hr := ?_) | refine a_callF (hcall := m1) (hr := ?_) | refine a_callF (hcall := m2) (hr := ?_) | refine a_callF (hcall := m3) (hr := ?_) | refine a_callF (hcall := f1) (hr := ?_) | refine a_callF (hcall := f0) (hr := ?_) | refine a_callF (hcall := c2) (hr := ?_) | refine a_callF (hcall := t2) (hr := ?_) | refine a_callF (hcall := r2) (hr := ?_) | refine a_gT (hr := ?_) | refine a_gF (hr := ?_) | refine a_gU (hr := ?_))
    | (with_reducible refine a_gB (hT := ?_) (hF := ?_) <;> intro hb <;> (try simp at hb) <;> (try contradiction) <;> (try subst hb) <;> (try omega))
    | fail)
        all_goals ((refine hQ _ _ _ _ (by first | exact .inr rfl | exact .inl rfl) (by simp; exact .r) (by simp; exact .r) ?_))
        all_goals (exact Fin.drop (by simp; exact .r) (by simp))
      | none =>
        obtain rfl : is2 = false := by simpa using z2.symm
        simp only [firstE, errO_none] at f1 m2
        cases e3 with
        | some e3 =>
          obtain rfl : is3 = true := by simpa using z3.symm
          simp only [firstE, errO_some] at f1 m3 c3 t3
          refine calls_go (nt := 70) (rs := [.tmp 6]) Tryd.func5 rfl rfl rfl (by simp) (by intro id h; simp at h <;> omega) ?_; intro Q hQ hW
          repeat' (first
    | (with_reducible refine run_n ?_; with_reducible first | refine hK _ _ (by simp) ?_ | refine hK _ _ ?_; clear hK K)
    | (with_reducible first | refine awp_seq ?_ | refine then_n ?_ | refine then_r ?_ | refine then_e ?_ | refine awp_skip ?_ | refine awp_label ?_ | refine awp_ret ?_ | refine awp_exit ?_ | refine awp_block ?_ | refine awp_scope ?_ | refine in_n ?_ | refine in_r ?_ | refine in_e ?_ | refine in_ne (by decide) ?_ | refine ng_n ?_ | refine ng_r ?_ | refine ng_e ?_)
    | (with_reducible refine awp_regT (by kernel_rfl) ?_; intro K hK)
    | (with_reducible refine awp_regCM (id := 8) [(3, some 3), (4, some 4), (5, some 5)] [(3, some 3), (4, some 4), (5, some 5), (39, none), (41, none), (43, none)] mixed (by kernel_rfl) (by kernel_rfl) (by kernel_rfl) ?_; intro K hK)
    | (with_reducible refine awp_regCM (id := 9) [(7, some 7), (49, some 7), (55, some 7)] [(7, some 7), (49, some 7), (53, none), (55, some 7), (60, none), (62, none)] mixed (by kernel_rfl) (by kernel_rfl) (by kernel_rfl) ?_; intro K hK)
    | (with_reducible refine a_cond (ht := ?_) (hf := ?_) <;> intro hb <;> (try simp at hb) <;> (try contradiction) <;> (try subst hb) <;> (try omega))
    | (with_reducible first | refine a_move (hr := ?_) | refine a_assign (hr := ?_) | refine a_load (hr := ?_) | refine a_fieldAddr (hr := ?_) | refine a_bin (hr := ?_) | refine a_pick (hr := ?_) | refine a_un (hr := ?_) | refine a_store (hr := ?_) | refine a_box (hr := ?_) | refine a_alloc (hr := ?_) | refine a_eqI (hr := ?_) | refine a_neI (hr := ?_) | refine a_eqB (hr := ?_) | refine a_neB (hr := ?_) | refine a_eqS (hr := ?_) | refine a_neS (hr := ?_) | refine a_buildSlice (hr := ?_) | refine a_call0 (hcall := hlv) (hr := ?_) | refine a_callF (hcall := fa) (hr := ?_) | refine a_callF (hcall := fb) (hr := ?_) | refine a_callF (hcall := fc) (hr := ?_) | refine a_callF (hcall := s1) (hr := ?_) | refine a_callF (hcall := s2) (hr := ?_) | refine a_callF (hcall := s3) (hr := ?_) | refine a_callF (hcall := m1) (hr := ?_) | refine a_callF (hcall := m2) (hr := ?_) | refine a_callF (hcall := m3) (hr := ?_) | refine a_callF (hcall := f1) (hr := ?_) | refine a_callF (hcall := f0) (hr := ?_) | refine a_callF (hcall := c3) (hr := ?_) | refine a_callF (hcall := t3) (hr := ?_) | refine a_callF (hcall := r3) (hr := ?_) | refine a_gT (hr := ?_) | refine a_gF (hr := ?_) | refine a_gU (hr := ?_))
    | (with_reducible refine a_gB (hT := ?_) (hF := ?_) <;> intro hb <;> (try simp at hb) <;> (try contradiction) <;> (try subst hb) <;> (try omega))
    | fail)
          all_goals ((refine hQ _ _ _ _ (by first | exact .inr rfl | exact .inl rfl) (by simp; exact .r) (by simp; exact .r) ?_))
          all_goals (exact Fin.drop (by simp; exact .r) (by simp))
        | none =>
          obtain rfl : is3 = false := by simpa using z3.symm
          simp only [firstE, errO_none] at f1 m3 c3 t3
          refine calls_go (nt := 70) (rs := [.tmp 6]) Tryd.func5 rfl rfl rfl (by simp) (by intro id h; simp at h <;> omega) ?_; intro Q hQ hW
          repeat' (first
    | (with_reducible refine run_n ?_; with_reducible first | refine hK _ _ (by simp) ?_ | refine hK _ _ ?_; clear hK K)
    | (with_reducible first | refine awp_seq ?_ | refine then_n ?_ | refine then_r ?_ | refine then_e ?_ | refine awp_skip ?_ | refine awp_label ?_ | refine awp_ret ?_ | refine awp_exit ?_ | refine awp_block ?_ | refine awp_scope ?_ | refine in_n ?_ | refine in_r ?_ | refine in_e ?_ | refine in_ne (by decide) ?_ | refine ng_n ?_ | refine ng_r ?_ | refine ng_e ?_)
    | (with_reducible refine awp_regT (by kernel_rfl) ?_; intro K hK)
    | (with_reducible refine awp_regCM (id := 8) [(3, some 3), (4, some 4), (5, some 5)] [(3, some 3), (4, some 4), (5, some 5), (39, none), (41, none), (43, none)] mixed (by kernel_rfl) (by kernel_rfl) (by kernel_rfl) ?_; intro K hK)
    | (with_reducible refine awp_regCM (id := 9) [(7, some 7), (49, some 7), (55, some 7)] [(7, some 7), (49, some 7), (53, none), (55, some 7), (60, none), (62, none)] mixed (by kernel_rfl) (by kernel_rfl) (by kernel_rfl) ?_; intro K hK)
    | (with_reducible refine a_cond (ht := ?_) (hf := ?_) <;> intro hb <;> (try simp at hb) <;> (try contradiction) <;> (try subst hb) <;> (try omega))
    | (with_reducible first | refine a_move (hr := ?_) | refine a_assign (hr := ?_) | refine a_load (hr := ?_) | refine a_fieldAddr (hr := ?_) | refine a_bin (hr := ?_) | refine a_pick (hr := ?_) | refine a_un (hr := ?_) | refine a_store (hr := ?_) | refine a_box (hr := ?_) | refine a_alloc (hr := ?_) | refine a_eqI (hr := ?_) | refine a_neI (hr := ?_) | refine a_eqB (hr := ?_) | refine a_neB (hr := ?_) | refine a_eqS (hr := ?_) | refine a_neS (hr := ?_) | refine a_buildSlice (hr := ?_) | refine a_call0 (hcall := hlv) (hr := ?_) | refine a_callF (hcall := fa) (hr := ?_) | refine a_callF (hcall := fb) (hr := ?_) | refine a_callF (hcall := fc) (hr := ?_) | refine a_callF (hcall := s1) (hr := ?_) | refine a_callF (hcall := s2) (hr := ?_) | refine a_callF (hcall := s3) (hr := ?_) | refine a_callF (hcall := m1) (hr := ?_) | refine a_callF (hcall := m2) (hr := ?_) | refine a_callF (hcall := m3) (hr := ?_) | refine a_callF (hcall := f1) (hr := ?_) | refine a_callF (hcall := f0) (hr := ?_) | refine a_callF (hcall := c3) (hr := ?_) | refine a_callF (hcall := t3) (hr := ?_) | refine a_callF (hcall := r3) (hr := ?_) | refine a_gT (hr := ?_) | refine a_gF (hr := ?_) | refine a_gU (hr := ?_))
    | (with_reducible refine a_gB (hT := ?_) (hF := ?_) <;> intro hb <;> (try simp at hb) <;> (try contradiction) <;> (try subst hb) <;> (try omega))
    | fail)
          all_goals ((refine hQ _ _ _ _ (by first | exact .inr rfl | exact .inl rfl) (by simp; exact .r) (by simp; exact .r) ?_))
          all_goals (exact Fin.drop (by simp; exact .r) (by simp))
  · obtain ⟨a1, a2, a3, a4, a5⟩ := a
    obtain ⟨b1, b2, b3, b4, b5⟩ := b
    obtain ⟨d1, d2, d3, d4, d5⟩ := c
    cases xa with
    | false =>
      refine calls_go (nt := 70) (rs := [.tmp 6]) Tryd.func5 rfl rfl rfl (by simp) (by intro id h; simp at h <;> omega) ?_; intro Q hQ hW
      repeat' (first
    | (with_reducible refine run_n ?_; with_reducible first | refine hK _ _ (by simp) ?_ | refine hK _ _ ?_; clear hK K)
    | (with_reducible first | refine awp_seq ?_ | refine then_n ?_ | refine then_r ?_ | refine then_e ?_ | refine awp_skip ?_ | refine awp_label ?_ | refine awp_ret ?_ | refine awp_exit ?_ | refine awp_block ?_ | refine awp_scope ?_ | refine in_n ?_ | refine in_r ?_ | refine in_e ?_ | refine in_ne (by decide) ?_ | refine ng_n ?_ | refine ng_r ?_ | refine ng_e ?_)
    | (with_reducible refine awp_regT (by kernel_rfl) ?_; intro K hK)
    | (with_reducible refine awp_regCM (id := 8) [(3, some 3), (4, some 4), (5, some 5)] [(3, some 3), (4, some 4), (5, some 5), (39, none), (41, none), (43, none)] mixed (by kernel_rfl) (by kernel_rfl) (by kernel_rfl) ?_; intro K hK)
    | (with_reducible refine awp_regCM (id := 9) [(7, some 7), (49, some 7), (55, some 7)] [(7, some 7), (49, some 7), (53, none), (55, some 7), (60, none), (62, none)] mixed (by kernel_rfl) (by kernel_rfl) (by kernel_rfl) ?_; intro K hK)
    | (with_reducible refine a_cond (ht := ?_) (hf := ?_) <;> intro hb <;> (try simp at hb) <;> (try contradiction) <;> (try subst hb) <;> (try omega))
    | (with_reducible first | refine a_move (hr := ?_) | refine a_assign (hr := ?_) | refine a_load (hr := ?_) | refine a_fieldAddr (hr := ?_) | refine a_bin (hr := ?_) | refine a_pick (hr := ?_) | refine a_un (hr := ?_) | refine a_store (hr := ?_) | refine a_box (hr := ?_) | refine a_alloc (hr := ?_) | refine a_eqI (hr := ?_) | refine a_neI (hr := ?_) | refine a_eqB (hr := ?_) | refine a_neB (hr := ?_) | refine a_eqS (hr := ?_) | refine a_neS (hr := ?_) | refine a_buildSlice (hr := ?_) | refine a_call0 (hcall := hlv) (hr := ?_) | refine a_callF (hcall := fa) (hr := ?_) | refine a_callF (hcall := fb) (hr := ?_) | refine a_callF (hcall := fc) (hr := ?_) | refine a_gT (hr := ?_) | refine a_gF (hr := ?_) | refine a_gU (hr := ?_))
    | (with_reducible refine a_gB (hT := ?_) (hF := ?_) <;> intro hb <;> (try simp at hb) <;> (try contradiction) <;> (try subst hb) <;> (try omega))
    | fail)
      all_goals ((refine hQ _ _ _ _ (by first | exact .inr rfl | exact .inl rfl) (by simp; exact .r) (by simp; exact .r) ?_))
      all_goals (exact Fin.drop (by simp; exact .r) (by simp))
    | true =>
      cases xb with
      | false =>
        refine calls_go (nt := 70) (rs := [.tmp 6]) Tryd.func5 rfl rfl rfl (by simp) (by intro id h; simp at h <;> omega) ?_; intro Q hQ hW
        repeat' (first
    | (with_reducible refine run_n ?_; with_reducible first | refine hK _ _ (by simp) ?_ | refine hK _ _ ?_; clear hK K)
    | (with_reducible first | refine awp_seq ?_ | refine then_n ?_ | refine then_r ?_ | refine then_e ?_ | refine awp_skip ?_ | refine awp_label ?_ | refine awp_ret ?_ | refine awp_exit ?_ | refine awp_block ?_ | refine awp_scope ?_ | refine in_n ?_ | refine in_r ?_ | refine in_e ?_ | refine in_ne (by decide) ?_ | refine ng_n ?_ | refine ng_r ?_ | refine ng_e ?_)
    | (with_reducible refine awp_regT (by kernel_rfl) ?_; intro K hK)
    | (with_reducible refine awp_regCM (id := 8) [(3, some 3), (4, some 4), (5, some 5)] [(3, some 3), (4, some 4), (5, some 5), (39, none), (41, none), (43, none)] mixed (by kernel_rfl) (by kernel_rfl) (by kernel_rfl) ?_; intro K hK)
    | (with_reducible refine awp_regCM (id := 9) [(7, some 7), (49, some 7), (55, some 7)] [(7, some 7), (49, some 7), (53, none), (55, some 7), (60, none), (62, none)] mixed (by kernel_rfl) (by kernel_rfl) (by kernel_rfl) ?_; intro K hK)
    | (with_reducible refine a_cond (ht := ?_) (hf := ?_) <;> intro hb <;> (try simp at hb) <;> (try contradiction) <;> (try subst hb) <;> (try omega))
    | (with_reducible first | refine a_move (hr := ?_) | refine a_assign (hr := ?_) | refine a_load (hr := ?_) | refine a_fieldAddr (hr := ?_) | refine a_bin (hr := ?_) | refine a_pick (hr := ?_) | refine a_un (hr := ?_) | refine a_store (hr := ?_) | refine a_box (hr := ?_) | refine a_alloc (hr := ?_) | refine a_eqI (hr := ?_) | refine a_neI (hr := ?_) | refine a_eqB (hr := ?_) | refine a_neB (hr := ?_) | refine a_eqS (hr := ?_) | refine a_neS (hr := ?_) | refine a_buildSlice (hr := ?_) | refine a_call0 (hcall := hlv) (hr := ?_) | refine a_callF (hcall := fa) (hr := ?_) | refine a_callF (hcall := fb) (hr := ?_) | refine a_callF (hcall := fc) (hr := ?_) | refine a_gT (hr := ?_) | refine a_gF (hr := ?_) | refine a_gU (hr := ?_))
    | (with_reducible refine a_gB (hT := ?_) (hF := ?_) <;> intro hb <;> (try simp at hb) <;> (try contradiction) <;> (try subst hb) <;> (try omega))
    | fail)
        all_goals ((refine hQ _ _ _ _ (by first | exact .inr rfl | exact .inl rfl) (by simp; exact .r) (by simp; exact .r) ?_))
        all_goals (exact Fin.drop (by simp; exact .r) (by simp))
      | true =>
        cases xc with
        | true => exact absurd ⟨rfl, rfl, rfl⟩ hall
        | false =>
          refine calls_go (nt := 70) (rs := [.tmp 6]) Tryd.func5 rfl rfl rfl (by simp) (by intro id h; simp at h <;> omega) ?_; intro Q hQ hW
          repeat' (first
    | (with_reducible refine run_n ?_; with_reducible first | refine hK _ _ (by simp) ?_ | refine hK _ _ ?_; clear hK K)
    | (with_reducible first | refine awp_seq ?_ | refine then_n ?_ | refine then_r ?_ | refine then_e ?_ | refine awp_skip ?_ | refine awp_label ?_ | refine awp_ret ?_ | refine awp_exit ?_ | refine awp_block ?_ | refine awp_scope ?_ | refine in_n ?_ | refine in_r ?_ | refine in_e ?_ | refine in_ne (by decide) ?_ | refine ng_n ?_ | refine ng_r ?_ | refine ng_e ?_)
    | (with_reducible refine awp_regT (by kernel_rfl) ?_; intro K hK)
    | (with_reducible refine awp_regCM (id := 8) [(3, some 3), (4, some 4), (5, some 5)] [(3, some 3), (4, some 4), (5, some 5), (39, none), (41, none), (43, none)] mixed (by kernel_rfl) (by kernel_rfl) (by kernel_rfl) ?_; intro K hK)
    | (with_reducible refine awp_regCM (id := 9) [(7, some 7), (49, some 7), (55, some 7)] [(7, some 7), (49, some 7), (53, none), (55, some 7), (60, none), (62, none)] mixed (by kernel_rfl) (by kernel_rfl) (by kernel_rfl) ?_; intro K hK)
    | (with_reducible refine a_cond (ht := ?_) (hf := ?_) <;> intro hb <;> (try simp at hb) <;> (try contradiction) <;> (try subst hb) <;> (try omega))
    | (with_reducible first | refine a_move (hr := ?_) | refine a_assign (hr := ?_) | refine a_load (hr := ?_) | refine a_fieldAddr (hr := ?_) | refine a_bin (hr := ?_) | refine a_pick (hr := ?_) | refine a_un (hr := ?_) | refine a_store (hr := ?_) | refine a_box (hr := ?_) | refine a_alloc (hr := ?_) | refine a_eqI (hr := ?_) | refine a_neI (hr := ?_) | refine a_eqB (hr := ?_) | refine a_neB (hr := ?_) | refine a_eqS (hr := ?_) | refine a_neS (hr := ?_) | refine a_buildSlice (hr := ?_) | refine a_call0 (hcall := hlv) (hr := ?_) | refine a_callF (hcall := fa) (hr := ?_) | refine a_callF (hcall := fb) (hr := ?_) | refine a_callF (hcall := fc) (hr := ?_) | refine a_gT (hr := ?_) | refine a_gF (hr := ?_) | refine a_gU (hr := ?_))
    | (with_reducible refine a_gB (hT := ?_) (hF := ?_) <;> intro hb <;> (try simp at hb) <;> (try contradiction) <;> (try subst hb) <;> (try omega))
    | fail)
          all_goals ((refine hQ _ _ _ _ (by first | exact .inr rfl | exact .inl rfl) (by simp; exact .r) (by simp; exact .r) ?_))
          all_goals (exact Fin.drop (by simp; exact .r) (by simp))
end Go.Proofs.YtngeckkebejhiaaDoor.Asl
