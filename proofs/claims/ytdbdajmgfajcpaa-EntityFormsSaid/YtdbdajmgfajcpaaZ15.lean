/- Part 15 of what the row leans on: abstract values and states, their rules, and the contracts of the functions. -/
import Derived.Test.YtdbdajmgfajcpaaZ14
namespace Go.Proofs.Ytdbdajmgfajcpaa.Asl
open Go Go.RowKit
set_option linter.unusedVariables false
set_option linter.unusedSimpArgs false
set_option maxRecDepth 100000
set_option maxHeartbeats 4000000
/-- What is left, and the error. -/
abbrev RSt := List Int × Int
def sU (most : Int) (s : RSt) : Int × RSt := (if s.2 ≠ 0 then 0 else (dU s.1 most).1, s.1.drop (nxA 0 s.2 (dU s.1 most)), nxE s.2 (dU s.1 most))
def sB (s : RSt) : Int × RSt := (if s.2 ≠ 0 then 0 else (dB s.1).1, s.1.drop (nxA 0 s.2 (dB s.1)), nxE s.2 (dB s.1))
def sT (most : Int) (s : RSt) : ByteArray × RSt := (if s.2 ≠ 0 then ⟨#[]⟩ else strOfNums (dT s.1 most).1, s.1.drop (nxA 0 s.2 (dT s.1 most)), nxE s.2 (dT s.1 most))
structure At (bs : List Int) (a : Nat) (l : List Int) : Prop where
  le : a ≤ bs.length
  eq : bs.drop a = l
  isB : IsB bs
  lt : bs.length < 4611686018427387904
theorem At.step {bs : List Int} {a : Nat} {l : List Int} (h : At bs a l) {α : Type} (e : Int) (d : α × Nat × Int) (hd : d.2.1 ≤ l.length) : At bs (nxA a e d) (l.drop (nxA 0 e d)) := by
  have h1 := nxA_le e d hd
  have h2 := h.le
  have h3 : l.length = bs.length - a := by rw [← h.eq, List.length_drop]
  have h4 := nxA_add a e d
  exact ⟨by omega, by rw [h4, ← List.drop_drop, h.eq], h.isB, h.lt⟩
theorem At.b {bs : List Int} {a : Nat} {l : List Int} (h : At bs a l) : IsB l := by rw [← h.eq]; exact isB_drop h.isB a
theorem At.len {bs : List Int} {a : Nat} {l : List Int} (h : At bs a l) : l.length ≤ bs.length := by rw [← h.eq, List.length_drop]; omega
theorem x_U {bs : List Int} {a : Nat} {l : List Int} (h : At bs a l) (e most : Int) : ∃ a', At bs a' (sU most (l, e)).2.1 ∧ CallD Try.prog 87 [.ptr 100000 0, .raw (.int .u64 most)] (rdH bs a e) (.raw (.int .u64 (sU most (l, e)).1)) (rdH bs a' (sU most (l, e)).2.2) := by
  have h1 := c_RdUint bs a e most h.isB (by have := h.lt; omega) h.le
  rw [h.eq] at h1
  exact ⟨_, h.step e _ (dU_le h.b most), h1⟩
theorem x_B {bs : List Int} {a : Nat} {l : List Int} (h : At bs a l) (e : Int) : ∃ a', At bs a' (sB (l, e)).2.1 ∧ CallD Try.prog 106 [.ptr 100000 0] (rdH bs a e) (.raw (.int .u8 (sB (l, e)).1)) (rdH bs a' (sB (l, e)).2.2) := by
  have h1 := c_RdByte bs a e h.isB (by have := h.lt; omega) h.le
  rw [h.eq] at h1
  exact ⟨_, h.step e _ (by cases l <;> simp [dB]), h1⟩
theorem x_T {bs : List Int} {a : Nat} {l : List Int} (h : At bs a l) (e most : Int) (hm : -9223372036854775808 ≤ most ∧ most < 9223372036854775808) : ∃ a', At bs a' (sT most (l, e)).2.1 ∧ CallD Try.prog 88 [.ptr 100000 0, .raw (.int .i64 most)] (rdH bs a e) (.raw (.string (sT most (l, e)).1)) (rdH bs a' (sT most (l, e)).2.2) := by
  have h1 := c_RdText bs a e most h.isB (by have := h.lt; omega) h.le hm
  rw [h.eq] at h1
  exact ⟨_, h.step e _ (dT_le h.b most), h1⟩
theorem x_End {bs : List Int} {a : Nat} {l : List Int} (h : At bs a l) (e : Int) : CallD Try.prog 92 [.ptr 100000 0] (rdH bs a e) (.raw (.int .i64 (endE l e))) (rdH bs a e) := by
  have h1 := c_End bs a e (by have := h.lt; omega) h.le
  rw [h.eq] at h1
  exact h1
theorem r_U {l : List Int} (hB : IsB l) (e : Int) {most : Int} (hm : 0 ≤ most ∧ most < 18446744073709551616) : 0 ≤ (sU most (l, e)).1 ∧ (sU most (l, e)).1 ≤ most := by
  have ho := dec_ok0 hB
  simp only [sU, dU]
  repeat' split
  all_goals (first | omega | (simp; omega))
theorem r_B {l : List Int} (hB : IsB l) (e : Int) : 0 ≤ (sB (l, e)).1 ∧ (sB (l, e)).1 ≤ 255 := by
  have := dB_range hB
  simp only [sB]
  split <;> omega
theorem size_strOf (l : List Int) : (strOfNums l).size = l.length := by
  unfold strOfNums; show (List.toArray _).size = _; simp
theorem r_T (l : List Int) (e most : Int) : (sT most (l, e)).1.size ≤ l.length := by
  simp only [sT]
  split
  · exact Nat.zero_le _
  · rw [size_strOf]
    unfold dT
    repeat' split
    all_goals simp <;> omega
structure Inst where
  d : ByteArray
  v : Int
  s : Int
  c : ByteArray
  x : Int
abbrev Inst.av (i : Inst) : AV := instAV i.d i.v i.s i.c i.x
def instS (s : RSt) : Inst × RSt :=
  let r1 := sT 16 s
  let r2 := sU 18446744073709551615 r1.2
  let r3 := sB r2.2
  let r4 := sT 16 r3.2
  let r5 := sU 18446744073709551615 r4.2
  (⟨r1.1, r2.1, r3.1, r4.1, r5.1⟩, r5.2)
theorem c_tkInst {bs : List Int} {a : Nat} {l : List Int} (h : At bs a l) (e : Int) : ∃ a', At bs a' (instS (l, e)).2.1 ∧ CallD Try.prog 77 [.agg [.ptr 100000 0]] (rdH bs a e) (instS (l, e)).1.av (rdH bs a' (instS (l, e)).2.2) := by
  simp only [instS]
  obtain ⟨a1, g1, k1⟩ := x_T h e 16 (by omega)
  generalize sT 16 (l, e) = r1 at g1 k1 ⊢
  obtain ⟨v1, l1, e1⟩ := r1
  simp only at g1 k1 ⊢
  obtain ⟨a2, g2, k2⟩ := x_U g1 e1 18446744073709551615
  generalize sU 18446744073709551615 (l1, e1) = r2 at g2 k2 ⊢
  obtain ⟨v2, l2, e2⟩ := r2
  simp only at g2 k2 ⊢
  obtain ⟨a3, g3, k3⟩ := x_B g2 e2
  have w3 := r_B g2.b e2
  generalize sB (l2, e2) = r3 at g3 k3 w3 ⊢
  obtain ⟨v3, l3, e3⟩ := r3
  simp only at g3 k3 w3 ⊢
  obtain ⟨a4, g4, k4⟩ := x_T g3 e3 16 (by omega)
  generalize sT 16 (l3, e3) = r4 at g4 k4 ⊢
  obtain ⟨v4, l4, e4⟩ := r4
  simp only at g4 k4 ⊢
  obtain ⟨a5, g5, k5⟩ := x_U g4 e4 18446744073709551615
  generalize sU 18446744073709551615 (l4, e4) = r5 at g5 k5 ⊢
  obtain ⟨v5, l5, e5⟩ := r5
  simp only at g5 k5 ⊢
  refine ⟨a5, g5, ?_⟩
  clear h g1 g2 g3 g4 g5
  refine calls_go (nt := 26) (rs := [.cell 2 49]) Try.func77 rfl rfl rfl (by simp) (by intro id h; simp at h <;> omega) ?_; intro Q hQ hW
  repeat' (first
    | (with_reducible refine run_n ?_; with_reducible first | refine hK _ _ (by simp) ?_ | refine hK _ _ ?_; clear hK K)
    | (with_reducible first | refine awp_seq ?_ | refine then_n ?_ | refine then_r ?_ | refine then_e ?_ | refine awp_skip ?_ | refine awp_label ?_ | refine awp_ret ?_ | refine awp_exit ?_ | refine awp_block ?_ | refine awp_scope ?_ | refine in_n ?_ | refine in_r ?_ | refine in_e ?_ | refine in_ne (by decide) ?_ | refine ng_n ?_ | refine ng_r ?_ | refine ng_e ?_)
    | (with_reducible refine awp_regT (by kernel_rfl) ?_; intro K hK)
    | (with_reducible refine a_cond (ht := ?_) (hf := ?_) <;> intro hb <;> (try simp at hb) <;> (try contradiction) <;> (try subst hb) <;> (try omega))
    | (with_reducible first | refine a_load (hr := ?_) | refine a_fieldAddr (hr := ?_) | refine a_store (hr := ?_) | refine a_box (hr := ?_) | refine a_alloc (hr := ?_) | refine a_conv (hr := ?_) | refine a_bytesStr (hr := ?_) | refine a_strBytes (hr := ?_) | refine a_callP (p := 100000) (hcall := k1) (hr := ?_) | refine a_callP (p := 100000) (hcall := k2) (hr := ?_) | refine a_callP (p := 100000) (hcall := k3) (hr := ?_) | refine a_callP (p := 100000) (hcall := k4) (hr := ?_) | refine a_callP (p := 100000) (hcall := k5) (hr := ?_))
    | fail)
  all_goals ((refine hQ _ _ _ _ (by first | exact .inr rfl | exact .inl rfl) (by simp; exact .r) (by simp; exact .r) ?_))
  all_goals (exact Fin.keep (by simp; exact .r) (by simp; exact .r) (by simp; exact .r) (by simp))
def Inst.b (i : Inst) : Bool := instB i.d i.v i.s i.c i.x
def Inst.z : Inst := ⟨⟨#[]⟩, 0, 0, ⟨#[]⟩, 0⟩
/-- What is wrong at the end, if this may be. -/
def wrongE (b : Bool) (q : Int) : Int := if q = 0 then (if b = true then 0 else 1) else q
def outR {α : Type} (z r : α) (q : Int) : α × Int := (if q ≠ 0 then z else r, q)
theorem outR_0 {α : Type} (z r : α) : outR z r 0 = (r, 0) := rfl
theorem outR_n {α : Type} (z r : α) {q : Int} (h : ¬ q = 0) : outR z r q = (z, q) := by unfold outR; rw [if_pos h]
def instR (s : RSt) : Inst × Int := outR Inst.z (instS s).1 (wrongE (instS s).1.b (endE (instS s).2.1 (instS s).2.2))
theorem instS_small {l : List Int} (e : Int) (hB : IsB l) : (instS (l, e)).1.d.size ≤ l.length ∧ (instS (l, e)).1.c.size ≤ l.length := by
  simp only [instS]
  refine ⟨r_T l e 16, Nat.le_trans (r_T _ _ 16) ?_⟩
  simp only [sB, sU, sT, List.length_drop]
  omega
theorem c_whInst {bs : List Int} {a : Nat} {l : List Int} (h : At bs a l) (e : Int) : ∃ a', CallD Try.prog 76 [.agg [.ptr 100000 0], .fn (.func 77) [.agg [.ptr 100000 0]] [], .raw (.func (.func 63) #[] #[])] (rdH bs a e) (.tup [(instR (l, e)).1.av, .raw (.int .i64 (instR (l, e)).2)]) (rdH bs a' (instS (l, e)).2.2) := by
  obtain ⟨a1, g1, k1⟩ := c_tkInst h e
  have hsm := instS_small e h.b
  have hln := h.len
  have hlt := h.lt
  simp only [instR]
  generalize instS (l, e) = r at g1 k1 hsm ⊢
  obtain ⟨⟨d, v, s, c, x⟩, l1, e1⟩ := r
  simp only [Inst.b] at g1 k1 hsm ⊢
  have k2 := x_End g1 e1
  have k3 := c_mayInst d v s c x (by omega) (by omega)
  refine ⟨a1, ?_⟩
  obtain ⟨b, hb1⟩ : ∃ b, instB d v s c x = b := ⟨_, rfl⟩
  simp only [hb1] at k3 ⊢
  clear hb1
  generalize endE l1 e1 = q at k2 ⊢
  clear h g1 hsm hln hlt
  unfold wrongE Inst.z
  by_cases hq : q = 0
  · subst hq
    rw [if_pos rfl]
    cases b with
    | true =>
      rw [if_pos rfl, outR_0]
      refine calls_go (nt := 26) (rs := [.cell 6 49, .tmp 7]) Try.func76 rfl rfl rfl (by simp) (by intro id h; simp at h <;> omega) ?_; intro Q hQ hW
      repeat' (first
    | (with_reducible refine run_n ?_; with_reducible first | refine hK _ _ (by simp) ?_ | refine hK _ _ ?_; clear hK K)
    | (with_reducible first | refine awp_seq ?_ | refine then_n ?_ | refine then_r ?_ | refine then_e ?_ | refine awp_skip ?_ | refine awp_label ?_ | refine awp_ret ?_ | refine awp_exit ?_ | refine awp_block ?_ | refine awp_scope ?_ | refine in_n ?_ | refine in_r ?_ | refine in_e ?_ | refine in_ne (by decide) ?_ | refine ng_n ?_ | refine ng_r ?_ | refine ng_e ?_)
    | (with_reducible refine awp_regT (by kernel_rfl) ?_; intro K hK)
    | (with_reducible refine a_cond (ht := ?_) (hf := ?_) <;> intro hb <;> (try simp at hb) <;> (try contradiction) <;> (try subst hb) <;> (try omega))
    | (with_reducible first | refine a_move (hr := ?_) | refine a_assign (hr := ?_) | refine a_load (hr := ?_) | refine a_fieldAddr (hr := ?_) | refine a_bin (hr := ?_) | refine a_store (hr := ?_) | refine a_box (hr := ?_) | refine a_alloc (hr := ?_) | refine a_eqB (hr := ?_) | refine a_neB (hr := ?_) | refine a_eqS (hr := ?_) | refine a_neS (hr := ?_) | refine a_callP (p := 100000) (hcall := k1) (hr := ?_) | refine a_callP (p := 100000) (hcall := k2) (hr := ?_) | refine a_callF (hcall := k3) (hr := ?_))
    | fail)
      all_goals ((refine hQ _ _ _ _ (by first | exact .inr rfl | exact .inl rfl) (by simp; exact .r) (by simp; exact .r) ?_))
      all_goals (exact Fin.keep (by simp; exact .r) (by simp; exact .r) (by simp; exact .r) (by simp))
    | false =>
      rw [if_neg (by decide), outR_n _ _ (by decide)]
      refine calls_go (nt := 26) (rs := [.cell 6 49, .tmp 7]) Try.func76 rfl rfl rfl (by simp) (by intro id h; simp at h <;> omega) ?_; intro Q hQ hW
      repeat' (first
    | (with_reducible refine run_n ?_; with_reducible first | refine hK _ _ (by simp) ?_ | refine hK _ _ ?_; clear hK K)
    | (with_reducible first | refine awp_seq ?_ | refine then_n ?_ | refine then_r ?_ | refine then_e ?_ | refine awp_skip ?_ | refine awp_label ?_ | refine awp_ret ?_ | refine awp_exit ?_ | refine awp_block ?_ | refine awp_scope ?_ | refine in_n ?_ | refine in_r ?_ | refine in_e ?_ | refine in_ne (by decide) ?_ | refine ng_n ?_ | refine ng_r ?_ | refine ng_e ?_)
    | (with_reducible refine awp_regT (by kernel_rfl) ?_; intro K hK)
    | (with_reducible refine a_cond (ht := ?_) (hf := ?_) <;> intro hb <;> (try simp at hb) <;> (try contradiction) <;> (try subst hb) <;> (try omega))
    | (with_reducible first | refine a_move (hr := ?_) | refine a_assign (hr := ?_) | refine a_load (hr := ?_) | refine a_fieldAddr (hr := ?_) | refine a_bin (hr := ?_) | refine a_store (hr := ?_) | refine a_box (hr := ?_) | refine a_alloc (hr := ?_) | refine a_eqB (hr := ?_) | refine a_neB (hr := ?_) | refine a_eqS (hr := ?_) | refine a_neS (hr := ?_) | refine a_callP (p := 100000) (hcall := k1) (hr := ?_) | refine a_callP (p := 100000) (hcall := k2) (hr := ?_) | refine a_callF (hcall := k3) (hr := ?_))
    | fail)
      all_goals ((refine hQ _ _ _ _ (by first | exact .inr rfl | exact .inl rfl) (by simp; exact .r) (by simp; exact .r) ?_))
      all_goals (exact Fin.keep (by simp; exact .r) (by simp; exact .r) (by simp; exact .r) (by simp))
  · rw [if_neg hq, outR_n _ _ hq]
    refine calls_go (nt := 26) (rs := [.cell 6 49, .tmp 7]) Try.func76 rfl rfl rfl (by simp) (by intro id h; simp at h <;> omega) ?_; intro Q hQ hW
    repeat' (first
    | (with_reducible refine run_n ?_; with_reducible first | refine hK _ _ (by simp) ?_ | refine hK _ _ ?_; clear hK K)
    | (with_reducible first | refine awp_seq ?_ | refine then_n ?_ | refine then_r ?_ | refine then_e ?_ | refine awp_skip ?_ | refine awp_label ?_ | refine awp_ret ?_ | refine awp_exit ?_ | refine awp_block ?_ | refine awp_scope ?_ | refine in_n ?_ | refine in_r ?_ | refine in_e ?_ | refine in_ne (by decide) ?_ | refine ng_n ?_ | refine ng_r ?_ | refine ng_e ?_)
    | (with_reducible refine awp_regT (by kernel_rfl) ?_; intro K hK)
    | (with_reducible refine a_cond (ht := ?_) (hf := ?_) <;> intro hb <;> (try simp at hb) <;> (try contradiction) <;> (try subst hb) <;> (try omega))
    | (with_reducible first | refine a_move (hr := ?_) | refine a_assign (hr := ?_) | refine a_load (hr := ?_) | refine a_fieldAddr (hr := ?_) | refine a_bin (hr := ?_) | refine a_store (hr := ?_) | refine a_box (hr := ?_) | refine a_alloc (hr := ?_) | refine a_eqB (hr := ?_) | refine a_neB (hr := ?_) | refine a_eqS (hr := ?_) | refine a_neS (hr := ?_) | refine a_callP (p := 100000) (hcall := k1) (hr := ?_) | refine a_callP (p := 100000) (hcall := k2) (hr := ?_) | refine a_callF (hcall := k3) (hr := ?_))
    | fail)
    all_goals ((refine hQ _ _ _ _ (by first | exact .inr rfl | exact .inl rfl) (by simp; exact .r) (by simp; exact .r) ?_))
    all_goals (exact Fin.keep (by simp; exact .r) (by simp; exact .r) (by simp; exact .r) (by simp))
theorem c_TakeInst (l : List Int) (hB : IsB l) (hl : l.length ≤ 1000) : CallD Try.prog 34 [.sl 1 (u8s l)] noHeap (.tup [(instR (l, 0)).1.av, .raw (.int .i64 (instR (l, 0)).2)]) noHeap := by
  have h : At l 0 l := ⟨Nat.zero_le _, rfl, hB, by omega⟩
  obtain ⟨a1, k1⟩ := c_whInst h 0
  have k0 := c_Read l (by omega)
  generalize instR (l, 0) = r at k1 ⊢
  obtain ⟨i, q⟩ := r
  generalize (instS (l, 0)).2.2 = q1 at k1
  obtain ⟨d, v, s, c, x⟩ := i
  simp only at k1 ⊢
  clear h
  refine calls_go (nt := 14) (rs := [.cell 2 49, .tmp 3]) Try.func34 rfl rfl rfl (by simp) (by intro id h; simp at h <;> omega) ?_; intro Q hQ hW
  repeat' (first
    | (with_reducible refine run_n ?_; with_reducible first | refine hK _ _ (by simp) ?_ | refine hK _ _ ?_; clear hK K)
    | (with_reducible first | refine awp_seq ?_ | refine then_n ?_ | refine then_r ?_ | refine then_e ?_ | refine awp_skip ?_ | refine awp_label ?_ | refine awp_ret ?_ | refine awp_exit ?_ | refine awp_block ?_ | refine awp_scope ?_ | refine in_n ?_ | refine in_r ?_ | refine in_e ?_ | refine in_ne (by decide) ?_ | refine ng_n ?_ | refine ng_r ?_ | refine ng_e ?_)
    | (with_reducible refine awp_regT (by kernel_rfl) ?_; intro K hK)
    | (with_reducible refine a_cond (ht := ?_) (hf := ?_) <;> intro hb <;> (try simp at hb) <;> (try contradiction) <;> (try subst hb) <;> (try omega))
    | (with_reducible first | refine a_move (hr := ?_) | refine a_assign (hr := ?_) | refine a_load (hr := ?_) | refine a_extract (hr := ?_) | refine a_store (hr := ?_) | refine a_alloc (hr := ?_) | refine a_makeFunc (hr := ?_) | refine a_build (hr := ?_) | refine a_callB (hcall := k0) (hr := ?_) | refine a_callP (p := 6) (hcall := k1) (hr := ?_))
    | fail)
  all_goals ((refine hQ _ _ _ _ (by first | exact .inr rfl | exact .inl rfl) (by simp; exact .r) (by simp; exact .r) ?_))
  all_goals (exact Fin.drop (by simp; exact .r) (by simp))
theorem isB_sU {l : List Int} {e most : Int} (h : IsB l) : IsB (sU most (l, e)).2.1 := isB_drop h _
theorem isB_sB {l : List Int} {e : Int} (h : IsB l) : IsB (sB (l, e)).2.1 := isB_drop h _
theorem isB_sT {l : List Int} {e most : Int} (h : IsB l) : IsB (sT most (l, e)).2.1 := isB_drop h _
theorem ln_sU {l : List Int} {e most : Int} {n : Nat} (h : l.length ≤ n) : (sU most (l, e)).2.1.length ≤ n := by simp only [sU, List.length_drop]; omega
theorem ln_sB {l : List Int} {e : Int} {n : Nat} (h : l.length ≤ n) : (sB (l, e)).2.1.length ≤ n := by simp only [sB, List.length_drop]; omega
theorem ln_sT {l : List Int} {e most : Int} {n : Nat} (h : l.length ≤ n) : (sT most (l, e)).2.1.length ≤ n := by simp only [sT, List.length_drop]; omega
structure Tok where
  a : Int
  s : Int
  f : Int
abbrev Tok.av (t : Tok) : AV := tokAV t.a t.s t.f
def Tok.z : Tok := ⟨0, 0, 0⟩
def Tok.b (t : Tok) : Bool := decide (mayTok t.a t.f)
def tokS (s : RSt) : Tok × RSt :=
  let r1 := sU 255 s
  let r2 := sU 18446744073709551615 r1.2
  let r3 := sU 255 r2.2
  (⟨r1.1, r2.1, r3.1 - 1⟩, r3.2)
def tokR (s : RSt) : Tok × Int := outR Tok.z (tokS s).1 (wrongE (tokS s).1.b (endE (tokS s).2.1 (tokS s).2.2))
theorem c_tkTok {bs : List Int} {a : Nat} {l : List Int} (h : At bs a l) (e : Int) : ∃ a', At bs a' (tokS (l, e)).2.1 ∧ CallD Try.prog 84 [.agg [.ptr 100000 0]] (rdH bs a e) (tokS (l, e)).1.av (rdH bs a' (tokS (l, e)).2.2) := by
  simp only [tokS]
  obtain ⟨a1, g1, k1⟩ := x_U h e 255
  have w1 := r_U h.b e (most := 255) (by omega)
  generalize sU 255 (l, e) = r1 at g1 k1 w1 ⊢
  obtain ⟨v1, l1, e1⟩ := r1
  simp only at g1 k1 w1 ⊢
  obtain ⟨a2, g2, k2⟩ := x_U g1 e1 18446744073709551615
  generalize sU 18446744073709551615 (l1, e1) = r2 at g2 k2 ⊢
  obtain ⟨v2, l2, e2⟩ := r2
  simp only at g2 k2 ⊢
  obtain ⟨a3, g3, k3⟩ := x_U g2 e2 255
  have w3 := r_U g2.b e2 (most := 255) (by omega)
  generalize sU 255 (l2, e2) = r3 at g3 k3 w3 ⊢
  obtain ⟨v3, l3, e3⟩ := r3
  simp only at g3 k3 w3 ⊢
  refine ⟨a3, g3, ?_⟩
  clear h g1 g2 g3
  refine calls_go (nt := 20) (rs := [.cell 2 51]) Try.func84 rfl rfl rfl (by simp) (by intro id h; simp at h <;> omega) ?_; intro Q hQ hW
  repeat' (first
    | (with_reducible refine run_n ?_; with_reducible first | refine hK _ _ (by simp) ?_ | refine hK _ _ ?_; clear hK K)
    | (with_reducible first | refine awp_seq ?_ | refine then_n ?_ | refine then_r ?_ | refine then_e ?_ | refine awp_skip ?_ | refine awp_label ?_ | refine awp_ret ?_ | refine awp_exit ?_ | refine awp_block ?_ | refine awp_scope ?_ | refine in_n ?_ | refine in_r ?_ | refine in_e ?_ | refine in_ne (by decide) ?_ | refine ng_n ?_ | refine ng_r ?_ | refine ng_e ?_)
    | (with_reducible refine awp_regT (by kernel_rfl) ?_; intro K hK)
    | (with_reducible refine a_cond (ht := ?_) (hf := ?_) <;> intro hb <;> (try simp at hb) <;> (try contradiction) <;> (try subst hb) <;> (try omega))
    | (with_reducible first | refine a_load (hr := ?_) | refine a_fieldAddr (hr := ?_) | refine a_bin (hr := ?_) | refine a_store (hr := ?_) | refine a_box (hr := ?_) | refine a_alloc (hr := ?_) | refine a_conv (hr := ?_) | refine a_bytesStr (hr := ?_) | refine a_strBytes (hr := ?_) | refine a_callP (p := 100000) (hcall := k1) (hr := ?_) | refine a_callP (p := 100000) (hcall := k2) (hr := ?_) | refine a_callP (p := 100000) (hcall := k3) (hr := ?_))
    | fail)
  all_goals ((refine hQ _ _ _ _ (by first | exact .inr rfl | exact .inl rfl) (by simp; exact .r) (by simp; exact .r) ?_))
  all_goals (exact Fin.keep (by simp; exact .r) (by simp; exact .r) (by simp; exact .r) (by simp))
theorem c_whTok {bs : List Int} {a : Nat} {l : List Int} (h : At bs a l) (e : Int) : ∃ a', CallD Try.prog 83 [.agg [.ptr 100000 0], .fn (.func 84) [.agg [.ptr 100000 0]] [], .raw (.func (.func 68) #[] #[])] (rdH bs a e) (.tup [(tokR (l, e)).1.av, .raw (.int .i64 (tokR (l, e)).2)]) (rdH bs a' (tokS (l, e)).2.2) := by
  obtain ⟨a1, g1, k1⟩ := c_tkTok h e
  simp only [tokR]
  generalize tokS (l, e) = r at g1 k1 ⊢
  obtain ⟨⟨v, s, x⟩, l1, e1⟩ := r
  simp only [Tok.b] at g1 k1 ⊢
  have k2 := x_End g1 e1
  have k3 := c_mayToken v s x
  refine ⟨a1, ?_⟩
  generalize endE l1 e1 = q at k2 ⊢
  clear h g1
  unfold wrongE Tok.z
  by_cases hq : q = 0
  · subst hq
    rw [if_pos rfl]
    by_cases hb : mayTok v x
    · rw [if_pos (decide_eq_true hb), outR_0]
      rw [if_pos hb] at k3
      refine calls_go (nt := 26) (rs := [.cell 6 51, .tmp 7]) Try.func83 rfl rfl rfl (by simp) (by intro id h; simp at h <;> omega) ?_; intro Q hQ hW
      repeat' (first
    | (with_reducible refine run_n ?_; with_reducible first | refine hK _ _ (by simp) ?_ | refine hK _ _ ?_; clear hK K)
    | (with_reducible first | refine awp_seq ?_ | refine then_n ?_ | refine then_r ?_ | refine then_e ?_ | refine awp_skip ?_ | refine awp_label ?_ | refine awp_ret ?_ | refine awp_exit ?_ | refine awp_block ?_ | refine awp_scope ?_ | refine in_n ?_ | refine in_r ?_ | refine in_e ?_ | refine in_ne (by decide) ?_ | refine ng_n ?_ | refine ng_r ?_ | refine ng_e ?_)
    | (with_reducible refine awp_regT (by kernel_rfl) ?_; intro K hK)
    | (with_reducible refine a_cond (ht := ?_) (hf := ?_) <;> intro hb <;> (try simp at hb) <;> (try contradiction) <;> (try subst hb) <;> (try omega))
    | (with_reducible first | refine a_move (hr := ?_) | refine a_assign (hr := ?_) | refine a_load (hr := ?_) | refine a_fieldAddr (hr := ?_) | refine a_bin (hr := ?_) | refine a_store (hr := ?_) | refine a_box (hr := ?_) | refine a_alloc (hr := ?_) | refine a_eqB (hr := ?_) | refine a_neB (hr := ?_) | refine a_eqS (hr := ?_) | refine a_neS (hr := ?_) | refine a_callP (p := 100000) (hcall := k1) (hr := ?_) | refine a_callP (p := 100000) (hcall := k2) (hr := ?_) | refine a_callF (hcall := k3) (hr := ?_))
    | fail)
      all_goals ((refine hQ _ _ _ _ (by first | exact .inr rfl | exact .inl rfl) (by simp; exact .r) (by simp; exact .r) ?_))
      all_goals (exact Fin.keep (by simp; exact .r) (by simp; exact .r) (by simp; exact .r) (by simp))
    · rw [if_neg (by rw [decide_eq_true_eq]; exact hb), outR_n _ _ (by decide)]
      rw [if_neg hb] at k3
      refine calls_go (nt := 26) (rs := [.cell 6 51, .tmp 7]) Try.func83 rfl rfl rfl (by simp) (by intro id h; simp at h <;> omega) ?_; intro Q hQ hW
      repeat' (first
    | (with_reducible refine run_n ?_; with_reducible first | refine hK _ _ (by simp) ?_ | refine hK _ _ ?_; clear hK K)
    | (with_reducible first | refine awp_seq ?_ | refine then_n ?_ | refine then_r ?_ | refine then_e ?_ | refine awp_skip ?_ | refine awp_label ?_ | refine awp_ret ?_ | refine awp_exit ?_ | refine awp_block ?_ | refine awp_scope ?_ | refine in_n ?_ | refine in_r ?_ | refine in_e ?_ | refine in_ne (by decide) ?_ | refine ng_n ?_ | refine ng_r ?_ | refine ng_e ?_)
    | (with_reducible refine awp_regT (by kernel_rfl) ?_; intro K hK)
    | (with_reducible refine a_cond (ht := ?_) (hf := ?_) <;> intro hb <;> (try simp at hb) <;> (try contradiction) <;> (try subst hb) <;> (try omega))
    | (with_reducible first | refine a_move (hr := ?_) | refine a_assign (hr := ?_) | refine a_load (hr := ?_) | refine a_fieldAddr (hr := ?_) | refine a_bin (hr := ?_) | refine a_store (hr := ?_) | refine a_box (hr := ?_) | refine a_alloc (hr := ?_) | refine a_eqB (hr := ?_) | refine a_neB (hr := ?_) | refine a_eqS (hr := ?_) | refine a_neS (hr := ?_) | refine a_callP (p := 100000) (hcall := k1) (hr := ?_) | refine a_callP (p := 100000) (hcall := k2) (hr := ?_) | refine a_callF (hcall := k3) (hr := ?_))
    | fail)
      all_goals ((refine hQ _ _ _ _ (by first | exact .inr rfl | exact .inl rfl) (by simp; exact .r) (by simp; exact .r) ?_))
      all_goals (exact Fin.keep (by simp; exact .r) (by simp; exact .r) (by simp; exact .r) (by simp))
  · rw [if_neg hq, outR_n _ _ hq]
    clear k3
    refine calls_go (nt := 26) (rs := [.cell 6 51, .tmp 7]) Try.func83 rfl rfl rfl (by simp) (by intro id h; simp at h <;> omega) ?_; intro Q hQ hW
    repeat' (first
    | (with_reducible refine run_n ?_; with_reducible first | refine hK _ _ (by simp) ?_ | refine hK _ _ ?_; clear hK K)
    | (with_reducible first | refine awp_seq ?_ | refine then_n ?_ | refine then_r ?_ | refine then_e ?_ | refine awp_skip ?_ | refine awp_label ?_ | refine awp_ret ?_ | refine awp_exit ?_ | refine awp_block ?_ | refine awp_scope ?_ | refine in_n ?_ | refine in_r ?_ | refine in_e ?_ | refine in_ne (by decide) ?_ | refine ng_n ?_ | refine ng_r ?_ | refine ng_e ?_)
    | (with_reducible refine awp_regT (by kernel_rfl) ?_; intro K hK)
    | (with_reducible refine a_cond (ht := ?_) (hf := ?_) <;> intro hb <;> (try simp at hb) <;> (try contradiction) <;> (try subst hb) <;> (try omega))
    | (with_reducible first | refine a_move (hr := ?_) | refine a_assign (hr := ?_) | refine a_load (hr := ?_) | refine a_fieldAddr (hr := ?_) | refine a_bin (hr := ?_) | refine a_store (hr := ?_) | refine a_box (hr := ?_) | refine a_alloc (hr := ?_) | refine a_eqB (hr := ?_) | refine a_neB (hr := ?_) | refine a_eqS (hr := ?_) | refine a_neS (hr := ?_) | refine a_callP (p := 100000) (hcall := k1) (hr := ?_) | refine a_callP (p := 100000) (hcall := k2) (hr := ?_))
    | fail)
    all_goals ((refine hQ _ _ _ _ (by first | exact .inr rfl | exact .inl rfl) (by simp; exact .r) (by simp; exact .r) ?_))
    all_goals (exact Fin.keep (by simp; exact .r) (by simp; exact .r) (by simp; exact .r) (by simp))
theorem c_TakeTok (l : List Int) (hB : IsB l) (hl : l.length ≤ 1000) : CallD Try.prog 36 [.sl 1 (u8s l)] noHeap (.tup [(tokR (l, 0)).1.av, .raw (.int .i64 (tokR (l, 0)).2)]) noHeap := by
  have h : At l 0 l := ⟨Nat.zero_le _, rfl, hB, by omega⟩
  obtain ⟨a1, k1⟩ := c_whTok h 0
  have k0 := c_Read l (by omega)
  generalize tokR (l, 0) = r at k1 ⊢
  obtain ⟨i, q⟩ := r
  generalize (tokS (l, 0)).2.2 = q1 at k1
  obtain ⟨d, v, s⟩ := i
  simp only at k1 ⊢
  clear h
  refine calls_go (nt := 14) (rs := [.cell 2 51, .tmp 3]) Try.func36 rfl rfl rfl (by simp) (by intro id h; simp at h <;> omega) ?_; intro Q hQ hW
  repeat' (first
    | (with_reducible refine run_n ?_; with_reducible first | refine hK _ _ (by simp) ?_ | refine hK _ _ ?_; clear hK K)
    | (with_reducible first | refine awp_seq ?_ | refine then_n ?_ | refine then_r ?_ | refine then_e ?_ | refine awp_skip ?_ | refine awp_label ?_ | refine awp_ret ?_ | refine awp_exit ?_ | refine awp_block ?_ | refine awp_scope ?_ | refine in_n ?_ | refine in_r ?_ | refine in_e ?_ | refine in_ne (by decide) ?_ | refine ng_n ?_ | refine ng_r ?_ | refine ng_e ?_)
    | (with_reducible refine awp_regT (by kernel_rfl) ?_; intro K hK)
    | (with_reducible refine a_cond (ht := ?_) (hf := ?_) <;> intro hb <;> (try simp at hb) <;> (try contradiction) <;> (try subst hb) <;> (try omega))
    | (with_reducible first | refine a_move (hr := ?_) | refine a_assign (hr := ?_) | refine a_load (hr := ?_) | refine a_extract (hr := ?_) | refine a_store (hr := ?_) | refine a_alloc (hr := ?_) | refine a_makeFunc (hr := ?_) | refine a_build (hr := ?_) | refine a_callB (hcall := k0) (hr := ?_) | refine a_callP (p := 6) (hcall := k1) (hr := ?_))
    | fail)
  all_goals ((refine hQ _ _ _ _ (by first | exact .inr rfl | exact .inl rfl) (by simp; exact .r) (by simp; exact .r) ?_))
  all_goals (exact Fin.drop (by simp; exact .r) (by simp))
structure Arm where
  k : Int
  n : ByteArray
  y : ByteArray
  d : Int
abbrev Arm.av (t : Arm) : AV := armAV t.k t.n t.y t.d
def Arm.z : Arm := ⟨0, ⟨#[]⟩, ⟨#[]⟩, 0⟩
def Arm.b (t : Arm) : Bool := armB t.k t.n t.y t.d
/-- What stands behind an arm's kind. -/
def armT (k : Int) (s : RSt) : Arm × RSt :=
  if k = 1 then (⟨k, ⟨#[]⟩, ⟨#[]⟩, (sU 18446744073709551615 s).1⟩, (sU 18446744073709551615 s).2)
  else if k = 2 then (⟨k, (sT 16 s).1, (sT 64 (sT 16 s).2).1, 0⟩, (sT 64 (sT 16 s).2).2)
  else if k = 3 then (⟨k, (sT 16 s).1, ⟨#[]⟩, 0⟩, (sT 16 s).2)
  else (⟨k, ⟨#[]⟩, ⟨#[]⟩, 0⟩, s)
def armS (s : RSt) : Arm × RSt := armT (sB s).1 (sB s).2
theorem c_tkArm {bs : List Int} {a : Nat} {l : List Int} (h : At bs a l) (e : Int) : ∃ a', At bs a' (armS (l, e)).2.1 ∧ CallD Try.prog 86 [.agg [.ptr 100000 0]] (rdH bs a e) (armS (l, e)).1.av (rdH bs a' (armS (l, e)).2.2) := by
  simp only [armS]
  obtain ⟨a1, g1, k1⟩ := x_B h e
  have w1 := r_B h.b e
  generalize sB (l, e) = r1 at g1 k1 w1 ⊢
  obtain ⟨v1, l1, e1⟩ := r1
  simp only at g1 k1 w1 ⊢
  unfold armT
  by_cases h1 : v1 = 1
  · subst h1
    rw [if_pos rfl]
    obtain ⟨a2, g2, k2⟩ := x_U g1 e1 18446744073709551615
    generalize sU 18446744073709551615 (l1, e1) = r2 at g2 k2 ⊢
    obtain ⟨v2, l2, e2⟩ := r2
    refine ⟨a2, g2, ?_⟩
    simp only at k2 ⊢
    clear h g1 g2
    refine calls_go (nt := 32) (rs := [.cell 2 24]) Try.func86 rfl rfl rfl (by simp) (by intro id h; simp at h <;> omega) ?_; intro Q hQ hW
    repeat' (first
    | (with_reducible refine run_n ?_; with_reducible first | refine hK _ _ (by simp) ?_ | refine hK _ _ ?_; clear hK K)
    | (with_reducible first | refine awp_seq ?_ | refine then_n ?_ | refine then_r ?_ | refine then_e ?_ | refine awp_skip ?_ | refine awp_label ?_ | refine awp_ret ?_ | refine awp_exit ?_ | refine awp_block ?_ | refine awp_scope ?_ | refine in_n ?_ | refine in_r ?_ | refine in_e ?_ | refine in_ne (by decide) ?_ | refine ng_n ?_ | refine ng_r ?_ | refine ng_e ?_)
    | (with_reducible refine awp_regT (by kernel_rfl) ?_; intro K hK)
    | (with_reducible refine a_cond (ht := ?_) (hf := ?_) <;> intro hb <;> (try simp at hb) <;> (try contradiction) <;> (try subst hb) <;> (try omega))
    | (with_reducible first | refine a_assign (hr := ?_) | refine a_load (hr := ?_) | refine a_fieldAddr (hr := ?_) | refine a_bin (hr := ?_) | refine a_store (hr := ?_) | refine a_box (hr := ?_) | refine a_alloc (hr := ?_) | refine a_eqB (hr := ?_) | refine a_conv (hr := ?_) | refine a_bytesStr (hr := ?_) | refine a_strBytes (hr := ?_) | refine a_eqS (hr := ?_) | refine a_build (hr := ?_) | refine a_callP (p := 100000) (hcall := k1) (hr := ?_) | refine a_callP (p := 100000) (hcall := k2) (hr := ?_))
    | fail)
    all_goals ((refine hQ _ _ _ _ (by first | exact .inr rfl | exact .inl rfl) (by simp; exact .r) (by simp; exact .r) ?_))
    all_goals (exact Fin.keep (by simp; exact .r) (by simp; exact .r) (by simp; exact .r) (by simp))
  rw [if_neg h1]
  by_cases h2 : v1 = 2
  · subst h2
    rw [if_pos rfl]
    obtain ⟨a2, g2, k2⟩ := x_T g1 e1 16 (by omega)
    generalize sT 16 (l1, e1) = r2 at g2 k2 ⊢
    obtain ⟨v2, l2, e2⟩ := r2
    simp only at g2 k2 ⊢
    obtain ⟨a3, g3, k3⟩ := x_T g2 e2 64 (by omega)
    generalize sT 64 (l2, e2) = r3 at g3 k3 ⊢
    obtain ⟨v3, l3, e3⟩ := r3
    refine ⟨a3, g3, ?_⟩
    simp only at k3 ⊢
    clear h g1 g2 g3
    refine calls_go (nt := 32) (rs := [.cell 2 24]) Try.func86 rfl rfl rfl (by simp) (by intro id h; simp at h <;> omega) ?_; intro Q hQ hW
    repeat' (first
    | (with_reducible refine run_n ?_; with_reducible first | refine hK _ _ (by simp) ?_ | refine hK _ _ ?_; clear hK K)
    | (with_reducible first | refine awp_seq ?_ | refine then_n ?_ | refine then_r ?_ | refine then_e ?_ | refine awp_skip ?_ | refine awp_label ?_ | refine awp_ret ?_ | refine awp_exit ?_ | refine awp_block ?_ | refine awp_scope ?_ | refine in_n ?_ | refine in_r ?_ | refine in_e ?_ | refine in_ne (by decide) ?_ | refine ng_n ?_ | refine ng_r ?_ | refine ng_e ?_)
    | (with_reducible refine awp_regT (by kernel_rfl) ?_; intro K hK)
    | (with_reducible refine a_cond (ht := ?_) (hf := ?_) <;> intro hb <;> (try simp at hb) <;> (try contradiction) <;> (try subst hb) <;> (try omega))
    | (with_reducible first | refine a_assign (hr := ?_) | refine a_load (hr := ?_) | refine a_fieldAddr (hr := ?_) | refine a_bin (hr := ?_) | refine a_store (hr := ?_) | refine a_box (hr := ?_) | refine a_alloc (hr := ?_) | refine a_eqB (hr := ?_) | refine a_conv (hr := ?_) | refine a_bytesStr (hr := ?_) | refine a_strBytes (hr := ?_) | refine a_eqS (hr := ?_) | refine a_build (hr := ?_) | refine a_callP (p := 100000) (hcall := k1) (hr := ?_) | refine a_callP (p := 100000) (hcall := k2) (hr := ?_) | refine a_callP (p := 100000) (hcall := k3) (hr := ?_))
    | fail)
    all_goals ((refine hQ _ _ _ _ (by first | exact .inr rfl | exact .inl rfl) (by simp; exact .r) (by simp; exact .r) ?_))
    all_goals (exact Fin.keep (by simp; exact .r) (by simp; exact .r) (by simp; exact .r) (by simp))
  rw [if_neg h2]
  by_cases h3 : v1 = 3
  · subst h3
    rw [if_pos rfl]
    obtain ⟨a2, g2, k2⟩ := x_T g1 e1 16 (by omega)
    generalize sT 16 (l1, e1) = r2 at g2 k2 ⊢
    obtain ⟨v2, l2, e2⟩ := r2
    refine ⟨a2, g2, ?_⟩
    simp only at k2 ⊢
    clear h g1 g2
    refine calls_go (nt := 32) (rs := [.cell 2 24]) Try.func86 rfl rfl rfl (by simp) (by intro id h; simp at h <;> omega) ?_; intro Q hQ hW
    repeat' (first
    | (with_reducible refine run_n ?_; with_reducible first | refine hK _ _ (by simp) ?_ | refine hK _ _ ?_; clear hK K)
    | (with_reducible first | refine awp_seq ?_ | refine then_n ?_ | refine then_r ?_ | refine then_e ?_ | refine awp_skip ?_ | refine awp_label ?_ | refine awp_ret ?_ | refine awp_exit ?_ | refine awp_block ?_ | refine awp_scope ?_ | refine in_n ?_ | refine in_r ?_ | refine in_e ?_ | refine in_ne (by decide) ?_ | refine ng_n ?_ | refine ng_r ?_ | refine ng_e ?_)
    | (with_reducible refine awp_regT (by kernel_rfl) ?_; intro K hK)
    | (with_reducible refine a_cond (ht := ?_) (hf := ?_) <;> intro hb <;> (try simp at hb) <;> (try contradiction) <;> (try subst hb) <;> (try omega))
    | (with_reducible first | refine a_assign (hr := ?_) | refine a_load (hr := ?_) | refine a_fieldAddr (hr := ?_) | refine a_bin (hr := ?_) | refine a_store (hr := ?_) | refine a_box (hr := ?_) | refine a_alloc (hr := ?_) | refine a_eqB (hr := ?_) | refine a_conv (hr := ?_) | refine a_bytesStr (hr := ?_) | refine a_strBytes (hr := ?_) | refine a_eqS (hr := ?_) | refine a_build (hr := ?_) | refine a_callP (p := 100000) (hcall := k1) (hr := ?_) | refine a_callP (p := 100000) (hcall := k2) (hr := ?_))
    | fail)
    all_goals ((refine hQ _ _ _ _ (by first | exact .inr rfl | exact .inl rfl) (by simp; exact .r) (by simp; exact .r) ?_))
    all_goals (exact Fin.keep (by simp; exact .r) (by simp; exact .r) (by simp; exact .r) (by simp))
  rw [if_neg h3]
  refine ⟨a1, g1, ?_⟩
  simp only
  clear h g1
  refine calls_go (nt := 32) (rs := [.cell 2 24]) Try.func86 rfl rfl rfl (by simp) (by intro id h; simp at h <;> omega) ?_; intro Q hQ hW
  repeat' (first
    | (with_reducible refine run_n ?_; with_reducible first | refine hK _ _ (by simp) ?_ | refine hK _ _ ?_; clear hK K)
    | (with_reducible first | refine awp_seq ?_ | refine then_n ?_ | refine then_r ?_ | refine then_e ?_ | refine awp_skip ?_ | refine awp_label ?_ | refine awp_ret ?_ | refine awp_exit ?_ | refine awp_block ?_ | refine awp_scope ?_ | refine in_n ?_ | refine in_r ?_ | refine in_e ?_ | refine in_ne (by decide) ?_ | refine ng_n ?_ | refine ng_r ?_ | refine ng_e ?_)
    | (with_reducible refine awp_regT (by kernel_rfl) ?_; intro K hK)
    | (with_reducible refine a_cond (ht := ?_) (hf := ?_) <;> intro hb <;> (try simp at hb) <;> (try contradiction) <;> (try subst hb) <;> (try omega))
    | (with_reducible first | refine a_assign (hr := ?_) | refine a_load (hr := ?_) | refine a_fieldAddr (hr := ?_) | refine a_bin (hr := ?_) | refine a_store (hr := ?_) | refine a_box (hr := ?_) | refine a_alloc (hr := ?_) | refine a_eqB (hr := ?_) | refine a_conv (hr := ?_) | refine a_bytesStr (hr := ?_) | refine a_strBytes (hr := ?_) | refine a_eqS (hr := ?_) | refine a_build (hr := ?_) | refine a_callP (p := 100000) (hcall := k1) (hr := ?_))
    | fail)
  all_goals ((refine hQ _ _ _ _ (by first | exact .inr rfl | exact .inl rfl) (by simp; exact .r) (by simp; exact .r) ?_))
  all_goals (exact Fin.keep (by simp; exact .r) (by simp; exact .r) (by simp; exact .r) (by simp))
def armO (s : RSt) : Arm × Int := outR Arm.z (armS s).1 (wrongE (armS s).1.b (endE (armS s).2.1 (armS s).2.2))
def armR : List Int → Arm × Int
  | [] => armO ([], 0)
  | c :: l => if c < 1 ∨ 3 < c then (Arm.z, 1) else armO (c :: l, 0)
theorem armT_small (k : Int) {l : List Int} (e : Int) : (armT k (l, e)).1.n.size ≤ l.length ∧ (armT k (l, e)).1.y.size ≤ l.length := by
  have h0 : (⟨#[]⟩ : ByteArray).size = 0 := rfl
  unfold armT
  have h1 := r_T l e 16
  have h2 := r_T (sT 16 (l, e)).2.1 (sT 16 (l, e)).2.2 64
  have h3 : (sT 16 (l, e)).2.1.length ≤ l.length := ln_sT (Nat.le_refl _)
  split
  · simp only; omega
  · split
    · exact ⟨h1, Nat.le_trans h2 h3⟩
    · split
      · simp only; omega
      · simp only; omega
theorem armS_small {l : List Int} (e : Int) : (armS (l, e)).1.n.size ≤ l.length ∧ (armS (l, e)).1.y.size ≤ l.length := by
  have h := armT_small (sB (l, e)).1 (l := (sB (l, e)).2.1) (sB (l, e)).2.2
  have h3 : (sB (l, e)).2.1.length ≤ l.length := ln_sB (Nat.le_refl _)
  exact ⟨Nat.le_trans h.1 h3, Nat.le_trans h.2 h3⟩
theorem c_whArm {bs : List Int} {a : Nat} {l : List Int} (h : At bs a l) (e : Int) : ∃ a', CallD Try.prog 85 [.agg [.ptr 100000 0], .fn (.func 86) [.agg [.ptr 100000 0]] [], .raw (.func (.func 49) #[] #[])] (rdH bs a e) (.tup [(armO (l, e)).1.av, .raw (.int .i64 (armO (l, e)).2)]) (rdH bs a' (armS (l, e)).2.2) := by
  obtain ⟨a1, g1, k1⟩ := c_tkArm h e
  have hsm := armS_small (l := l) e
  have hln := h.len
  have hlt := h.lt
  simp only [armO]
  generalize armS (l, e) = r at g1 k1 hsm ⊢
  obtain ⟨⟨k, n, y, d⟩, l1, e1⟩ := r
  simp only [Arm.b] at g1 k1 hsm ⊢
  have k2 := x_End g1 e1
  have k3 := c_mayArm k n y d (by omega) (by omega)
  refine ⟨a1, ?_⟩
  obtain ⟨b, hb1⟩ : ∃ b, armB k n y d = b := ⟨_, rfl⟩
  simp only [hb1] at k3 ⊢
  clear hb1
  generalize endE l1 e1 = q at k2 ⊢
  clear h g1 hsm hln hlt
  unfold wrongE Arm.z
  by_cases hq : q = 0
  · subst hq
    rw [if_pos rfl]
    cases b with
    | true =>
      rw [if_pos rfl, outR_0]
      refine calls_go (nt := 26) (rs := [.cell 6 24, .tmp 7]) Try.func85 rfl rfl rfl (by simp) (by intro id h; simp at h <;> omega) ?_; intro Q hQ hW
      repeat' (first
    | (with_reducible refine run_n ?_; with_reducible first | refine hK _ _ (by simp) ?_ | refine hK _ _ ?_; clear hK K)
    | (with_reducible first | refine awp_seq ?_ | refine then_n ?_ | refine then_r ?_ | refine then_e ?_ | refine awp_skip ?_ | refine awp_label ?_ | refine awp_ret ?_ | refine awp_exit ?_ | refine awp_block ?_ | refine awp_scope ?_ | refine in_n ?_ | refine in_r ?_ | refine in_e ?_ | refine in_ne (by decide) ?_ | refine ng_n ?_ | refine ng_r ?_ | refine ng_e ?_)
    | (with_reducible refine awp_regT (by kernel_rfl) ?_; intro K hK)
    | (with_reducible refine a_cond (ht := ?_) (hf := ?_) <;> intro hb <;> (try simp at hb) <;> (try contradiction) <;> (try subst hb) <;> (try omega))
    | (with_reducible first | refine a_move (hr := ?_) | refine a_assign (hr := ?_) | refine a_load (hr := ?_) | refine a_fieldAddr (hr := ?_) | refine a_bin (hr := ?_) | refine a_store (hr := ?_) | refine a_box (hr := ?_) | refine a_alloc (hr := ?_) | refine a_eqB (hr := ?_) | refine a_neB (hr := ?_) | refine a_eqS (hr := ?_) | refine a_neS (hr := ?_) | refine a_callP (p := 100000) (hcall := k1) (hr := ?_) | refine a_callP (p := 100000) (hcall := k2) (hr := ?_) | refine a_callF (hcall := k3) (hr := ?_))
    | fail)
      all_goals ((refine hQ _ _ _ _ (by first | exact .inr rfl | exact .inl rfl) (by simp; exact .r) (by simp; exact .r) ?_))
      all_goals (exact Fin.keep (by simp; exact .r) (by simp; exact .r) (by simp; exact .r) (by simp))
    | false =>
      rw [if_neg (by decide), outR_n _ _ (by decide)]
      refine calls_go (nt := 26) (rs := [.cell 6 24, .tmp 7]) Try.func85 rfl rfl rfl (by simp) (by intro id h; simp at h <;> omega) ?_; intro Q hQ hW
      repeat' (first
    | (with_reducible refine run_n ?_; with_reducible first | refine hK _ _ (by simp) ?_ | refine hK _ _ ?_; clear hK K)
    | (with_reducible first | refine awp_seq ?_ | refine then_n ?_ | refine then_r ?_ | refine then_e ?_ | refine awp_skip ?_ | refine awp_label ?_ | refine awp_ret ?_ | refine awp_exit ?_ | refine awp_block ?_ | refine awp_scope ?_ | refine in_n ?_ | refine in_r ?_ | refine in_e ?_ | refine in_ne (by decide) ?_ | refine ng_n ?_ | refine ng_r ?_ | refine ng_e ?_)
    | (with_reducible refine awp_regT (by kernel_rfl) ?_; intro K hK)
    | (with_reducible refine a_cond (ht := ?_) (hf := ?_) <;> intro hb <;> (try simp at hb) <;> (try contradiction) <;> (try subst hb) <;> (try omega))
    | (with_reducible first | refine a_move (hr := ?_) | refine a_assign (hr := ?_) | refine a_load (hr := ?_) | refine a_fieldAddr (hr := ?_) | refine a_bin (hr := ?_) | refine a_store (hr := ?_) | refine a_box (hr := ?_) | refine a_alloc (hr := ?_) | refine a_eqB (hr := ?_) | refine a_neB (hr := ?_) | refine a_eqS (hr := ?_) | refine a_neS (hr := ?_) | refine a_callP (p := 100000) (hcall := k1) (hr := ?_) | refine a_callP (p := 100000) (hcall := k2) (hr := ?_) | refine a_callF (hcall := k3) (hr := ?_))
    | fail)
      all_goals ((refine hQ _ _ _ _ (by first | exact .inr rfl | exact .inl rfl) (by simp; exact .r) (by simp; exact .r) ?_))
      all_goals (exact Fin.keep (by simp; exact .r) (by simp; exact .r) (by simp; exact .r) (by simp))
  · rw [if_neg hq, outR_n _ _ hq]
    refine calls_go (nt := 26) (rs := [.cell 6 24, .tmp 7]) Try.func85 rfl rfl rfl (by simp) (by intro id h; simp at h <;> omega) ?_; intro Q hQ hW
    repeat' (first
    | (with_reducible refine run_n ?_; with_reducible first | refine hK _ _ (by simp) ?_ | refine hK _ _ ?_; clear hK K)
    | (with_reducible first | refine awp_seq ?_ | refine then_n ?_ | refine then_r ?_ | refine then_e ?_ | refine awp_skip ?_ | refine awp_label ?_ | refine awp_ret ?_ | refine awp_exit ?_ | refine awp_block ?_ | refine awp_scope ?_ | refine in_n ?_ | refine in_r ?_ | refine in_e ?_ | refine in_ne (by decide) ?_ | refine ng_n ?_ | refine ng_r ?_ | refine ng_e ?_)
    | (with_reducible refine awp_regT (by kernel_rfl) ?_; intro K hK)
    | (with_reducible refine a_cond (ht := ?_) (hf := ?_) <;> intro hb <;> (try simp at hb) <;> (try contradiction) <;> (try subst hb) <;> (try omega))
    | (with_reducible first | refine a_move (hr := ?_) | refine a_assign (hr := ?_) | refine a_load (hr := ?_) | refine a_fieldAddr (hr := ?_) | refine a_bin (hr := ?_) | refine a_store (hr := ?_) | refine a_box (hr := ?_) | refine a_alloc (hr := ?_) | refine a_eqB (hr := ?_) | refine a_neB (hr := ?_) | refine a_eqS (hr := ?_) | refine a_neS (hr := ?_) | refine a_callP (p := 100000) (hcall := k1) (hr := ?_) | refine a_callP (p := 100000) (hcall := k2) (hr := ?_) | refine a_callF (hcall := k3) (hr := ?_))
    | fail)
    all_goals ((refine hQ _ _ _ _ (by first | exact .inr rfl | exact .inl rfl) (by simp; exact .r) (by simp; exact .r) ?_))
    all_goals (exact Fin.keep (by simp; exact .r) (by simp; exact .r) (by simp; exact .r) (by simp))
theorem c_TakeArm (l : List Int) (hB : IsB l) (hl : l.length ≤ 1000) : CallD Try.prog 38 [.sl 1 (u8s l)] noHeap (.tup [(armR l).1.av, .raw (.int .i64 (armR l).2)]) noHeap := by
  have h : At l 0 l := ⟨Nat.zero_le _, rfl, hB, by omega⟩
  obtain ⟨a1, k1⟩ := c_whArm h 0
  have k0 := c_Read l (by omega)
  cases l with
  | nil =>
    simp only [armR]
    generalize armO ([], 0) = r at k1 ⊢
    obtain ⟨i, q⟩ := r
    generalize (armS ([], 0)).2.2 = q1 at k1
    obtain ⟨k, n, y, d⟩ := i
    simp only at k1 ⊢
    clear h
    refine calls_go (nt := 30) (rs := [.cell 2 24, .tmp 3]) Try.func38 rfl rfl rfl (by simp) (by intro id h; simp at h <;> omega) ?_; intro Q hQ hW
    repeat' (first
    | (with_reducible refine run_n ?_; with_reducible first | refine hK _ _ (by simp) ?_ | refine hK _ _ ?_; clear hK K)
    | (with_reducible first | refine awp_seq ?_ | refine then_n ?_ | refine then_r ?_ | refine then_e ?_ | refine awp_skip ?_ | refine awp_label ?_ | refine awp_ret ?_ | refine awp_exit ?_ | refine awp_block ?_ | refine awp_scope ?_ | refine in_n ?_ | refine in_r ?_ | refine in_e ?_ | refine in_ne (by decide) ?_ | refine ng_n ?_ | refine ng_r ?_ | refine ng_e ?_)
    | (with_reducible refine awp_regT (by kernel_rfl) ?_; intro K hK)
    | (with_reducible refine a_cond (ht := ?_) (hf := ?_) <;> intro hb <;> (try simp at hb) <;> (try contradiction) <;> (try subst hb) <;> (try omega))
    | (with_reducible first | refine a_move (hr := ?_) | refine a_assign (hr := ?_) | refine a_load (hr := ?_) | refine a_bin (hr := ?_) | refine a_lenS (hr := ?_) | refine a_lenR (hr := ?_) | refine a_extract (hr := ?_) | refine a_pick (hr := ?_) | refine a_store (hr := ?_) | refine a_alloc (hr := ?_) | refine a_makeFunc (hr := ?_) | refine a_idxArr (hr := ?_) | refine a_indexAddr (hr := ?_) | refine a_build (hr := ?_) | refine a_callB (hcall := k0) (hr := ?_) | refine a_callP (p := 22) (hcall := k1) (hr := ?_) | refine a_gT (hr := ?_) | refine a_gF (hr := ?_) | refine a_gU (hr := ?_))
    | (with_reducible refine a_gB (hT := ?_) (hF := ?_) <;> intro hb <;> (try simp at hb) <;> (try contradiction) <;> (try subst hb) <;> (try omega))
    | fail)
    all_goals ((refine hQ _ _ _ _ (by first | exact .inr rfl | exact .inl rfl) (by simp; exact .r) (by simp; exact .r) ?_))
    all_goals (exact Fin.drop (by simp; exact .r) (by simp))
  | cons c l =>
    have hc := (isB_cons.1 hB).1
    have hx : (c :: l)[0]? = some c := rfl
    have hlp : 0 < (c :: l).length := by simp
    simp only [armR]
    generalize c :: l = L at hx hlp hl h k1 k0 hB ⊢
    by_cases hr : c < 1 ∨ 3 < c
    · rw [if_pos hr]
      unfold Arm.z
      clear k1
      rcases Int.lt_or_le c 1 with h1 | h1
      · refine calls_go (nt := 30) (rs := [.cell 2 24, .tmp 3]) Try.func38 rfl rfl rfl (by simp) (by intro id h; simp at h <;> omega) ?_; intro Q hQ hW
        repeat' (first
    | (with_reducible refine run_n ?_; with_reducible first | refine hK _ _ (by simp) ?_ | refine hK _ _ ?_; clear hK K)
    | (with_reducible first | refine awp_seq ?_ | refine then_n ?_ | refine then_r ?_ | refine then_e ?_ | refine awp_skip ?_ | refine awp_label ?_ | refine awp_ret ?_ | refine awp_exit ?_ | refine awp_block ?_ | refine awp_scope ?_ | refine in_n ?_ | refine in_r ?_ | refine in_e ?_ | refine in_ne (by decide) ?_ | refine ng_n ?_ | refine ng_r ?_ | refine ng_e ?_)
    | (with_reducible refine awp_regT (by kernel_rfl) ?_; intro K hK)
    | (with_reducible refine a_cond (ht := ?_) (hf := ?_) <;> intro hb <;> (try simp at hb) <;> (try contradiction) <;> (try subst hb) <;> (try omega))
    | (with_reducible first | refine a_move (hr := ?_) | refine a_assign (hr := ?_) | refine a_load (hr := ?_) | refine a_bin (hr := ?_) | refine a_lenS (hr := ?_) | refine a_lenR (hr := ?_) | refine a_extract (hr := ?_) | refine a_pick (hr := ?_) | refine a_store (hr := ?_) | refine a_alloc (hr := ?_) | refine a_makeFunc (hr := ?_) | refine a_idxArr (hr := ?_) | refine a_indexAddr (hr := ?_) | refine a_build (hr := ?_) | refine a_callB (hcall := k0) (hr := ?_) | refine a_gT (hr := ?_) | refine a_gF (hr := ?_) | refine a_gU (hr := ?_))
    | (with_reducible refine a_gB (hT := ?_) (hF := ?_) <;> intro hb <;> (try simp at hb) <;> (try contradiction) <;> (try subst hb) <;> (try omega))
    | fail)
        all_goals ((refine hQ _ _ _ _ (by first | exact .inr rfl | exact .inl rfl) (by simp; exact .r) (by simp; exact .r) ?_))
        all_goals (exact Fin.drop (by simp; exact .r) (by simp))
      · have h2 : 3 < c := by omega
        refine calls_go (nt := 30) (rs := [.cell 2 24, .tmp 3]) Try.func38 rfl rfl rfl (by simp) (by intro id h; simp at h <;> omega) ?_; intro Q hQ hW
        repeat' (first
    | (with_reducible refine run_n ?_; with_reducible first | refine hK _ _ (by simp) ?_ | refine hK _ _ ?_; clear hK K)
    | (with_reducible first | refine awp_seq ?_ | refine then_n ?_ | refine then_r ?_ | refine then_e ?_ | refine awp_skip ?_ | refine awp_label ?_ | refine awp_ret ?_ | refine awp_exit ?_ | refine awp_block ?_ | refine awp_scope ?_ | refine in_n ?_ | refine in_r ?_ | refine in_e ?_ | refine in_ne (by decide) ?_ | refine ng_n ?_ | refine ng_r ?_ | refine ng_e ?_)
    | (with_reducible refine awp_regT (by kernel_rfl) ?_; intro K hK)
    | (with_reducible refine a_cond (ht := ?_) (hf := ?_) <;> intro hb <;> (try simp at hb) <;> (try contradiction) <;> (try subst hb) <;> (try omega))
    | (with_reducible first | refine a_move (hr := ?_) | refine a_assign (hr := ?_) | refine a_load (hr := ?_) | refine a_bin (hr := ?_) | refine a_lenS (hr := ?_) | refine a_lenR (hr := ?_) | refine a_extract (hr := ?_) | refine a_pick (hr := ?_) | refine a_store (hr := ?_) | refine a_alloc (hr := ?_) | refine a_makeFunc (hr := ?_) | refine a_idxArr (hr := ?_) | refine a_indexAddr (hr := ?_) | refine a_build (hr := ?_) | refine a_callB (hcall := k0) (hr := ?_) | refine a_gT (hr := ?_) | refine a_gF (hr := ?_) | refine a_gU (hr := ?_))
    | (with_reducible refine a_gB (hT := ?_) (hF := ?_) <;> intro hb <;> (try simp at hb) <;> (try contradiction) <;> (try subst hb) <;> (try omega))
    | fail)
        all_goals ((refine hQ _ _ _ _ (by first | exact .inr rfl | exact .inl rfl) (by simp; exact .r) (by simp; exact .r) ?_))
        all_goals (exact Fin.drop (by simp; exact .r) (by simp))
    · rw [if_neg hr]
      have h1 : ¬ c < 1 := fun h => hr (.inl h)
      have h2 : ¬ 3 < c := fun h => hr (.inr h)
      generalize armO (L, 0) = r at k1 ⊢
      obtain ⟨i, q⟩ := r
      generalize (armS (L, 0)).2.2 = q1 at k1
      obtain ⟨k, n, y, d⟩ := i
      simp only at k1 ⊢
      clear h hr
      refine calls_go (nt := 30) (rs := [.cell 2 24, .tmp 3]) Try.func38 rfl rfl rfl (by simp) (by intro id h; simp at h <;> omega) ?_; intro Q hQ hW
      repeat' (first
    | (with_reducible refine run_n ?_; with_reducible first | refine hK _ _ (by simp) ?_ | refine hK _ _ ?_; clear hK K)
    | (with_reducible first | refine awp_seq ?_ | refine then_n ?_ | refine then_r ?_ | refine then_e ?_ | refine awp_skip ?_ | refine awp_label ?_ | refine awp_ret ?_ | refine awp_exit ?_ | refine awp_block ?_ | refine awp_scope ?_ | refine in_n ?_ | refine in_r ?_ | refine in_e ?_ | refine in_ne (by decide) ?_ | refine ng_n ?_ | refine ng_r ?_ | refine ng_e ?_)
    | (with_reducible refine awp_regT (by kernel_rfl) ?_; intro K hK)
    | (with_reducible refine a_cond (ht := ?_) (hf := ?_) <;> intro hb <;> (try simp at hb) <;> (try contradiction) <;> (try subst hb) <;> (try omega))
    | (with_reducible first | refine a_move (hr := ?_) | refine a_assign (hr := ?_) | refine a_load (hr := ?_) | refine a_bin (hr := ?_) | refine a_lenS (hr := ?_) | refine a_lenR (hr := ?_) | refine a_extract (hr := ?_) | refine a_pick (hr := ?_) | refine a_store (hr := ?_) | refine a_alloc (hr := ?_) | refine a_makeFunc (hr := ?_) | refine a_idxArr (hr := ?_) | refine a_indexAddr (hr := ?_) | refine a_build (hr := ?_) | refine a_callB (hcall := k0) (hr := ?_) | refine a_callP (p := 22) (hcall := k1) (hr := ?_) | refine a_gT (hr := ?_) | refine a_gF (hr := ?_) | refine a_gU (hr := ?_))
    | (with_reducible refine a_gB (hT := ?_) (hF := ?_) <;> intro hb <;> (try simp at hb) <;> (try contradiction) <;> (try subst hb) <;> (try omega))
    | fail)
      all_goals ((refine hQ _ _ _ _ (by first | exact .inr rfl | exact .inl rfl) (by simp; exact .r) (by simp; exact .r) ?_))
      all_goals (exact Fin.drop (by simp; exact .r) (by simp))
end Go.Proofs.Ytdbdajmgfajcpaa.Asl

namespace Go.Proofs.Ytdbdajmgfajcpaa.Asl
open Go Go.RowKit
set_option linter.unusedVariables false
set_option linter.unusedSimpArgs false
set_option maxRecDepth 100000
set_option maxHeartbeats 4000000
theorem takeV_le {l : List Int} (hB : IsB l) : 0 ≤ (takeV l).2.1 ∧ (takeV l).2.1 ≤ l.length := by
  cases l with
  | nil => exact ⟨Int.le_refl _, Int.le_refl _⟩
  | cons c l =>
    obtain ⟨_, hB⟩ := isB_cons.1 hB
    have h1 := dI_le hB
    have h2 := dT_le hB 64
    simp only [takeV, List.length_cons]
    repeat' split
    all_goals simp only <;> omega
/-- The variables that are read, or what is wrong. -/
def tvL : Nat → RSt → List VarV → Int × RSt × List VarV
  | 0, s, out => (0, s, out)
  | n + 1, s, out =>
    if (sT 16 s).2.2 ≠ 0 then ((sT 16 s).2.2, s, [])
    else if (takeV (sT 16 s).2.1).2.2 ≠ 0 then ((takeV (sT 16 s).2.1).2.2, s, [])
    else tvL n ((sT 16 s).2.1.drop (takeV (sT 16 s).2.1).2.1.toNat, 0) (out ++ [⟨(sT 16 s).1, (takeV (sT 16 s).2.1).1.1, (takeV (sT 16 s).2.1).1.2.1, (takeV (sT 16 s).2.1).1.2.2⟩])
def endV (q : Int) (out : List VarV) : Int := if q ≠ 0 then q else varsE out
def varsF (T : Int × RSt × List VarV) : List VarV × Int := if T.1 ≠ 0 then ([], T.1) else outR [] T.2.2 (endV (endE T.2.1.1 T.2.1.2) T.2.2)
def varsR (l : List Int) : List VarV × Int := varsF (tvL (sU 8 (l, 0)).1.toNat (sU 8 (l, 0)).2 [])
theorem At.drop {l : List Int} (n : Nat) (hB : IsB l) (hl : l.length ≤ 1000) : At (l.drop n) 0 (l.drop n) := ⟨Nat.zero_le _, rfl, isB_drop hB n, by rw [List.length_drop]; omega⟩
theorem At.left {bs l : List Int} {a : Nat} (h : At bs a l) : (bs.length : Int) - a = l.length := by
  have h1 := h.le
  rw [← h.eq, List.length_drop]; omega
structure TvI (l : List Int) (n : Nat) (T : Int × RSt × List VarV) (i : Nat) (bs : List Int) (a : Nat) (m : List Int) (e : Int) (out : List VarV) : Prop where
  at_ : At bs a m
  suf : l.drop (l.length - m.length) = m
  le : m.length ≤ l.length
  iN : i ≤ n
  eq : tvL (n - i) (m, e) out = T
  ol : out.length ≤ i
  nm : ∀ x ∈ out, x.n.size < 9223372036854775808
theorem suf_drop {l m : List Int} (h : l.drop (l.length - m.length) = m) (hle : m.length ≤ l.length) (k : Nat) : l.drop (l.length - (m.drop k).length) = m.drop k ∧ (m.drop k).length ≤ l.length := by
  refine ⟨?_, by rw [List.length_drop]; omega⟩
  by_cases hk : k ≤ m.length
  · conv => rhs; rw [← h]
    rw [List.drop_drop, List.length_drop]
    congr 1
    omega
  · have e : m.drop k = [] := List.drop_of_length_le (by omega)
    rw [e]
    simp
@[simp] theorem rens_vapp (l : List VarV) (x : AV) (hx : x.noid = true) (π : Nat → Nat) : AV.rens π (l.map varAV ++ [x]) = l.map varAV ++ [x] := rens_of (noids_app (by simp) (by simp [AV.noids, hx])) π
@[simp] theorem withins_vapp (l : List VarV) (x : AV) (hx : x.noid = true) (h : Hp) : AV.withins h (l.map varAV ++ [x]) = true := withins_of (noids_app (by simp) (by simp [AV.noids, hx])) h
@[simp] theorem take_vars (l : List VarV) : List.take l.length (l.map varAV) = l.map varAV := List.take_of_length_le (by simp)
structure TvS where
  i : Nat
  first : Bool
  bs : List Int
  a : Nat
  m : List Int
  e : Int
  out : List VarV
theorem c_TakeVars (l : List Int) (hB : IsB l) (hl : l.length ≤ 1000) : CallD Try.prog 40 [.sl 1 (u8s l)] noHeap (.tup [.sl 4 ((varsR l).1.map varAV), .raw (.int .i64 (varsR l).2)]) noHeap := by
  have h : At l 0 l := ⟨Nat.zero_le _, rfl, hB, by omega⟩
  have k0 := c_Read l (by omega)
  obtain ⟨a1, g1, k1⟩ := x_U h 0 8
  have w1 := r_U hB 0 (most := 8) (by omega)
  have s1 : l.drop (l.length - (sU 8 (l, 0)).2.1.length) = (sU 8 (l, 0)).2.1 ∧ (sU 8 (l, 0)).2.1.length ≤ l.length := suf_drop (by simp) (Nat.le_refl _) _
  simp only [varsR]
  generalize sU 8 (l, 0) = u at g1 k1 w1 s1 ⊢
  obtain ⟨n, m1, e1⟩ := u
  simp only at g1 k1 w1 s1 ⊢
  obtain ⟨N, hN⟩ : ∃ N : Nat, n = N := ⟨n.toNat, by omega⟩
  subst hN
  rw [Int.toNat_natCast]
  obtain ⟨T, hT⟩ : ∃ T, tvL N (m1, e1) [] = T := ⟨_, rfl⟩
  rw [hT]
  obtain ⟨R, hR⟩ : ∃ R, varsF T = R := ⟨_, rfl⟩
  rw [hR]
  have start : TvI l N T 0 l a1 m1 e1 [] := ⟨g1, s1.1, s1.2, Nat.zero_le _, hT, Nat.le_refl _, by simp⟩
  clear g1 s1 h hT
  refine calls_go (nt := 68) (rs := [.tmp 2, .tmp 3]) Try.func40 rfl rfl rfl (by simp) (by intro id h; simp at h <;> omega) ?_; intro Q hQ hW
  repeat' (first
    | (with_reducible refine run_n ?_; with_reducible first | refine hK _ _ (by simp) ?_ | refine hK _ _ ?_; clear hK K)
    | (with_reducible first | refine awp_seq ?_ | refine then_n ?_ | refine then_r ?_ | refine then_e ?_ | refine awp_skip ?_ | refine awp_label ?_ | refine awp_ret ?_ | refine awp_exit ?_ | refine awp_block ?_ | refine awp_scope ?_ | refine in_n ?_ | refine in_r ?_ | refine in_e ?_ | refine in_ne (by decide) ?_ | refine ng_n ?_ | refine ng_r ?_ | refine ng_e ?_)
    | (with_reducible refine awp_regT (by kernel_rfl) ?_; intro K hK)
    | (with_reducible refine a_cond (ht := ?_) (hf := ?_) <;> intro hb <;> (try simp at hb) <;> (try contradiction) <;> (try subst hb) <;> (try omega))
    | (with_reducible first | refine a_move (hr := ?_) | refine a_assign (hr := ?_) | refine a_load (hr := ?_) | refine a_fieldAddr (hr := ?_) | refine a_bin (hr := ?_) | refine a_lenS (hr := ?_) | refine a_lenR (hr := ?_) | refine a_extract (hr := ?_) | refine a_store (hr := ?_) | refine a_alloc (hr := ?_) | refine a_neB (hr := ?_) | refine a_conv (hr := ?_) | refine a_bytesStr (hr := ?_) | refine a_strBytes (hr := ?_) | refine a_sliceArr (hr := ?_) | refine a_neS (hr := ?_) | refine a_sliceS (hr := ?_) | refine a_sliceR (hr := ?_) | refine a_build (hr := ?_) | refine a_buildSlice (hr := ?_) | refine a_append (hr := ?_) | refine a_append0 (hr := ?_) | refine a_appendX (hr := ?_) | refine a_callB (hcall := k0) (hr := ?_) | refine a_callP (p := 15) (hcall := k1) (hr := ?_))
    | fail)
  refine awp_inv (α := TvS) (fun s => [(0, .sl 1 (u8s l)), (4, .ptr (if s.first = true then 15 else 61) 0), (6, orow 60 4 (s.out.map varAV)), (19, .raw (.int .i64 N)), (20, .raw (.int .i64 s.i))]) (fun s => ohp 60 4 (s.out.map varAV) (hpL [((if s.first = true then 15 else 61), .box (rdAV s.bs s.a s.e))])) (fun s => TvI l N T s.i s.bs s.a s.m s.e s.out) (fun s => N - s.i) ⟨0, true, l, a1, m1, e1, []⟩ start (weak_o (by repeat' (first | refine sub_ohp (by first | (simp; done) | (intro hne; simp at hne; simp [hne])) (by simp) ?_ | exact sub_hpL (by simp))) (by simp) (by simp <;> omega)) ?_
  rintro ⟨i, first, bs, a, m, e, out⟩ ⟨g2, g3, g4, g5, g6, g7, g8⟩
  simp only at g2 g3 g4 g5 g6 g7 g8 ⊢
  cases first with
  | true =>
    simp only [if_true]
    rcases Nat.lt_or_ge i N with hlt | hge
    · obtain ⟨k, hk⟩ : ∃ k, N - i = k + 1 := ⟨N - i - 1, by omega⟩
      rw [hk] at g6
      simp only [tvL] at g6
      obtain ⟨a2, p1, q1⟩ := x_T g2 e 16 (by omega)
      have z1 := r_T m e 16
      have s2 : l.drop (l.length - (sT 16 (m, e)).2.1.length) = (sT 16 (m, e)).2.1 ∧ (sT 16 (m, e)).2.1.length ≤ l.length := suf_drop g3 g4 _
      generalize sT 16 (m, e) = r at p1 q1 z1 s2 g6
      obtain ⟨v, m2, e2⟩ := r
      simp only at p1 q1 z1 s2 g6
      have q2 := c_Err bs a2 e2
      by_cases he : e2 = 0
      · subst he
        simp only [ne_eq, not_true_eq_false, if_false] at g6
        have q3 := c_Left bs a2 0 (by have := p1.lt; omega) p1.le
        rw [p1.left] at q3
        have hBm : IsB m2 := p1.b
        have q4 := c_Take m2 hBm (by omega)
        have z4 := takeV_le hBm
        rw [show u8s m2 = u8s (List.drop (l.length - m2.length) l) by rw [s2.1]] at q4
        generalize takeV m2 = t at q4 z4 g6
        obtain ⟨⟨vk, vn, vs⟩, kk, q⟩ := t
        simp only at q4 z4 g6
        by_cases hq : q = 0
        · subst hq
          simp only [ne_eq, not_true_eq_false, if_false] at g6
          obtain ⟨KK, hk0⟩ : ∃ KK : Nat, kk = KK := ⟨kk.toNat, by omega⟩
          subst hk0
          rw [Int.toNat_natCast] at g6
          have hE : List.drop KK (List.take (l.length - (l.length - m2.length)) (List.drop (l.length - m2.length) l)) = m2.drop KK := by rw [List.take_of_length_le (by rw [List.length_drop]; omega), s2.1]
          have q5 := c_Read (List.drop KK (List.take (l.length - (l.length - m2.length)) (List.drop (l.length - m2.length) l))) (by rw [hE, List.length_drop]; omega)
          have s3 := suf_drop s2.1 s2.2 KK
          have s4 : At (List.drop KK (List.take (l.length - (l.length - m2.length)) (List.drop (l.length - m2.length) l))) 0 (m2.drop KK) := by rw [hE]; exact At.drop KK hBm (by omega)
          have s21 := s2.1
          have s22 := s2.2
          repeat' (first
    | (with_reducible refine run_n ?_; with_reducible first | refine hK _ _ (by simp) ?_ | refine hK _ _ ?_; clear hK K)
    | (with_reducible first | refine awp_seq ?_ | refine then_n ?_ | refine then_r ?_ | refine then_e ?_ | refine awp_skip ?_ | refine awp_label ?_ | refine awp_ret ?_ | refine awp_exit ?_ | refine awp_block ?_ | refine awp_scope ?_ | refine in_n ?_ | refine in_r ?_ | refine in_e ?_ | refine in_ne (by decide) ?_ | refine ng_n ?_ | refine ng_r ?_ | refine ng_e ?_)
    | (with_reducible refine awp_regT (by kernel_rfl) ?_; intro K hK)
    | (with_reducible refine a_cond (ht := ?_) (hf := ?_) <;> intro hb <;> (try simp at hb) <;> (try contradiction) <;> (try subst hb) <;> (try omega))
    | (with_reducible first | refine a_move (hr := ?_) | refine a_assign (hr := ?_) | refine a_load (hr := ?_) | refine a_fieldAddr (hr := ?_) | refine a_bin (hr := ?_) | refine a_lenS (hr := ?_) | refine a_lenR (hr := ?_) | refine a_extract (hr := ?_) | refine a_store (hr := ?_) | refine a_alloc (hr := ?_) | refine a_neB (hr := ?_) | refine a_conv (hr := ?_) | refine a_bytesStr (hr := ?_) | refine a_strBytes (hr := ?_) | refine a_sliceArr (hr := ?_) | refine a_neS (hr := ?_) | refine a_sliceS (hr := ?_) | refine a_sliceR (hr := ?_) | refine a_build (hr := ?_) | refine a_buildSlice (hr := ?_) | refine a_append (hr := ?_) | refine a_append0 (hr := ?_) | refine a_appendX (hr := ?_) | refine a_callP (p := 15) (hcall := q1) (hr := ?_) | refine a_callP (p := 15) (hcall := q2) (hr := ?_) | refine a_callP (p := 15) (hcall := q3) (hr := ?_) | refine a_callF (hcall := q4) (hr := ?_) | refine a_callB (hcall := q5) (hr := ?_))
    | fail)
          exact ⟨⟨i + 1, false, List.drop KK (List.take (l.length - (l.length - m2.length)) (List.drop (l.length - m2.length) l)), 0, m2.drop KK, 0, out ++ [⟨v, vk, vn, vs⟩]⟩, Nat.sub_lt_sub_left hlt (Nat.lt_succ_self i), ⟨s4, s3.1, s3.2, hlt, by rw [show N - (i + 1) = k by omega]; exact g6, by simp; omega, by simp only [List.mem_append, List.mem_singleton]; rintro x (hx | rfl); exact g8 x hx; simp only; omega⟩, weak_or2 60 51 61 55 (by decide) (by decide) (by decide) (by decide) (by repeat' (first | refine sub_ohp (by first | (simp; done) | (intro hne; simp at hne; simp [hne])) (by simp) ?_ | exact sub_hpL (by simp))) (by simp) (by simp <;> omega)⟩
        · rw [if_pos hq] at g6
          have hF : R = ([], q) := by rw [← hR, ← g6]; simp only [varsF]; rw [if_pos hq]
          rw [hF] at hQ
          repeat' (first
    | (with_reducible refine run_n ?_; with_reducible first | refine hK _ _ (by simp) ?_ | refine hK _ _ ?_; clear hK K)
    | (with_reducible first | refine awp_seq ?_ | refine then_n ?_ | refine then_r ?_ | refine then_e ?_ | refine awp_skip ?_ | refine awp_label ?_ | refine awp_ret ?_ | refine awp_exit ?_ | refine awp_block ?_ | refine awp_scope ?_ | refine in_n ?_ | refine in_r ?_ | refine in_e ?_ | refine in_ne (by decide) ?_ | refine ng_n ?_ | refine ng_r ?_ | refine ng_e ?_)
    | (with_reducible refine awp_regT (by kernel_rfl) ?_; intro K hK)
    | (with_reducible refine a_cond (ht := ?_) (hf := ?_) <;> intro hb <;> (try simp at hb) <;> (try contradiction) <;> (try subst hb) <;> (try omega))
    | (with_reducible first | refine a_move (hr := ?_) | refine a_assign (hr := ?_) | refine a_load (hr := ?_) | refine a_fieldAddr (hr := ?_) | refine a_bin (hr := ?_) | refine a_lenS (hr := ?_) | refine a_lenR (hr := ?_) | refine a_extract (hr := ?_) | refine a_store (hr := ?_) | refine a_alloc (hr := ?_) | refine a_neB (hr := ?_) | refine a_conv (hr := ?_) | refine a_bytesStr (hr := ?_) | refine a_strBytes (hr := ?_) | refine a_sliceArr (hr := ?_) | refine a_neS (hr := ?_) | refine a_sliceS (hr := ?_) | refine a_sliceR (hr := ?_) | refine a_build (hr := ?_) | refine a_buildSlice (hr := ?_) | refine a_append (hr := ?_) | refine a_append0 (hr := ?_) | refine a_appendX (hr := ?_) | refine a_callP (p := 15) (hcall := q1) (hr := ?_) | refine a_callP (p := 15) (hcall := q2) (hr := ?_) | refine a_callP (p := 15) (hcall := q3) (hr := ?_) | refine a_callF (hcall := q4) (hr := ?_))
    | fail)
          (refine hQ _ _ _ _ (by first | exact .inr rfl | exact .inl rfl) (by simp; exact .r) (by simp; exact .r) ?_)
          exact (Fin.drop (by simp; exact .r) (by simp)).trans Fin.tupNil
      · rw [if_pos he] at g6
        have hF : R = ([], e2) := by rw [← hR, ← g6]; simp only [varsF]; rw [if_pos he]
        rw [hF] at hQ
        repeat' (first
    | (with_reducible refine run_n ?_; with_reducible first | refine hK _ _ (by simp) ?_ | refine hK _ _ ?_; clear hK K)
    | (with_reducible first | refine awp_seq ?_ | refine then_n ?_ | refine then_r ?_ | refine then_e ?_ | refine awp_skip ?_ | refine awp_label ?_ | refine awp_ret ?_ | refine awp_exit ?_ | refine awp_block ?_ | refine awp_scope ?_ | refine in_n ?_ | refine in_r ?_ | refine in_e ?_ | refine in_ne (by decide) ?_ | refine ng_n ?_ | refine ng_r ?_ | refine ng_e ?_)
    | (with_reducible refine awp_regT (by kernel_rfl) ?_; intro K hK)
    | (with_reducible refine a_cond (ht := ?_) (hf := ?_) <;> intro hb <;> (try simp at hb) <;> (try contradiction) <;> (try subst hb) <;> (try omega))
    | (with_reducible first | refine a_move (hr := ?_) | refine a_assign (hr := ?_) | refine a_load (hr := ?_) | refine a_fieldAddr (hr := ?_) | refine a_bin (hr := ?_) | refine a_lenS (hr := ?_) | refine a_lenR (hr := ?_) | refine a_extract (hr := ?_) | refine a_store (hr := ?_) | refine a_alloc (hr := ?_) | refine a_neB (hr := ?_) | refine a_conv (hr := ?_) | refine a_bytesStr (hr := ?_) | refine a_strBytes (hr := ?_) | refine a_sliceArr (hr := ?_) | refine a_neS (hr := ?_) | refine a_sliceS (hr := ?_) | refine a_sliceR (hr := ?_) | refine a_build (hr := ?_) | refine a_buildSlice (hr := ?_) | refine a_append (hr := ?_) | refine a_append0 (hr := ?_) | refine a_appendX (hr := ?_) | refine a_callP (p := 15) (hcall := q1) (hr := ?_) | refine a_callP (p := 15) (hcall := q2) (hr := ?_))
    | fail)
        (refine hQ _ _ _ _ (by first | exact .inr rfl | exact .inl rfl) (by simp; exact .r) (by simp; exact .r) ?_)
        exact (Fin.drop (by simp; exact .r) (by simp)).trans Fin.tupNil
    · obtain rfl : i = N := by omega
      rw [Nat.sub_self] at g6
      simp only [tvL] at g6
      have hF : R = outR [] out (endV (endE m e) out) := by rw [← hR, ← g6]; rfl
      have q6 := x_End g2 e
      generalize endE m e = q at q6 hF
      by_cases hq : q = 0
      · subst hq
        have hF : R = outR [] out (varsE out) := hF
        have q7 := c_Vars out (by omega) g8
        by_cases ho : out = []
        · subst ho
          have hF : R = ([], 0) := hF
          have q8 : CallD Try.prog 71 [.raw (.slice none 0 0)] noHeap (.raw (.int .i64 0)) noHeap := CallD.nil1 q7
          rw [hF] at hQ
          repeat' (first
    | (with_reducible refine run_n ?_; with_reducible first | refine hK _ _ (by simp) ?_ | refine hK _ _ ?_; clear hK K)
    | (with_reducible first | refine awp_seq ?_ | refine then_n ?_ | refine then_r ?_ | refine then_e ?_ | refine awp_skip ?_ | refine awp_label ?_ | refine awp_ret ?_ | refine awp_exit ?_ | refine awp_block ?_ | refine awp_scope ?_ | refine in_n ?_ | refine in_r ?_ | refine in_e ?_ | refine in_ne (by decide) ?_ | refine ng_n ?_ | refine ng_r ?_ | refine ng_e ?_)
    | (with_reducible refine awp_regT (by kernel_rfl) ?_; intro K hK)
    | (with_reducible refine a_cond (ht := ?_) (hf := ?_) <;> intro hb <;> (try simp at hb) <;> (try contradiction) <;> (try subst hb) <;> (try omega))
    | (with_reducible first | refine a_move (hr := ?_) | refine a_assign (hr := ?_) | refine a_load (hr := ?_) | refine a_fieldAddr (hr := ?_) | refine a_bin (hr := ?_) | refine a_lenS (hr := ?_) | refine a_lenR (hr := ?_) | refine a_extract (hr := ?_) | refine a_store (hr := ?_) | refine a_alloc (hr := ?_) | refine a_neB (hr := ?_) | refine a_conv (hr := ?_) | refine a_bytesStr (hr := ?_) | refine a_strBytes (hr := ?_) | refine a_sliceArr (hr := ?_) | refine a_neS (hr := ?_) | refine a_sliceS (hr := ?_) | refine a_sliceR (hr := ?_) | refine a_build (hr := ?_) | refine a_buildSlice (hr := ?_) | refine a_append (hr := ?_) | refine a_append0 (hr := ?_) | refine a_appendX (hr := ?_) | refine a_callP (p := 15) (hcall := q6) (hr := ?_) | refine a_callF (hcall := q8) (hr := ?_))
    | fail)
          (refine hQ _ _ _ _ (by first | exact .inr rfl | exact .inl rfl) (by simp; exact .r) (by simp; exact .r) ?_)
          exact (Fin.drop (by simp; exact .r) (by simp)).trans Fin.tupNil
        · generalize varsE out = w at q7 hF
          have hne : out.map varAV ≠ [] := by simpa using ho
          rw [orow_ne hne, ohp_ne hne]
          by_cases hw : w = 0
          · subst hw
            have hF : R = (out, 0) := hF
            rw [hF] at hQ
            repeat' (first
    | (with_reducible refine run_n ?_; with_reducible first | refine hK _ _ (by simp) ?_ | refine hK _ _ ?_; clear hK K)
    | (with_reducible first | refine awp_seq ?_ | refine then_n ?_ | refine then_r ?_ | refine then_e ?_ | refine awp_skip ?_ | refine awp_label ?_ | refine awp_ret ?_ | refine awp_exit ?_ | refine awp_block ?_ | refine awp_scope ?_ | refine in_n ?_ | refine in_r ?_ | refine in_e ?_ | refine in_ne (by decide) ?_ | refine ng_n ?_ | refine ng_r ?_ | refine ng_e ?_)
    | (with_reducible refine awp_regT (by kernel_rfl) ?_; intro K hK)
    | (with_reducible refine a_cond (ht := ?_) (hf := ?_) <;> intro hb <;> (try simp at hb) <;> (try contradiction) <;> (try subst hb) <;> (try omega))
    | (with_reducible first | refine a_move (hr := ?_) | refine a_assign (hr := ?_) | refine a_load (hr := ?_) | refine a_fieldAddr (hr := ?_) | refine a_bin (hr := ?_) | refine a_lenS (hr := ?_) | refine a_lenR (hr := ?_) | refine a_extract (hr := ?_) | refine a_store (hr := ?_) | refine a_alloc (hr := ?_) | refine a_neB (hr := ?_) | refine a_conv (hr := ?_) | refine a_bytesStr (hr := ?_) | refine a_strBytes (hr := ?_) | refine a_sliceArr (hr := ?_) | refine a_neS (hr := ?_) | refine a_sliceS (hr := ?_) | refine a_sliceR (hr := ?_) | refine a_build (hr := ?_) | refine a_buildSlice (hr := ?_) | refine a_append (hr := ?_) | refine a_append0 (hr := ?_) | refine a_appendX (hr := ?_) | refine a_callP (p := 15) (hcall := q6) (hr := ?_) | refine a_callF (hcall := q7) (hr := ?_))
    | fail)
            (refine hQ _ _ _ _ (by first | exact .inr rfl | exact .inl rfl) (by simp; exact .r) (by simp; exact .r) ?_)
            exact Fin.trans (Fin.frzR (r' := .tup [.sl 4 (out.map varAV), .raw (.int .i64 0)]) (by simp; exact .r) (by simp [List.take_of_length_le]; exact .r) (by simp; exact .r) (by simp)) (Fin.refl _ _)
          · rw [outR_n _ _ hw] at hF
            rw [hF] at hQ
            repeat' (first
    | (with_reducible refine run_n ?_; with_reducible first | refine hK _ _ (by simp) ?_ | refine hK _ _ ?_; clear hK K)
    | (with_reducible first | refine awp_seq ?_ | refine then_n ?_ | refine then_r ?_ | refine then_e ?_ | refine awp_skip ?_ | refine awp_label ?_ | refine awp_ret ?_ | refine awp_exit ?_ | refine awp_block ?_ | refine awp_scope ?_ | refine in_n ?_ | refine in_r ?_ | refine in_e ?_ | refine in_ne (by decide) ?_ | refine ng_n ?_ | refine ng_r ?_ | refine ng_e ?_)
    | (with_reducible refine awp_regT (by kernel_rfl) ?_; intro K hK)
    | (with_reducible refine a_cond (ht := ?_) (hf := ?_) <;> intro hb <;> (try simp at hb) <;> (try contradiction) <;> (try subst hb) <;> (try omega))
    | (with_reducible first | refine a_move (hr := ?_) | refine a_assign (hr := ?_) | refine a_load (hr := ?_) | refine a_fieldAddr (hr := ?_) | refine a_bin (hr := ?_) | refine a_lenS (hr := ?_) | refine a_lenR (hr := ?_) | refine a_extract (hr := ?_) | refine a_store (hr := ?_) | refine a_alloc (hr := ?_) | refine a_neB (hr := ?_) | refine a_conv (hr := ?_) | refine a_bytesStr (hr := ?_) | refine a_strBytes (hr := ?_) | refine a_sliceArr (hr := ?_) | refine a_neS (hr := ?_) | refine a_sliceS (hr := ?_) | refine a_sliceR (hr := ?_) | refine a_build (hr := ?_) | refine a_buildSlice (hr := ?_) | refine a_append (hr := ?_) | refine a_append0 (hr := ?_) | refine a_appendX (hr := ?_) | refine a_callP (p := 15) (hcall := q6) (hr := ?_) | refine a_callF (hcall := q7) (hr := ?_))
    | fail)
            (refine hQ _ _ _ _ (by first | exact .inr rfl | exact .inl rfl) (by simp; exact .r) (by simp; exact .r) ?_)
            exact (Fin.drop (by simp; exact .r) (by simp)).trans Fin.tupNil
      · have hF : R = ([], q) := by rw [hF]; unfold endV; rw [if_pos hq, outR_n _ _ hq]
        rw [hF] at hQ
        repeat' (first
    | (with_reducible refine run_n ?_; with_reducible first | refine hK _ _ (by simp) ?_ | refine hK _ _ ?_; clear hK K)
    | (with_reducible first | refine awp_seq ?_ | refine then_n ?_ | refine then_r ?_ | refine then_e ?_ | refine awp_skip ?_ | refine awp_label ?_ | refine awp_ret ?_ | refine awp_exit ?_ | refine awp_block ?_ | refine awp_scope ?_ | refine in_n ?_ | refine in_r ?_ | refine in_e ?_ | refine in_ne (by decide) ?_ | refine ng_n ?_ | refine ng_r ?_ | refine ng_e ?_)
    | (with_reducible refine awp_regT (by kernel_rfl) ?_; intro K hK)
    | (with_reducible refine a_cond (ht := ?_) (hf := ?_) <;> intro hb <;> (try simp at hb) <;> (try contradiction) <;> (try subst hb) <;> (try omega))
    | (with_reducible first | refine a_move (hr := ?_) | refine a_assign (hr := ?_) | refine a_load (hr := ?_) | refine a_fieldAddr (hr := ?_) | refine a_bin (hr := ?_) | refine a_lenS (hr := ?_) | refine a_lenR (hr := ?_) | refine a_extract (hr := ?_) | refine a_store (hr := ?_) | refine a_alloc (hr := ?_) | refine a_neB (hr := ?_) | refine a_conv (hr := ?_) | refine a_bytesStr (hr := ?_) | refine a_strBytes (hr := ?_) | refine a_sliceArr (hr := ?_) | refine a_neS (hr := ?_) | refine a_sliceS (hr := ?_) | refine a_sliceR (hr := ?_) | refine a_build (hr := ?_) | refine a_buildSlice (hr := ?_) | refine a_append (hr := ?_) | refine a_append0 (hr := ?_) | refine a_appendX (hr := ?_) | refine a_callP (p := 15) (hcall := q6) (hr := ?_))
    | fail)
        (refine hQ _ _ _ _ (by first | exact .inr rfl | exact .inl rfl) (by simp; exact .r) (by simp; exact .r) ?_)
        exact (Fin.drop (by simp; exact .r) (by simp)).trans Fin.tupNil
  | false =>
    simp only [Bool.false_eq_true, if_false]
    rcases Nat.lt_or_ge i N with hlt | hge
    · obtain ⟨k, hk⟩ : ∃ k, N - i = k + 1 := ⟨N - i - 1, by omega⟩
      rw [hk] at g6
      simp only [tvL] at g6
      obtain ⟨a2, p1, q1⟩ := x_T g2 e 16 (by omega)
      have z1 := r_T m e 16
      have s2 : l.drop (l.length - (sT 16 (m, e)).2.1.length) = (sT 16 (m, e)).2.1 ∧ (sT 16 (m, e)).2.1.length ≤ l.length := suf_drop g3 g4 _
      generalize sT 16 (m, e) = r at p1 q1 z1 s2 g6
      obtain ⟨v, m2, e2⟩ := r
      simp only at p1 q1 z1 s2 g6
      have q2 := c_Err bs a2 e2
      by_cases he : e2 = 0
      · subst he
        simp only [ne_eq, not_true_eq_false, if_false] at g6
        have q3 := c_Left bs a2 0 (by have := p1.lt; omega) p1.le
        rw [p1.left] at q3
        have hBm : IsB m2 := p1.b
        have q4 := c_Take m2 hBm (by omega)
        have z4 := takeV_le hBm
        rw [show u8s m2 = u8s (List.drop (l.length - m2.length) l) by rw [s2.1]] at q4
        generalize takeV m2 = t at q4 z4 g6
        obtain ⟨⟨vk, vn, vs⟩, kk, q⟩ := t
        simp only at q4 z4 g6
        by_cases hq : q = 0
        · subst hq
          simp only [ne_eq, not_true_eq_false, if_false] at g6
          obtain ⟨KK, hk0⟩ : ∃ KK : Nat, kk = KK := ⟨kk.toNat, by omega⟩
          subst hk0
          rw [Int.toNat_natCast] at g6
          have hE : List.drop KK (List.take (l.length - (l.length - m2.length)) (List.drop (l.length - m2.length) l)) = m2.drop KK := by rw [List.take_of_length_le (by rw [List.length_drop]; omega), s2.1]
          have q5 := c_Read (List.drop KK (List.take (l.length - (l.length - m2.length)) (List.drop (l.length - m2.length) l))) (by rw [hE, List.length_drop]; omega)
          have s3 := suf_drop s2.1 s2.2 KK
          have s4 : At (List.drop KK (List.take (l.length - (l.length - m2.length)) (List.drop (l.length - m2.length) l))) 0 (m2.drop KK) := by rw [hE]; exact At.drop KK hBm (by omega)
          have s21 := s2.1
          have s22 := s2.2
          repeat' (first
    | (with_reducible refine run_n ?_; with_reducible first | refine hK _ _ (by simp) ?_ | refine hK _ _ ?_; clear hK K)
    | (with_reducible first | refine awp_seq ?_ | refine then_n ?_ | refine then_r ?_ | refine then_e ?_ | refine awp_skip ?_ | refine awp_label ?_ | refine awp_ret ?_ | refine awp_exit ?_ | refine awp_block ?_ | refine awp_scope ?_ | refine in_n ?_ | refine in_r ?_ | refine in_e ?_ | refine in_ne (by decide) ?_ | refine ng_n ?_ | refine ng_r ?_ | refine ng_e ?_)
    | (with_reducible refine awp_regT (by kernel_rfl) ?_; intro K hK)
    | (with_reducible refine a_cond (ht := ?_) (hf := ?_) <;> intro hb <;> (try simp at hb) <;> (try contradiction) <;> (try subst hb) <;> (try omega))
    | (with_reducible first | refine a_move (hr := ?_) | refine a_assign (hr := ?_) | refine a_load (hr := ?_) | refine a_fieldAddr (hr := ?_) | refine a_bin (hr := ?_) | refine a_lenS (hr := ?_) | refine a_lenR (hr := ?_) | refine a_extract (hr := ?_) | refine a_store (hr := ?_) | refine a_alloc (hr := ?_) | refine a_neB (hr := ?_) | refine a_conv (hr := ?_) | refine a_bytesStr (hr := ?_) | refine a_strBytes (hr := ?_) | refine a_sliceArr (hr := ?_) | refine a_neS (hr := ?_) | refine a_sliceS (hr := ?_) | refine a_sliceR (hr := ?_) | refine a_build (hr := ?_) | refine a_buildSlice (hr := ?_) | refine a_append (hr := ?_) | refine a_append0 (hr := ?_) | refine a_appendX (hr := ?_) | refine a_callP (p := 61) (hcall := q1) (hr := ?_) | refine a_callP (p := 61) (hcall := q2) (hr := ?_) | refine a_callP (p := 61) (hcall := q3) (hr := ?_) | refine a_callF (hcall := q4) (hr := ?_) | refine a_callB (hcall := q5) (hr := ?_))
    | fail)
          exact ⟨⟨i + 1, false, List.drop KK (List.take (l.length - (l.length - m2.length)) (List.drop (l.length - m2.length) l)), 0, m2.drop KK, 0, out ++ [⟨v, vk, vn, vs⟩]⟩, Nat.sub_lt_sub_left hlt (Nat.lt_succ_self i), ⟨s4, s3.1, s3.2, hlt, by rw [show N - (i + 1) = k by omega]; exact g6, by simp; omega, by simp only [List.mem_append, List.mem_singleton]; rintro x (hx | rfl); exact g8 x hx; simp only; omega⟩, weak_or2 60 51 61 55 (by decide) (by decide) (by decide) (by decide) (by repeat' (first | refine sub_ohp (by first | (simp; done) | (intro hne; simp at hne; simp [hne])) (by simp) ?_ | exact sub_hpL (by simp))) (by simp) (by simp <;> omega)⟩
        · rw [if_pos hq] at g6
          have hF : R = ([], q) := by rw [← hR, ← g6]; simp only [varsF]; rw [if_pos hq]
          rw [hF] at hQ
          repeat' (first
    | (with_reducible refine run_n ?_; with_reducible first | refine hK _ _ (by simp) ?_ | refine hK _ _ ?_; clear hK K)
    | (with_reducible first | refine awp_seq ?_ | refine then_n ?_ | refine then_r ?_ | refine then_e ?_ | refine awp_skip ?_ | refine awp_label ?_ | refine awp_ret ?_ | refine awp_exit ?_ | refine awp_block ?_ | refine awp_scope ?_ | refine in_n ?_ | refine in_r ?_ | refine in_e ?_ | refine in_ne (by decide) ?_ | refine ng_n ?_ | refine ng_r ?_ | refine ng_e ?_)
    | (with_reducible refine awp_regT (by kernel_rfl) ?_; intro K hK)
    | (with_reducible refine a_cond (ht := ?_) (hf := ?_) <;> intro hb <;> (try simp at hb) <;> (try contradiction) <;> (try subst hb) <;> (try omega))
    | (with_reducible first | refine a_move (hr := ?_) | refine a_assign (hr := ?_) | refine a_load (hr := ?_) | refine a_fieldAddr (hr := ?_) | refine a_bin (hr := ?_) | refine a_lenS (hr := ?_) | refine a_lenR (hr := ?_) | refine a_extract (hr := ?_) | refine a_store (hr := ?_) | refine a_alloc (hr := ?_) | refine a_neB (hr := ?_) | refine a_conv (hr := ?_) | refine a_bytesStr (hr := ?_) | refine a_strBytes (hr := ?_) | refine a_sliceArr (hr := ?_) | refine a_neS (hr := ?_) | refine a_sliceS (hr := ?_) | refine a_sliceR (hr := ?_) | refine a_build (hr := ?_) | refine a_buildSlice (hr := ?_) | refine a_append (hr := ?_) | refine a_append0 (hr := ?_) | refine a_appendX (hr := ?_) | refine a_callP (p := 61) (hcall := q1) (hr := ?_) | refine a_callP (p := 61) (hcall := q2) (hr := ?_) | refine a_callP (p := 61) (hcall := q3) (hr := ?_) | refine a_callF (hcall := q4) (hr := ?_))
    | fail)
          (refine hQ _ _ _ _ (by first | exact .inr rfl | exact .inl rfl) (by simp; exact .r) (by simp; exact .r) ?_)
          exact (Fin.drop (by simp; exact .r) (by simp)).trans Fin.tupNil
      · rw [if_pos he] at g6
        have hF : R = ([], e2) := by rw [← hR, ← g6]; simp only [varsF]; rw [if_pos he]
        rw [hF] at hQ
        repeat' (first
    | (with_reducible refine run_n ?_; with_reducible first | refine hK _ _ (by simp) ?_ | refine hK _ _ ?_; clear hK K)
    | (with_reducible first | refine awp_seq ?_ | refine then_n ?_ | refine then_r ?_ | refine then_e ?_ | refine awp_skip ?_ | refine awp_label ?_ | refine awp_ret ?_ | refine awp_exit ?_ | refine awp_block ?_ | refine awp_scope ?_ | refine in_n ?_ | refine in_r ?_ | refine in_e ?_ | refine in_ne (by decide) ?_ | refine ng_n ?_ | refine ng_r ?_ | refine ng_e ?_)
    | (with_reducible refine awp_regT (by kernel_rfl) ?_; intro K hK)
    | (with_reducible refine a_cond (ht := ?_) (hf := ?_) <;> intro hb <;> (try simp at hb) <;> (try contradiction) <;> (try subst hb) <;> (try omega))
    | (with_reducible first | refine a_move (hr := ?_) | refine a_assign (hr := ?_) | refine a_load (hr := ?_) | refine a_fieldAddr (hr := ?_) | refine a_bin (hr := ?_) | refine a_lenS (hr := ?_) | refine a_lenR (hr := ?_) | refine a_extract (hr := ?_) | refine a_store (hr := ?_) | refine a_alloc (hr := ?_) | refine a_neB (hr := ?_) | refine a_conv (hr := ?_) | refine a_bytesStr (hr := ?_) | refine a_strBytes (hr := ?_) | refine a_sliceArr (hr := ?_) | refine a_neS (hr := ?_) | refine a_sliceS (hr := ?_) | refine a_sliceR (hr := ?_) | refine a_build (hr := ?_) | refine a_buildSlice (hr := ?_) | refine a_append (hr := ?_) | refine a_append0 (hr := ?_) | refine a_appendX (hr := ?_) | refine a_callP (p := 61) (hcall := q1) (hr := ?_) | refine a_callP (p := 61) (hcall := q2) (hr := ?_))
    | fail)
        (refine hQ _ _ _ _ (by first | exact .inr rfl | exact .inl rfl) (by simp; exact .r) (by simp; exact .r) ?_)
        exact (Fin.drop (by simp; exact .r) (by simp)).trans Fin.tupNil
    · obtain rfl : i = N := by omega
      rw [Nat.sub_self] at g6
      simp only [tvL] at g6
      have hF : R = outR [] out (endV (endE m e) out) := by rw [← hR, ← g6]; rfl
      have q6 := x_End g2 e
      generalize endE m e = q at q6 hF
      by_cases hq : q = 0
      · subst hq
        have hF : R = outR [] out (varsE out) := hF
        have q7 := c_Vars out (by omega) g8
        by_cases ho : out = []
        · subst ho
          have hF : R = ([], 0) := hF
          have q8 : CallD Try.prog 71 [.raw (.slice none 0 0)] noHeap (.raw (.int .i64 0)) noHeap := CallD.nil1 q7
          rw [hF] at hQ
          repeat' (first
    | (with_reducible refine run_n ?_; with_reducible first | refine hK _ _ (by simp) ?_ | refine hK _ _ ?_; clear hK K)
    | (with_reducible first | refine awp_seq ?_ | refine then_n ?_ | refine then_r ?_ | refine then_e ?_ | refine awp_skip ?_ | refine awp_label ?_ | refine awp_ret ?_ | refine awp_exit ?_ | refine awp_block ?_ | refine awp_scope ?_ | refine in_n ?_ | refine in_r ?_ | refine in_e ?_ | refine in_ne (by decide) ?_ | refine ng_n ?_ | refine ng_r ?_ | refine ng_e ?_)
    | (with_reducible refine awp_regT (by kernel_rfl) ?_; intro K hK)
    | (with_reducible refine a_cond (ht := ?_) (hf := ?_) <;> intro hb <;> (try simp at hb) <;> (try contradiction) <;> (try subst hb) <;> (try omega))
    | (with_reducible first | refine a_move (hr := ?_) | refine a_assign (hr := ?_) | refine a_load (hr := ?_) | refine a_fieldAddr (hr := ?_) | refine a_bin (hr := ?_) | refine a_lenS (hr := ?_) | refine a_lenR (hr := ?_) | refine a_extract (hr := ?_) | refine a_store (hr := ?_) | refine a_alloc (hr := ?_) | refine a_neB (hr := ?_) | refine a_conv (hr := ?_) | refine a_bytesStr (hr := ?_) | refine a_strBytes (hr := ?_) | refine a_sliceArr (hr := ?_) | refine a_neS (hr := ?_) | refine a_sliceS (hr := ?_) | refine a_sliceR (hr := ?_) | refine a_build (hr := ?_) | refine a_buildSlice (hr := ?_) | refine a_append (hr := ?_) | refine a_append0 (hr := ?_) | refine a_appendX (hr := ?_) | refine a_callP (p := 61) (hcall := q6) (hr := ?_) | refine a_callF (hcall := q8) (hr := ?_))
    | fail)
          (refine hQ _ _ _ _ (by first | exact .inr rfl | exact .inl rfl) (by simp; exact .r) (by simp; exact .r) ?_)
          exact (Fin.drop (by simp; exact .r) (by simp)).trans Fin.tupNil
        · generalize varsE out = w at q7 hF
          have hne : out.map varAV ≠ [] := by simpa using ho
          rw [orow_ne hne, ohp_ne hne]
          by_cases hw : w = 0
          · subst hw
            have hF : R = (out, 0) := hF
            rw [hF] at hQ
            repeat' (first
    | (with_reducible refine run_n ?_; with_reducible first | refine hK _ _ (by simp) ?_ | refine hK _ _ ?_; clear hK K)
    | (with_reducible first | refine awp_seq ?_ | refine then_n ?_ | refine then_r ?_ | refine then_e ?_ | refine awp_skip ?_ | refine awp_label ?_ | refine awp_ret ?_ | refine awp_exit ?_ | refine awp_block ?_ | refine awp_scope ?_ | refine in_n ?_ | refine in_r ?_ | refine in_e ?_ | refine in_ne (by decide) ?_ | refine ng_n ?_ | refine ng_r ?_ | refine ng_e ?_)
    | (with_reducible refine awp_regT (by kernel_rfl) ?_; intro K hK)
    | (with_reducible refine a_cond (ht := ?_) (hf := ?_) <;> intro hb <;> (try simp at hb) <;> (try contradiction) <;> (try subst hb) <;> (try omega))
    | (with_reducible first | refine a_move (hr := ?_) | refine a_assign (hr := ?_) | refine a_load (hr := ?_) | refine a_fieldAddr (hr := ?_) | refine a_bin (hr := ?_) | refine a_lenS (hr := ?_) | refine a_lenR (hr := ?_) | refine a_extract (hr := ?_) | refine a_store (hr := ?_) | refine a_alloc (hr := ?_) | refine a_neB (hr := ?_) | refine a_conv (hr := ?_) | refine a_bytesStr (hr := ?_) | refine a_strBytes (hr := ?_) | refine a_sliceArr (hr := ?_) | refine a_neS (hr := ?_) | refine a_sliceS (hr := ?_) | refine a_sliceR (hr := ?_) | refine a_build (hr := ?_) | refine a_buildSlice (hr := ?_) | refine a_append (hr := ?_) | refine a_append0 (hr := ?_) | refine a_appendX (hr := ?_) | refine a_callP (p := 61) (hcall := q6) (hr := ?_) | refine a_callF (hcall := q7) (hr := ?_))
    | fail)
            (refine hQ _ _ _ _ (by first | exact .inr rfl | exact .inl rfl) (by simp; exact .r) (by simp; exact .r) ?_)
            exact Fin.trans (Fin.frzR (r' := .tup [.sl 4 (out.map varAV), .raw (.int .i64 0)]) (by simp; exact .r) (by simp [List.take_of_length_le]; exact .r) (by simp; exact .r) (by simp)) (Fin.refl _ _)
          · rw [outR_n _ _ hw] at hF
            rw [hF] at hQ
            repeat' (first
    | (with_reducible refine run_n ?_; with_reducible first | refine hK _ _ (by simp) ?_ | refine hK _ _ ?_; clear hK K)
    | (with_reducible first | refine awp_seq ?_ | refine then_n ?_ | refine then_r ?_ | refine then_e ?_ | refine awp_skip ?_ | refine awp_label ?_ | refine awp_ret ?_ | refine awp_exit ?_ | refine awp_block ?_ | refine awp_scope ?_ | refine in_n ?_ | refine in_r ?_ | refine in_e ?_ | refine in_ne (by decide) ?_ | refine ng_n ?_ | refine ng_r ?_ | refine ng_e ?_)
    | (with_reducible refine awp_regT (by kernel_rfl) ?_; intro K hK)
    | (with_reducible refine a_cond (ht := ?_) (hf := ?_) <;> intro hb <;> (try simp at hb) <;> (try contradiction) <;> (try subst hb) <;> (try omega))
    | (with_reducible first | refine a_move (hr := ?_) | refine a_assign (hr := ?_) | refine a_load (hr := ?_) | refine a_fieldAddr (hr := ?_) | refine a_bin (hr := ?_) | refine a_lenS (hr := ?_) | refine a_lenR (hr := ?_) | refine a_extract (hr := ?_) | refine a_store (hr := ?_) | refine a_alloc (hr := ?_) | refine a_neB (hr := ?_) | refine a_conv (hr := ?_) | refine a_bytesStr (hr := ?_) | refine a_strBytes (hr := ?_) | refine a_sliceArr (hr := ?_) | refine a_neS (hr := ?_) | refine a_sliceS (hr := ?_) | refine a_sliceR (hr := ?_) | refine a_build (hr := ?_) | refine a_buildSlice (hr := ?_) | refine a_append (hr := ?_) | refine a_append0 (hr := ?_) | refine a_appendX (hr := ?_) | refine a_callP (p := 61) (hcall := q6) (hr := ?_) | refine a_callF (hcall := q7) (hr := ?_))
    | fail)
            (refine hQ _ _ _ _ (by first | exact .inr rfl | exact .inl rfl) (by simp; exact .r) (by simp; exact .r) ?_)
            exact (Fin.drop (by simp; exact .r) (by simp)).trans Fin.tupNil
      · have hF : R = ([], q) := by rw [hF]; unfold endV; rw [if_pos hq, outR_n _ _ hq]
        rw [hF] at hQ
        repeat' (first
    | (with_reducible refine run_n ?_; with_reducible first | refine hK _ _ (by simp) ?_ | refine hK _ _ ?_; clear hK K)
    | (with_reducible first | refine awp_seq ?_ | refine then_n ?_ | refine then_r ?_ | refine then_e ?_ | refine awp_skip ?_ | refine awp_label ?_ | refine awp_ret ?_ | refine awp_exit ?_ | refine awp_block ?_ | refine awp_scope ?_ | refine in_n ?_ | refine in_r ?_ | refine in_e ?_ | refine in_ne (by decide) ?_ | refine ng_n ?_ | refine ng_r ?_ | refine ng_e ?_)
    | (with_reducible refine awp_regT (by kernel_rfl) ?_; intro K hK)
    | (with_reducible refine a_cond (ht := ?_) (hf := ?_) <;> intro hb <;> (try simp at hb) <;> (try contradiction) <;> (try subst hb) <;> (try omega))
    | (with_reducible first | refine a_move (hr := ?_) | refine a_assign (hr := ?_) | refine a_load (hr := ?_) | refine a_fieldAddr (hr := ?_) | refine a_bin (hr := ?_) | refine a_lenS (hr := ?_) | refine a_lenR (hr := ?_) | refine a_extract (hr := ?_) | refine a_store (hr := ?_) | refine a_alloc (hr := ?_) | refine a_neB (hr := ?_) | refine a_conv (hr := ?_) | refine a_bytesStr (hr := ?_) | refine a_strBytes (hr := ?_) | refine a_sliceArr (hr := ?_) | refine a_neS (hr := ?_) | refine a_sliceS (hr := ?_) | refine a_sliceR (hr := ?_) | refine a_build (hr := ?_) | refine a_buildSlice (hr := ?_) | refine a_append (hr := ?_) | refine a_append0 (hr := ?_) | refine a_appendX (hr := ?_) | refine a_callP (p := 61) (hcall := q6) (hr := ?_))
    | fail)
        (refine hQ _ _ _ _ (by first | exact .inr rfl | exact .inl rfl) (by simp; exact .r) (by simp; exact .r) ?_)
        exact (Fin.drop (by simp; exact .r) (by simp)).trans Fin.tupNil
end Go.Proofs.Ytdbdajmgfajcpaa.Asl

namespace Go.Proofs.Ytdbdajmgfajcpaa.Asl
open Go Go.RowKit
set_option linter.unusedVariables false
set_option linter.unusedSimpArgs false
set_option maxRecDepth 100000
set_option maxHeartbeats 4000000
attribute [local simp] len_bytes
theorem dec_encV {n : Int} (h0 : 0 ≤ n) (h1 : n < 18446744073709551616) (r : List Int) : dec (enc 9 n ++ r) 0 0 = (n, ((enc 9 n).length : Int), 0) := by
  have := dec_enc 9 0 n 0 r rfl h0 (fun h => absurd h (by decide)) (by simpa using h1)
  simpa using this
theorem dI_enc {n : Int} (h0 : -9223372036854775808 ≤ n) (h1 : n < 9223372036854775808) (r : List Int) : dI (enc 9 (zz n) ++ r) = (n, (enc 9 (zz n)).length, 0) := by
  have hz := zz_range h0 h1
  have hm : ¬ 18446744073709551615 < zz n := by omega
  simp [dI, dU, dec_encV hz.1 hz.2, hm, unz_zz]
theorem dT_enc {s : ByteArray} {most : Int} (h0 : (s.size : Int) ≤ most) (hs : s.size ≤ 140737488351232) (r : List Int) : dT (enc 9 s.size ++ bytesOf s ++ r) most = (bytesOf s, (enc 9 s.size).length + s.size, 0) := by
  have hd := dec_encV (n := s.size) (by omega) (by omega) (bytesOf s ++ r)
  rw [← List.append_assoc] at hd
  have hl := len_bytes s
  unfold dT
  rw [hd]
  rw [if_neg (by simp), if_neg (by simp; omega), if_neg (by simp [hl]; omega)]
  simp only [Int.toNat_natCast]
  rw [List.append_assoc, List.drop_left, List.take_append_of_le_length (by omega), List.take_of_length_le (by omega)]
  refine Prod.ext rfl (Prod.ext ?_ rfl)
  show ((((enc 9 s.size).length : Nat) : Int) + ((s.size : Nat) : Int)).toNat = (enc 9 s.size).length + s.size
  omega
/-- A right value is got again. -/
theorem take_put {k n : Int} {s : ByteArray} (hr : rightE k n s = 0) (hn : -9223372036854775808 ≤ n ∧ n < 9223372036854775808) (r : List Int) : takeV (putV k n s ++ r) = ((k, n, s), ((putV k n s).length : Int), 0) := by
  unfold putV
  rw [if_neg (by simp [hr])]
  rcases rightE_k hr with rfl | rfl | rfl
  · have hs : s = ⟨#[]⟩ := by
      have h := hr
      simp [rightE] at h; exact h
    subst hs
    rw [if_neg (by decide), List.cons_append, takeV, dI_enc hn.1 hn.2]
    simp; omega
  · have hs : (n = 0 ∨ n = 1) ∧ s = ⟨#[]⟩ := by
      have h := hr
      simp [rightE] at h; exact h
    obtain ⟨h01, rfl⟩ := hs
    rw [if_neg (by decide), List.cons_append, takeV, dI_enc hn.1 hn.2]
    simp [h01]; omega
  · have hs : s.size ≤ 64 ∧ n = 0 := by
      have h := hr
      simp only [rightE, if_true] at h
      by_cases h64 : 64 < s.size
      · rw [if_pos h64] at h; exact absurd h (by decide)
      · rw [if_neg h64] at h
        by_cases h0 : n = 0
        · exact ⟨by omega, h0⟩
        · rw [if_neg h0] at h; exact absurd h (by decide)
    obtain ⟨h64, rfl⟩ := hs
    rw [if_pos rfl, List.cons_append, takeV, dT_enc (by omega) (by omega)]
    simp [nums_of_bytes]; omega
theorem dI_form {l : List Int} (hB : IsB l) (h : (dI l).2.2 = 0) : enc 9 (zz (dI l).1) = l.take (dI l).2.1 ∧ -9223372036854775808 ≤ (dI l).1 ∧ (dI l).1 < 9223372036854775808 := by
  have ho := dec_ok0 hB
  have hf := dec_form 9 0 l 0
  refine ⟨?_, dI_range hB⟩
  unfold dI dU at h ⊢
  generalize dec l 0 0 = d at ho hf h ⊢
  obtain ⟨N, K, E⟩ := d
  simp only at ho h ⊢
  obtain ⟨o1, o2, o3, o4, o5, o6, o7⟩ := ho
  by_cases hE : E = 0
  · subst hE
    have hnm : ¬ 18446744073709551615 < N := by omega
    simp only [ne_eq, not_true, if_false, hnm] at h ⊢
    obtain ⟨n, f1, f2, f3, f4, f5, f6⟩ := hf N K rfl hB rfl
    have hN : N = n := by simpa using f4
    have hK : K.toNat = (enc 9 n).length := by omega
    rw [zz_unz o1, hN, hK]
    conv => rhs; rw [f6]
    rw [List.take_left]
  · simp [hE] at h
theorem dT_form {l : List Int} (hB : IsB l) {most : Int} (h : (dT l most).2.2 = 0) : enc 9 (strOfNums (dT l most).1).size ++ bytesOf (strOfNums (dT l most).1) = l.take (dT l most).2.1 := by
  have ho := dec_ok0 hB
  have hf := dec_form 9 0 l 0
  have hz : ∀ m : List Int, (strOfNums m).size = m.length := fun m => by unfold strOfNums; show (List.toArray _).size = _; simp
  unfold dT at h ⊢
  generalize dec l 0 0 = d at ho hf h ⊢
  obtain ⟨N, K, E⟩ := d
  simp only at ho h ⊢
  obtain ⟨o1, o2, o3, o4, o5, o6, o7⟩ := ho
  by_cases hE : E = 0
  · subst hE
    obtain ⟨n, f1, f2, f3, f4, f5, f6⟩ := hf N K rfl hB rfl
    have hN : N = n := by simpa using f4
    have hK : K.toNat = (enc 9 n).length := by omega
    rw [if_neg (by simp)] at h ⊢
    by_cases c2 : most < 0 ∨ most < N
    · rw [if_pos c2] at h; exact absurd h (by decide)
    rw [if_neg c2] at h ⊢
    by_cases c3 : (l.length : Int) - K < N
    · rw [if_pos c3] at h; exact absurd h (by decide)
    rw [if_neg c3] at h ⊢
    simp only
    rw [hz, bytes_of_nums (isB_take (isB_drop hB _) _), List.length_take, List.length_drop]
    have hmin : ((min N.toNat (l.length - K.toNat) : Nat) : Int) = n := by omega
    rw [hmin]
    have e1 : (K + N).toNat = (enc 9 n).length + N.toNat := by omega
    rw [e1, hK, List.take_add]
    congr 1
    conv => rhs; rw [f6]
    rw [List.take_left]
  · simp [hE] at h
/-- Bytes that are taken are those of the value. -/
theorem put_take {bs : List Int} (hB : IsB bs) (h : (takeV bs).2.2 = 0) : rightE (takeV bs).1.1 (takeV bs).1.2.1 (takeV bs).1.2.2 = 0 ∧ putV (takeV bs).1.1 (takeV bs).1.2.1 (takeV bs).1.2.2 = bs.take (takeV bs).2.1.toNat ∧ 0 ≤ (takeV bs).2.1 ∧ (takeV bs).2.1 ≤ bs.length ∧ (-9223372036854775808 ≤ (takeV bs).1.2.1 ∧ (takeV bs).1.2.1 < 9223372036854775808) ∧ (takeV bs).1.2.2.size ≤ 64 := by
  rcases bs with _ | ⟨c, l⟩
  · simp [takeV] at h
  have hBl := (isB_cons.1 hB).2
  have f1 := dI_form hBl
  have f2 := dT_form hBl (most := 64)
  have l1 := dI_le hBl
  have l2 := dT_le hBl 64
  have l3 := dT_size hBl (most := 64) (by omega)
  rw [takeV] at h ⊢
  generalize dI l = d at f1 l1 h ⊢
  obtain ⟨v, k, e⟩ := d
  generalize dT l 64 = g at f2 l2 l3 h ⊢
  obtain ⟨w, j, e2⟩ := g
  simp only at f1 f2 l1 l2 l3 h ⊢
  by_cases c1 : c = 1
  · subst c1
    simp only [if_true] at h ⊢
    by_cases he : e = 0
    · subst he
      rw [if_neg (by simp)]
      obtain ⟨g1, g2, g3⟩ := f1 rfl
      have hr : rightE 1 v ⟨#[]⟩ = 0 := by simp [rightE]
      refine ⟨hr, ?_, by simp only; omega, by simp only [List.length_cons]; omega, ⟨g2, g3⟩, (by show (⟨#[]⟩ : ByteArray).size ≤ 64; decide)⟩
      simp only
      rw [putV, if_neg (by simp [hr]), if_neg (by decide), g1, show (1 + (k : Int)).toNat = k + 1 by omega, List.take_succ_cons]
    · rw [if_pos (by simpa using he)] at h; exact absurd h he
  rw [if_neg c1] at h ⊢
  by_cases c2 : c = 2
  · subst c2
    simp only [if_true] at h ⊢
    by_cases he : e = 0
    · subst he
      rw [if_neg (by simp)] at h ⊢
      by_cases h01 : v = 0 ∨ v = 1
      · rw [if_pos h01]
        obtain ⟨g1, g2, g3⟩ := f1 rfl
        have hr : rightE 2 v ⟨#[]⟩ = 0 := by simp [rightE, h01]
        refine ⟨hr, ?_, by simp only; omega, by simp only [List.length_cons]; omega, ⟨g2, g3⟩, (by show (⟨#[]⟩ : ByteArray).size ≤ 64; decide)⟩
        simp only
        rw [putV, if_neg (by simp [hr]), if_neg (by decide), g1, show (1 + (k : Int)).toNat = k + 1 by omega, List.take_succ_cons]
      · rw [if_neg h01] at h; exact absurd h (by decide)
    · rw [if_pos (by simpa using he)] at h; exact absurd h he
  rw [if_neg c2] at h ⊢
  by_cases c3 : c = 3
  · subst c3
    simp only [if_true] at h ⊢
    by_cases he : e2 = 0
    · subst he
      rw [if_neg (by simp)]
      have g1 := f2 rfl
      have hr : rightE 3 0 (strOfNums w) = 0 := by simp [rightE]; omega
      refine ⟨hr, ?_, by simp only; omega, by simp only [List.length_cons]; omega, ⟨(by show (-9223372036854775808 : Int) ≤ 0; decide), (by show (0 : Int) < 9223372036854775808; decide)⟩, by simp only; omega⟩
      simp only
      rw [putV, if_neg (by simp [hr]), if_pos rfl, g1, show (1 + (j : Int)).toNat = j + 1 by omega, List.take_succ_cons]
    · rw [if_pos (by simpa using he)] at h; exact absurd h he
  · rw [if_neg c3] at h; exact absurd h (by decide)
end Go.Proofs.Ytdbdajmgfajcpaa.Asl

namespace Go.Proofs.Ytdbdajmgfajcpaa.Asl
open Go Go.RowKit
set_option linter.unusedVariables false
set_option linter.unusedSimpArgs false
set_option maxRecDepth 100000
set_option maxHeartbeats 4000000
def varL (x : VarV) : List Int := txtL x.n ++ putV x.k x.v x.s
def putVars (l : List VarV) : List Int := if varsE l = 0 then enc 9 l.length ++ l.flatMap varL else []
def wfV (x : VarV) : Prop := x.n.size ≤ 140737488351232 ∧ x.s.size ≤ 140737488351232 ∧ -9223372036854775808 ≤ x.v ∧ x.v < 9223372036854775808
theorem nameB_len {l : List Int} (h : nameB l = true) : l.length ≤ 16 ∧ l ≠ [] := by
  cases l with
  | nil => simp [nameB] at h
  | cons c l => simp [nameB] at h; simp; omega
theorem rightE_size {k v : Int} {s : ByteArray} (h : rightE k v s = 0) : s.size ≤ 64 := by
  unfold rightE at h
  repeat' split at h
  all_goals first | omega | (rename_i h1; subst h1; decide) | skip
  all_goals (rename_i h1 h2; first | (obtain ⟨_, rfl⟩ := h2; decide) | (subst h2; decide) | skip)
theorem chkV_small : ∀ (l : List VarV) (last : ByteArray), chkV last l = 0 → ∀ x ∈ l, x.n.size ≤ 16 ∧ x.s.size ≤ 64 := by
  intro l
  induction l with
  | nil => intro _ _ x hx; cases hx
  | cons y l ih =>
    intro last h x hx
    simp only [chkV] at h
    by_cases h1 : nameB (bytesOf y.n) = false
    · rw [if_pos h1] at h; cases h
    rw [if_neg h1] at h
    by_cases h2 : sless last y.n = false
    · rw [if_pos h2] at h; cases h
    rw [if_neg h2] at h
    by_cases h3 : rightE y.k y.v y.s ≠ 0
    · rw [if_pos h3] at h; exact absurd h h3
    rw [if_neg h3] at h
    rcases List.mem_cons.1 hx with rfl | hx
    · have := (nameB_len (by simpa using h1)).1
      rw [len_bytes] at this
      exact ⟨this, rightE_size (by simpa using h3)⟩
    · exact ih _ h x hx
theorem varsE_small {l : List VarV} (h : varsE l = 0) : l.length ≤ 8 ∧ ∀ x ∈ l, x.n.size ≤ 16 ∧ x.s.size ≤ 64 := by
  unfold varsE at h
  by_cases h8 : 8 < l.length
  · rw [if_pos h8] at h; cases h
  · rw [if_neg h8] at h
    exact ⟨by omega, chkV_small l _ h⟩
theorem putV_len' (k n : Int) (s : ByteArray) : (putV k n s).length ≤ s.size + 11 := by
  have h1 := (enc_len 9 s.size).1
  have h2 := (enc_len 9 (zz n)).1
  have h3 := len_bytes s
  unfold putV
  by_cases hr : rightE k n s = 0
  · rw [if_neg (by simp [hr])]
    by_cases k3 : k = 3
    · rw [if_pos k3]; simp [h3]; omega
    · rw [if_neg k3]; simp; omega
  · rw [if_pos (by simpa using hr)]; simp
theorem varL_len {x : VarV} (h : x.n.size ≤ 16 ∧ x.s.size ≤ 64) : (varL x).length ≤ 101 := by
  have := txtL_len x.n
  have := putV_len' x.k x.v x.s
  rw [varL, List.length_append]; omega
theorem flat_varL {l : List VarV} (h : ∀ x ∈ l, x.n.size ≤ 16 ∧ x.s.size ≤ 64) : (l.flatMap varL).length ≤ 101 * l.length := by
  induction l with
  | nil => simp
  | cons x l ih =>
    rw [List.flatMap_cons, List.length_append, List.length_cons]
    have := varL_len (h x List.mem_cons_self)
    have := ih (fun y hy => h y (List.mem_cons_of_mem _ hy))
    omega
theorem putVars_len (l : List VarV) : (putVars l).length ≤ 1000 := by
  unfold putVars
  by_cases h : varsE l = 0
  · rw [if_pos h]
    obtain ⟨h1, h2⟩ := varsE_small h
    have := flat_varL h2
    have := (enc_len 9 l.length).1
    rw [List.length_append]; omega
  · rw [if_neg h]; simp
theorem c_PutVars (l : List VarV) (hl : l.length ≤ 140737488351232) (hw : ∀ x ∈ l, wfV x) : CallD Try.prog 30 [.sl 4 (l.map varAV)] noHeap (.sl 1 (u8s (putVars l))) noHeap := by
  have hv := c_Vars l (by omega) (fun x hx => by have := (hw x hx).1; omega)
  unfold putVars
  by_cases h0 : varsE l = 0
  · rw [h0] at hv
    rw [if_pos h0]
    obtain ⟨h8, hsm⟩ := varsE_small h0
    have hU := c_UintT l.length (by omega) (by omega)
    have hUl := (enc_len 9 (l.length : Int)).1
    generalize enc 9 (l.length : Int) = e0 at hU hUl ⊢
    refine calls_go (nt := 30) (rs := [.tmp 2]) Try.func30 rfl rfl rfl (by simp) (by intro id h; simp at h <;> omega) ?_; intro Q hQ hW
    repeat' (first
    | (with_reducible refine run_n ?_; with_reducible first | refine hK _ _ (by simp) ?_ | refine hK _ _ ?_; clear hK K)
    | (with_reducible first | refine awp_seq ?_ | refine then_n ?_ | refine then_r ?_ | refine then_e ?_ | refine awp_skip ?_ | refine awp_label ?_ | refine awp_ret ?_ | refine awp_exit ?_ | refine awp_block ?_ | refine awp_scope ?_ | refine in_n ?_ | refine in_r ?_ | refine in_e ?_ | refine in_ne (by decide) ?_ | refine ng_n ?_ | refine ng_r ?_ | refine ng_e ?_)
    | (with_reducible refine awp_regT (by kernel_rfl) ?_; intro K hK)
    | (with_reducible refine awp_regAM (id := 7) [(20, some 5), (23, some 5)] mixed (by kernel_rfl) (by kernel_rfl) ?_; intro K hK)
    | (with_reducible refine a_cond (ht := ?_) (hf := ?_) <;> intro hb <;> (try simp at hb) <;> (try contradiction) <;> (try subst hb) <;> (try omega))
    | (with_reducible first | refine a_move (hr := ?_) | refine a_assign (hr := ?_) | refine a_load (hr := ?_) | refine a_fieldAddr (hr := ?_) | refine a_bin (hr := ?_) | refine a_lenS (hr := ?_) | refine a_lenR (hr := ?_) | refine a_store (hr := ?_) | refine a_alloc (hr := ?_) | refine a_neB (hr := ?_) | refine a_conv (hr := ?_) | refine a_bytesStr (hr := ?_) | refine a_strBytes (hr := ?_) | refine a_idxArr (hr := ?_) | refine a_neS (hr := ?_) | refine a_indexAddr (hr := ?_) | refine a_buildSlice (hr := ?_) | refine a_callF (hcall := hv) (hr := ?_) | refine a_callN (hcall := hU) (hr := ?_))
    | fail)
    refine awp_inv (α := Nat) (fun i => [(3, .sl 1 (u8s (e0 ++ (l.take i).flatMap varL))), (13, .sl 4 (l.map varAV)), (14, .raw (.int .i64 l.length)), (15, .raw (.int .i64 i))]) (fun _ => hpL []) (fun i => i ≤ l.length) (fun i => l.length - i) 0 (by simp) (weak_o (by repeat' (first | refine sub_ohp (by first | (simp; done) | (intro hne; simp at hne; simp [hne])) (by simp) ?_ | exact sub_hpL (by simp))) (by simp) (by simp <;> omega)) ?_
    intro i g1
    rcases Nat.lt_or_ge i l.length with hlt | hge
    · have hx := List.getElem?_eq_getElem hlt
      have ht := List.take_succ_eq_append_getElem hlt
      have hsx := hsm l[i] (List.getElem_mem hlt)
      have hwx := hw l[i] (List.getElem_mem hlt)
      have hvl := varL_len hsx
      generalize l[i] = y at hx ht hsx hwx hvl
      have ht2 : (l.take (i + 1)).flatMap varL = (l.take i).flatMap varL ++ varL y := by rw [ht, List.flatMap_append]; simp
      have hfl := flat_varL (l := l.take i) (fun x hx => hsm x (List.mem_of_mem_take hx))
      rw [List.length_take] at hfl
      obtain ⟨yn, yk, yv, ys⟩ := y
      have p1 := c_WText yn hwx.1
      have p2 := c_Put yk yv ys hwx.2.2 hwx.2.1
      simp only [varL] at ht2 hvl
      simp only [txtL] at hvl ht2
      generalize (l.take i).flatMap varL = acc at ht2 hfl ⊢
      rw [List.length_append] at hvl
      generalize enc 9 yn.size ++ bytesOf yn = t1 at p1 ht2 hvl
      generalize putV yk yv ys = t2 at p2 ht2 hvl
      have hj := c_JoinT [e0 ++ acc, t1, t2] (by simp; omega) (by simp)
      simp only [rws_cons, rws_nil, List.flatten_cons, List.flatten_nil, List.append_nil, List.append_assoc] at hj
      repeat' (first
    | (with_reducible refine run_n ?_; with_reducible first | refine hK _ _ (by simp) ?_ | refine hK _ _ ?_; clear hK K)
    | (with_reducible first | refine awp_seq ?_ | refine then_n ?_ | refine then_r ?_ | refine then_e ?_ | refine awp_skip ?_ | refine awp_label ?_ | refine awp_ret ?_ | refine awp_exit ?_ | refine awp_block ?_ | refine awp_scope ?_ | refine in_n ?_ | refine in_r ?_ | refine in_e ?_ | refine in_ne (by decide) ?_ | refine ng_n ?_ | refine ng_r ?_ | refine ng_e ?_)
    | (with_reducible refine awp_regT (by kernel_rfl) ?_; intro K hK)
    | (with_reducible refine awp_regAM (id := 7) [(20, some 5), (23, some 5)] mixed (by kernel_rfl) (by kernel_rfl) ?_; intro K hK)
    | (with_reducible refine a_cond (ht := ?_) (hf := ?_) <;> intro hb <;> (try simp at hb) <;> (try contradiction) <;> (try subst hb) <;> (try omega))
    | (with_reducible first | refine a_move (hr := ?_) | refine a_assign (hr := ?_) | refine a_load (hr := ?_) | refine a_fieldAddr (hr := ?_) | refine a_bin (hr := ?_) | refine a_lenS (hr := ?_) | refine a_lenR (hr := ?_) | refine a_store (hr := ?_) | refine a_alloc (hr := ?_) | refine a_neB (hr := ?_) | refine a_conv (hr := ?_) | refine a_bytesStr (hr := ?_) | refine a_strBytes (hr := ?_) | refine a_idxArr (hr := ?_) | refine a_neS (hr := ?_) | refine a_indexAddr (hr := ?_) | refine a_buildSlice (hr := ?_) | refine a_callN (hcall := p1) (hr := ?_) | refine a_callN (hcall := p2) (hr := ?_) | refine a_callF (hcall := hj) (hr := ?_))
    | fail)
      exact ⟨i + 1, by omega, by omega, by rw [ht2]; exact weak_o (by repeat' (first | refine sub_ohp (by first | (simp; done) | (intro hne; simp at hne; simp [hne])) (by simp) ?_ | exact sub_hpL (by simp))) (by simp) (by simp <;> omega)⟩
    · obtain rfl : i = l.length := by omega
      rw [List.take_length]
      repeat' (first
    | (with_reducible refine run_n ?_; with_reducible first | refine hK _ _ (by simp) ?_ | refine hK _ _ ?_; clear hK K)
    | (with_reducible first | refine awp_seq ?_ | refine then_n ?_ | refine then_r ?_ | refine then_e ?_ | refine awp_skip ?_ | refine awp_label ?_ | refine awp_ret ?_ | refine awp_exit ?_ | refine awp_block ?_ | refine awp_scope ?_ | refine in_n ?_ | refine in_r ?_ | refine in_e ?_ | refine in_ne (by decide) ?_ | refine ng_n ?_ | refine ng_r ?_ | refine ng_e ?_)
    | (with_reducible refine awp_regT (by kernel_rfl) ?_; intro K hK)
    | (with_reducible refine awp_regAM (id := 7) [(20, some 5), (23, some 5)] mixed (by kernel_rfl) (by kernel_rfl) ?_; intro K hK)
    | (with_reducible refine a_cond (ht := ?_) (hf := ?_) <;> intro hb <;> (try simp at hb) <;> (try contradiction) <;> (try subst hb) <;> (try omega))
    | (with_reducible first | refine a_move (hr := ?_) | refine a_assign (hr := ?_) | refine a_load (hr := ?_) | refine a_fieldAddr (hr := ?_) | refine a_bin (hr := ?_) | refine a_lenS (hr := ?_) | refine a_lenR (hr := ?_) | refine a_store (hr := ?_) | refine a_alloc (hr := ?_) | refine a_neB (hr := ?_) | refine a_conv (hr := ?_) | refine a_bytesStr (hr := ?_) | refine a_strBytes (hr := ?_) | refine a_idxArr (hr := ?_) | refine a_neS (hr := ?_) | refine a_indexAddr (hr := ?_) | refine a_buildSlice (hr := ?_))
    | fail)
      all_goals ((refine hQ _ _ _ _ (by first | exact .inr rfl | exact .inl rfl) (by simp; exact .r) (by simp; exact .r) ?_))
      all_goals (exact Fin.drop (by simp; exact .r) (by simp))
  · rw [if_neg h0]
    generalize varsE l = e at hv h0
    refine calls_go (nt := 30) (rs := [.tmp 2]) Try.func30 rfl rfl rfl (by simp) (by intro id h; simp at h <;> omega) ?_; intro Q hQ hW
    repeat' (first
    | (with_reducible refine run_n ?_; with_reducible first | refine hK _ _ (by simp) ?_ | refine hK _ _ ?_; clear hK K)
    | (with_reducible first | refine awp_seq ?_ | refine then_n ?_ | refine then_r ?_ | refine then_e ?_ | refine awp_skip ?_ | refine awp_label ?_ | refine awp_ret ?_ | refine awp_exit ?_ | refine awp_block ?_ | refine awp_scope ?_ | refine in_n ?_ | refine in_r ?_ | refine in_e ?_ | refine in_ne (by decide) ?_ | refine ng_n ?_ | refine ng_r ?_ | refine ng_e ?_)
    | (with_reducible refine awp_regT (by kernel_rfl) ?_; intro K hK)
    | (with_reducible refine awp_regAM (id := 7) [(20, some 5), (23, some 5)] mixed (by kernel_rfl) (by kernel_rfl) ?_; intro K hK)
    | (with_reducible refine a_cond (ht := ?_) (hf := ?_) <;> intro hb <;> (try simp at hb) <;> (try contradiction) <;> (try subst hb) <;> (try omega))
    | (with_reducible first | refine a_move (hr := ?_) | refine a_assign (hr := ?_) | refine a_load (hr := ?_) | refine a_fieldAddr (hr := ?_) | refine a_bin (hr := ?_) | refine a_lenS (hr := ?_) | refine a_lenR (hr := ?_) | refine a_store (hr := ?_) | refine a_alloc (hr := ?_) | refine a_neB (hr := ?_) | refine a_conv (hr := ?_) | refine a_bytesStr (hr := ?_) | refine a_strBytes (hr := ?_) | refine a_idxArr (hr := ?_) | refine a_neS (hr := ?_) | refine a_indexAddr (hr := ?_) | refine a_buildSlice (hr := ?_) | refine a_callF (hcall := hv) (hr := ?_))
    | fail)
    all_goals ((refine hQ _ _ _ _ (by first | exact .inr rfl | exact .inl rfl) (by simp; exact .r) (by simp; exact .r) ?_))
    all_goals (exact Fin.nil (by simp))
end Go.Proofs.Ytdbdajmgfajcpaa.Asl

namespace Go.Proofs.Ytdbdajmgfajcpaa.Asl
open Go Go.RowKit
set_option linter.unusedVariables false
set_option linter.unusedSimpArgs false
set_option maxRecDepth 100000
set_option maxHeartbeats 4000000
theorem sU_put {n most : Int} (h0 : 0 ≤ n) (h1 : n ≤ most) (h2 : n < 18446744073709551616) (r : List Int) : sU most (enc 9 n ++ r, 0) = (n, (r, 0)) := by
  have hm : ¬ most < n := by omega
  have hd : dU (enc 9 n ++ r) most = (n, (enc 9 n).length, 0) := by simp [dU, dec_encV h0 h2, hm]
  simp only [sU, hd, nxA, nxE]
  simp
theorem sT_put {s : ByteArray} {most : Int} (h : (s.size : Int) ≤ most) (hs : s.size ≤ 140737488351232) (r : List Int) : sT most (txtL s ++ r, 0) = (s, (r, 0)) := by
  have hd := dT_enc h hs r
  have hl : (enc 9 s.size).length + s.size = (txtL s).length := by simp [txtL, len_bytes]
  simp only [sT, hd, nxA, nxE]
  simp only [ne_eq, not_true_eq_false, if_false, nums_of_bytes, Nat.zero_add, hl, List.drop_left, if_true]
theorem sB_put (c : Int) (r : List Int) : sB (c :: r, 0) = (c, (r, 0)) := by simp [sB, dB, nxA, nxE]
theorem dU_form {l : List Int} (hB : IsB l) {most : Int} (h : (dU l most).2.2 = 0) : enc 9 (dU l most).1 = l.take (dU l most).2.1 ∧ 0 ≤ (dU l most).1 ∧ (dU l most).1 ≤ most := by
  have ho := dec_ok0 hB
  have hf := dec_form 9 0 l 0
  unfold dU at h ⊢
  generalize dec l 0 0 = d at ho hf h ⊢
  obtain ⟨N, K, E⟩ := d
  simp only at ho h ⊢
  obtain ⟨o1, o2, o3, o4, o5, o6, o7⟩ := ho
  by_cases hE : E = 0
  · subst hE
    rw [if_neg (by simp)] at h ⊢
    by_cases c2 : most < N
    · rw [if_pos c2] at h; exact absurd h (by decide)
    rw [if_neg c2] at h ⊢
    obtain ⟨n, f1, f2, f3, f4, f5, f6⟩ := hf N K rfl hB rfl
    have hN : N = n := by simpa using f4
    have hK : K.toNat = (enc 9 n).length := by omega
    refine ⟨?_, o1, by simp only; omega⟩
    simp only
    rw [hN, hK]
    conv => rhs; rw [f6]
    rw [List.take_left]
  · simp [hE] at h
theorem sU_form {l : List Int} {e most : Int} (hB : IsB l) (h : (sU most (l, e)).2.2 = 0) : e = 0 ∧ l = enc 9 (sU most (l, e)).1 ++ (sU most (l, e)).2.1 ∧ 0 ≤ (sU most (l, e)).1 ∧ (sU most (l, e)).1 ≤ most := by
  by_cases he : e = 0
  · subst he
    have h' : (dU l most).2.2 = 0 := by simpa [sU, nxE] using h
    obtain ⟨f1, f2, f3⟩ := dU_form hB h'
    have e1 : (sU most (l, 0)).1 = (dU l most).1 := by simp [sU]
    have e2 : (sU most (l, 0)).2.1 = l.drop (dU l most).2.1 := by simp [sU, nxA]
    rw [e1, e2]
    exact ⟨rfl, by rw [f1, List.take_append_drop], f2, f3⟩
  · simp [sU, nxE, he] at h
theorem sT_form {l : List Int} {e most : Int} (hB : IsB l) (h : (sT most (l, e)).2.2 = 0) : e = 0 ∧ l = txtL (sT most (l, e)).1 ++ (sT most (l, e)).2.1 := by
  by_cases he : e = 0
  · subst he
    have h' : (dT l most).2.2 = 0 := by simpa [sT, nxE] using h
    have f1 := dT_form hB h'
    have e1 : (sT most (l, 0)).1 = strOfNums (dT l most).1 := by simp [sT]
    have e2 : (sT most (l, 0)).2.1 = l.drop (dT l most).2.1 := by simp [sT, nxA]
    rw [e1, e2]
    exact ⟨rfl, by rw [txtL, f1, List.take_append_drop]⟩
  · simp [sT, nxE, he] at h
theorem sB_form {l : List Int} {e : Int} (h : (sB (l, e)).2.2 = 0) : e = 0 ∧ l = (sB (l, e)).1 :: (sB (l, e)).2.1 := by
  by_cases he : e = 0
  · subst he
    cases l with
    | nil => simp [sB, nxE, dB] at h
    | cons c l => exact ⟨rfl, by simp [sB, dB, nxA]⟩
  · simp [sB, nxE, he] at h
theorem wrong_0 {b : Bool} {l : List Int} {e : Int} (h : wrongE b (endE l e) = 0) : b = true ∧ e = 0 ∧ l = [] := by
  unfold wrongE at h
  by_cases hq : endE l e = 0
  · rw [if_pos hq] at h
    unfold endE at hq
    by_cases he : e = 0
    · subst he
      by_cases hl : l = []
      · cases b with
        | true => exact ⟨rfl, rfl, hl⟩
        | false => simp at h
      · simp [hl] at hq
    · simp [he] at hq
  · rw [if_neg hq] at h; exact absurd h hq
theorem outR_fst {α : Type} {z r : α} {q : Int} (h : (outR z r q).2 = 0) : q = 0 ∧ (outR z r q).1 = r := by
  have hq : q = 0 := h
  subst hq
  exact ⟨rfl, rfl⟩
theorem nameB_sz {s : ByteArray} (h : nameB (bytesOf s) = true) : s.size ≤ 16 := by
  rw [← len_bytes]
  unfold nameB at h
  split at h
  · simp at h
  · rw [Bool.and_eq_true, decide_eq_true_eq] at h; exact h.2
/-- Instances. -/
theorem inst_put {d c : ByteArray} {v s x : Int} (h : instB d v s c x = true) (hv : 0 ≤ v ∧ v < 18446744073709551616) (hx : 0 ≤ x ∧ x < 18446744073709551616) : instR (putInst d v s c x, 0) = (⟨d, v, s, c, x⟩, 0) := by
  have hd : d.size ≤ 16 := by
    unfold instB at h
    simp only [Bool.and_eq_true] at h
    exact nameB_sz h.1.1.1.1.2
  have hc : c.size ≤ 16 := by
    unfold instB at h
    simp only [Bool.and_eq_true] at h
    have h1 := h.1.1.1.1.1
    split at h1
    · exact nameB_sz h1
    · rw [decide_eq_true_eq] at h1; rw [h1]; decide
  have e : instS (putInst d v s c x, 0) = (⟨d, v, s, c, x⟩, ([], 0)) := by
    simp only [putInst, h, if_true, instS]
    rw [sT_put (by omega) (by omega), sU_put hv.1 (by omega) hv.2]
    simp only [List.singleton_append]
    rw [sB_put]
    simp only
    rw [sT_put (by omega) (by omega)]
    have := sU_put (most := 18446744073709551615) hx.1 (by omega) hx.2 []
    rw [List.append_nil] at this
    simp only [this]
  unfold instR
  rw [e]
  simp only [Inst.b, h]
  rfl
theorem inst_take {l : List Int} (hB : IsB l) (h : (instR (l, 0)).2 = 0) : putInst (instR (l, 0)).1.d (instR (l, 0)).1.v (instR (l, 0)).1.s (instR (l, 0)).1.c (instR (l, 0)).1.x = l ∧ (instR (l, 0)).1.d.size ≤ 1000000 ∧ (instR (l, 0)).1.c.size ≤ 1000000 ∧ (0 ≤ (instR (l, 0)).1.v ∧ (instR (l, 0)).1.v < 18446744073709551616) ∧ 0 ≤ (instR (l, 0)).1.x ∧ (instR (l, 0)).1.x < 18446744073709551616 := by
  obtain ⟨hq, hr⟩ := outR_fst h
  obtain ⟨hb, he, hl⟩ := wrong_0 hq
  change (instR (l, 0)).1 = _ at hr
  rw [hr]
  clear hr hq h
  simp only [instS] at hb he hl ⊢
  have b1 := isB_sT (e := 0) (most := 16) hB
  have f1 := sT_form (l := l) (e := 0) (most := 16) hB
  generalize sT 16 (l, 0) = r1 at *
  obtain ⟨v1, l1, e1⟩ := r1
  simp only at *
  have b2 := isB_sU (e := e1) (most := 18446744073709551615) b1
  have f2 := sU_form (e := e1) (most := 18446744073709551615) b1
  generalize sU 18446744073709551615 (l1, e1) = r2 at *
  obtain ⟨v2, l2, e2⟩ := r2
  simp only at *
  have b3 := isB_sB (e := e2) b2
  have f3 := sB_form (l := l2) (e := e2)
  generalize sB (l2, e2) = r3 at *
  obtain ⟨v3, l3, e3⟩ := r3
  simp only at *
  have b4 := isB_sT (e := e3) (most := 16) b3
  have f4 := sT_form (l := l3) (e := e3) (most := 16) b3
  generalize sT 16 (l3, e3) = r4 at *
  obtain ⟨v4, l4, e4⟩ := r4
  simp only at *
  have f5 := sU_form (e := e4) (most := 18446744073709551615) b4
  generalize sU 18446744073709551615 (l4, e4) = r5 at *
  obtain ⟨v5, l5, e5⟩ := r5
  simp only at *
  obtain ⟨rfl, g5, g5a, g5b⟩ := f5 he
  obtain ⟨rfl, g4⟩ := f4 rfl
  obtain ⟨rfl, g3⟩ := f3 rfl
  obtain ⟨rfl, g2, g2a, g2b⟩ := f2 rfl
  obtain ⟨_, g1⟩ := f1 rfl
  rw [hl, List.append_nil] at g5
  have hb' : instB v1 v2 v3 v4 v5 = true := hb
  have hd : v1.size ≤ 16 := by
    unfold instB at hb'
    simp only [Bool.and_eq_true] at hb'
    exact nameB_sz hb'.1.1.1.1.2
  have hc : v4.size ≤ 16 := by
    unfold instB at hb'
    simp only [Bool.and_eq_true] at hb'
    have h1 := hb'.1.1.1.1.1
    split at h1
    · exact nameB_sz h1
    · rw [decide_eq_true_eq] at h1; rw [h1]; decide
  refine ⟨?_, by omega, by omega, by omega, by omega⟩
  unfold putInst
  rw [if_pos hb', g1, g2, g3, g4, g5]
  rfl
/-- Tokens. -/
theorem tok_take {l : List Int} (hB : IsB l) (h : (tokR (l, 0)).2 = 0) : putTok (tokR (l, 0)).1.a (tokR (l, 0)).1.s (tokR (l, 0)).1.f = l ∧ 0 ≤ (tokR (l, 0)).1.s ∧ (tokR (l, 0)).1.s < 18446744073709551616 := by
  obtain ⟨hq, hr⟩ := outR_fst h
  obtain ⟨hb, he, hl⟩ := wrong_0 hq
  change (tokR (l, 0)).1 = _ at hr
  rw [hr]
  clear hr hq h
  simp only [tokS] at hb he hl ⊢
  have b1 := isB_sU (e := 0) (most := 255) hB
  have f1 := sU_form (e := 0) (most := 255) hB
  generalize sU 255 (l, 0) = r1 at *
  obtain ⟨v1, l1, e1⟩ := r1
  simp only at *
  have b2 := isB_sU (e := e1) (most := 18446744073709551615) b1
  have f2 := sU_form (e := e1) (most := 18446744073709551615) b1
  generalize sU 18446744073709551615 (l1, e1) = r2 at *
  obtain ⟨v2, l2, e2⟩ := r2
  simp only at *
  have f3 := sU_form (e := e2) (most := 255) b2
  generalize sU 255 (l2, e2) = r3 at *
  obtain ⟨v3, l3, e3⟩ := r3
  simp only at *
  obtain ⟨rfl, g3, _, _⟩ := f3 he
  obtain ⟨rfl, g2, g2a, g2b⟩ := f2 rfl
  obtain ⟨_, g1, _, _⟩ := f1 rfl
  rw [hl, List.append_nil] at g3
  have hb' : mayTok v1 (v3 - 1) := of_decide_eq_true hb
  refine ⟨?_, by omega, by omega⟩
  unfold putTok
  rw [if_pos hb', g1, g2, g3, show v3 - 1 + 1 = v3 by omega]
end Go.Proofs.Ytdbdajmgfajcpaa.Asl

