/- Entities taken of bytes: the readers' steps told by what is left; instance, token, arm, number, both. -/
import Derived.Test.YtdbdajmgfajcpaaEI
import Derived.Test.YtdbdajmgfajcpaaVR
import Derived.Test.YtdbdajmgfajcpaaV2
namespace Go.Proofs.Ytdbdajmgfajcpaa.Asl
open Go Go.RowKit
set_option linter.unusedVariables false
set_option linter.unusedSimpArgs false
set_option maxRecDepth 100000
set_option maxHeartbeats 4000000
/-- What is left, and the error. -/
abbrev RSt := List Int × Int
def sU (most : Int) (s : RSt) : Int × RSt := (if s.2 ≠ 0 then 0 else (dU s.1 most).1, s.1.drop (nxA 0 s.2 (dU s.1 most)), nxE s.2 (dU s.1 most))
def sB (s : RSt) : Int × RSt := (if s.2 ≠ 0 then 0 else (dB s.1).1, s.1.drop (nxA 0 s.2 (dB s.1)), nxE s.2 (dB s.1))
def sT (most : Int) (s : RSt) : ByteArray × RSt := (if s.2 ≠ 0 then ⟨#[]⟩ else strOfNums (dT s.1 most).1, s.1.drop (nxA 0 s.2 (dT s.1 most)), nxE s.2 (dT s.1 most))
structure At (bs : List Int) (a : Nat) (l : List Int) : Prop where
  le : a ≤ bs.length
  eq : bs.drop a = l
  isB : IsB bs
  lt : bs.length < 4611686018427387904
theorem At.step {bs : List Int} {a : Nat} {l : List Int} (h : At bs a l) {α : Type} (e : Int) (d : α × Nat × Int) (hd : d.2.1 ≤ l.length) : At bs (nxA a e d) (l.drop (nxA 0 e d)) := by
  have h1 := nxA_le e d hd
  have h2 := h.le
  have h3 : l.length = bs.length - a := by rw [← h.eq, List.length_drop]
  have h4 := nxA_add a e d
  exact ⟨by omega, by rw [h4, ← List.drop_drop, h.eq], h.isB, h.lt⟩
theorem At.b {bs : List Int} {a : Nat} {l : List Int} (h : At bs a l) : IsB l := by rw [← h.eq]; exact isB_drop h.isB a
theorem At.len {bs : List Int} {a : Nat} {l : List Int} (h : At bs a l) : l.length ≤ bs.length := by rw [← h.eq, List.length_drop]; omega
theorem x_U {bs : List Int} {a : Nat} {l : List Int} (h : At bs a l) (e most : Int) : ∃ a', At bs a' (sU most (l, e)).2.1 ∧ CallD Try.prog 87 [.ptr 100000 0, .raw (.int .u64 most)] (rdH bs a e) (.raw (.int .u64 (sU most (l, e)).1)) (rdH bs a' (sU most (l, e)).2.2) := by
  have h1 := c_RdUint bs a e most h.isB (by have := h.lt; omega) h.le
  rw [h.eq] at h1
  exact ⟨_, h.step e _ (dU_le h.b most), h1⟩
theorem x_B {bs : List Int} {a : Nat} {l : List Int} (h : At bs a l) (e : Int) : ∃ a', At bs a' (sB (l, e)).2.1 ∧ CallD Try.prog 106 [.ptr 100000 0] (rdH bs a e) (.raw (.int .u8 (sB (l, e)).1)) (rdH bs a' (sB (l, e)).2.2) := by
  have h1 := c_RdByte bs a e h.isB (by have := h.lt; omega) h.le
  rw [h.eq] at h1
  exact ⟨_, h.step e _ (by cases l <;> simp [dB]), h1⟩
theorem x_T {bs : List Int} {a : Nat} {l : List Int} (h : At bs a l) (e most : Int) (hm : -9223372036854775808 ≤ most ∧ most < 9223372036854775808) : ∃ a', At bs a' (sT most (l, e)).2.1 ∧ CallD Try.prog 88 [.ptr 100000 0, .raw (.int .i64 most)] (rdH bs a e) (.raw (.string (sT most (l, e)).1)) (rdH bs a' (sT most (l, e)).2.2) := by
  have h1 := c_RdText bs a e most h.isB (by have := h.lt; omega) h.le hm
  rw [h.eq] at h1
  exact ⟨_, h.step e _ (dT_le h.b most), h1⟩
theorem x_End {bs : List Int} {a : Nat} {l : List Int} (h : At bs a l) (e : Int) : CallD Try.prog 92 [.ptr 100000 0] (rdH bs a e) (.raw (.int .i64 (endE l e))) (rdH bs a e) := by
  have h1 := c_End bs a e (by have := h.lt; omega) h.le
  rw [h.eq] at h1
  exact h1
theorem r_U {l : List Int} (hB : IsB l) (e : Int) {most : Int} (hm : 0 ≤ most ∧ most < 18446744073709551616) : 0 ≤ (sU most (l, e)).1 ∧ (sU most (l, e)).1 ≤ most := by
  have ho := dec_ok0 hB
  simp only [sU, dU]
  repeat' split
  all_goals (first | omega | (simp; omega))
theorem r_B {l : List Int} (hB : IsB l) (e : Int) : 0 ≤ (sB (l, e)).1 ∧ (sB (l, e)).1 ≤ 255 := by
  have := dB_range hB
  simp only [sB]
  split <;> omega
theorem size_strOf (l : List Int) : (strOfNums l).size = l.length := by
  unfold strOfNums; show (List.toArray _).size = _; simp
theorem r_T (l : List Int) (e most : Int) : (sT most (l, e)).1.size ≤ l.length := by
  simp only [sT]
  split
  · exact Nat.zero_le _
  · rw [size_strOf]
    unfold dT
    repeat' split
    all_goals simp <;> omega
structure Inst where
  d : ByteArray
  v : Int
  s : Int
  c : ByteArray
  x : Int
abbrev Inst.av (i : Inst) : AV := instAV i.d i.v i.s i.c i.x
def instS (s : RSt) : Inst × RSt :=
  let r1 := sT 16 s
  let r2 := sU 18446744073709551615 r1.2
  let r3 := sB r2.2
  let r4 := sT 16 r3.2
  let r5 := sU 18446744073709551615 r4.2
  (⟨r1.1, r2.1, r3.1, r4.1, r5.1⟩, r5.2)
theorem c_tkInst {bs : List Int} {a : Nat} {l : List Int} (h : At bs a l) (e : Int) : ∃ a', At bs a' (instS (l, e)).2.1 ∧ CallD Try.prog 77 [.agg [.ptr 100000 0]] (rdH bs a e) (instS (l, e)).1.av (rdH bs a' (instS (l, e)).2.2) := by
  simp only [instS]
  obtain ⟨a1, g1, k1⟩ := x_T h e 16 (by omega)
  generalize sT 16 (l, e) = r1 at g1 k1 ⊢
  obtain ⟨v1, l1, e1⟩ := r1
  simp only at g1 k1 ⊢
  obtain ⟨a2, g2, k2⟩ := x_U g1 e1 18446744073709551615
  generalize sU 18446744073709551615 (l1, e1) = r2 at g2 k2 ⊢
  obtain ⟨v2, l2, e2⟩ := r2
  simp only at g2 k2 ⊢
  obtain ⟨a3, g3, k3⟩ := x_B g2 e2
  have w3 := r_B g2.b e2
  generalize sB (l2, e2) = r3 at g3 k3 w3 ⊢
  obtain ⟨v3, l3, e3⟩ := r3
  simp only at g3 k3 w3 ⊢
  obtain ⟨a4, g4, k4⟩ := x_T g3 e3 16 (by omega)
  generalize sT 16 (l3, e3) = r4 at g4 k4 ⊢
  obtain ⟨v4, l4, e4⟩ := r4
  simp only at g4 k4 ⊢
  obtain ⟨a5, g5, k5⟩ := x_U g4 e4 18446744073709551615
  generalize sU 18446744073709551615 (l4, e4) = r5 at g5 k5 ⊢
  obtain ⟨v5, l5, e5⟩ := r5
  simp only at g5 k5 ⊢
  refine ⟨a5, g5, ?_⟩
  clear h g1 g2 g3 g4 g5
  refine calls_go (nt := 26) (rs := [.cell 2 49]) Try.func77 rfl rfl rfl (by simp) (by intro id h; simp at h <;> omega) ?_; intro Q hQ hW
  repeat' (first
    | (with_reducible refine run_n ?_; with_reducible first | refine hK _ _ (by simp) ?_ | refine hK _ _ ?_; clear hK K)
    | (with_reducible first | refine awp_seq ?_ | refine then_n ?_ | refine then_r ?_ | refine then_e ?_ | refine awp_skip ?_ | refine awp_label ?_ | refine awp_ret ?_ | refine awp_exit ?_ | refine awp_block ?_ | refine awp_scope ?_ | refine in_n ?_ | refine in_r ?_ | refine in_e ?_ | refine in_ne (by decide) ?_ | refine ng_n ?_ | refine ng_r ?_ | refine ng_e ?_)
    | (with_reducible refine awp_regT (by kernel_rfl) ?_; intro K hK)
    | (with_reducible refine a_cond (ht := ?_) (hf := ?_) <;> intro hb <;> (try simp at hb) <;> (try contradiction) <;> (try subst hb) <;> (try omega))
    | (with_reducible first | refine a_load (hr := ?_) | refine a_fieldAddr (hr := ?_) | refine a_store (hr := ?_) | refine a_box (hr := ?_) | refine a_alloc (hr := ?_) | refine a_conv (hr := ?_) | refine a_bytesStr (hr := ?_) | refine a_strBytes (hr := ?_) | refine a_callP (p := 100000) (hcall := k1) (hr := ?_) | refine a_callP (p := 100000) (hcall := k2) (hr := ?_) | refine a_callP (p := 100000) (hcall := k3) (hr := ?_) | refine a_callP (p := 100000) (hcall := k4) (hr := ?_) | refine a_callP (p := 100000) (hcall := k5) (hr := ?_))
    | fail)
  all_goals ((refine hQ _ _ _ _ (by first | exact .inr rfl | exact .inl rfl) (by simp; exact .r) (by simp; exact .r) ?_))
  all_goals (exact Fin.keep (by simp; exact .r) (by simp; exact .r) (by simp; exact .r) (by simp))
def Inst.b (i : Inst) : Bool := instB i.d i.v i.s i.c i.x
def Inst.z : Inst := ⟨⟨#[]⟩, 0, 0, ⟨#[]⟩, 0⟩
/-- What is wrong at the end, if this may be. -/
def wrongE (b : Bool) (q : Int) : Int := if q = 0 then (if b = true then 0 else 1) else q
def outR {α : Type} (z r : α) (q : Int) : α × Int := (if q ≠ 0 then z else r, q)
theorem outR_0 {α : Type} (z r : α) : outR z r 0 = (r, 0) := rfl
theorem outR_n {α : Type} (z r : α) {q : Int} (h : ¬ q = 0) : outR z r q = (z, q) := by unfold outR; rw [if_pos h]
def instR (s : RSt) : Inst × Int := outR Inst.z (instS s).1 (wrongE (instS s).1.b (endE (instS s).2.1 (instS s).2.2))
theorem instS_small {l : List Int} (e : Int) (hB : IsB l) : (instS (l, e)).1.d.size ≤ l.length ∧ (instS (l, e)).1.c.size ≤ l.length := by
  simp only [instS]
  refine ⟨r_T l e 16, Nat.le_trans (r_T _ _ 16) ?_⟩
  simp only [sB, sU, sT, List.length_drop]
  omega
theorem c_whInst {bs : List Int} {a : Nat} {l : List Int} (h : At bs a l) (e : Int) : ∃ a', CallD Try.prog 76 [.agg [.ptr 100000 0], .fn (.func 77) [.agg [.ptr 100000 0]] [], .raw (.func (.func 63) #[] #[])] (rdH bs a e) (.tup [(instR (l, e)).1.av, .raw (.int .i64 (instR (l, e)).2)]) (rdH bs a' (instS (l, e)).2.2) := by
  obtain ⟨a1, g1, k1⟩ := c_tkInst h e
  have hsm := instS_small e h.b
  have hln := h.len
  have hlt := h.lt
  simp only [instR]
  generalize instS (l, e) = r at g1 k1 hsm ⊢
  obtain ⟨⟨d, v, s, c, x⟩, l1, e1⟩ := r
  simp only [Inst.b] at g1 k1 hsm ⊢
  have k2 := x_End g1 e1
  have k3 := c_mayInst d v s c x (by omega) (by omega)
  refine ⟨a1, ?_⟩
  obtain ⟨b, hb1⟩ : ∃ b, instB d v s c x = b := ⟨_, rfl⟩
  simp only [hb1] at k3 ⊢
  clear hb1
  generalize endE l1 e1 = q at k2 ⊢
  clear h g1 hsm hln hlt
  unfold wrongE Inst.z
  by_cases hq : q = 0
  · subst hq
    rw [if_pos rfl]
    cases b with
    | true =>
      rw [if_pos rfl, outR_0]
      refine calls_go (nt := 26) (rs := [.cell 6 49, .tmp 7]) Try.func76 rfl rfl rfl (by simp) (by intro id h; simp at h <;> omega) ?_; intro Q hQ hW
      repeat' (first
    | (with_reducible refine run_n ?_; with_reducible first | refine hK _ _ (by simp) ?_ | refine hK _ _ ?_; clear hK K)
    | (with_reducible first | refine awp_seq ?_ | refine then_n ?_ | refine then_r ?_ | refine then_e ?_ | refine awp_skip ?_ | refine awp_label ?_ | refine awp_ret ?_ | refine awp_exit ?_ | refine awp_block ?_ | refine awp_scope ?_ | refine in_n ?_ | refine in_r ?_ | refine in_e ?_ | refine in_ne (by decide) ?_ | refine ng_n ?_ | refine ng_r ?_ | refine ng_e ?_)
    | (with_reducible refine awp_regT (by kernel_rfl) ?_; intro K hK)
    | (with_reducible refine a_cond (ht := ?_) (hf := ?_) <;> intro hb <;> (try simp at hb) <;> (try contradiction) <;> (try subst hb) <;> (try omega))
    | (with_reducible first | refine a_move (hr := ?_) | refine a_assign (hr := ?_) | refine a_load (hr := ?_) | refine a_fieldAddr (hr := ?_) | refine a_bin (hr := ?_) | refine a_store (hr := ?_) | refine a_box (hr := ?_) | refine a_alloc (hr := ?_) | refine a_eqB (hr := ?_) | refine a_neB (hr := ?_) | refine a_eqS (hr := ?_) | refine a_neS (hr := ?_) | refine a_callP (p := 100000) (hcall := k1) (hr := ?_) | refine a_callP (p := 100000) (hcall := k2) (hr := ?_) | refine a_callF (hcall := k3) (hr := ?_))
    | fail)
      all_goals ((refine hQ _ _ _ _ (by first | exact .inr rfl | exact .inl rfl) (by simp; exact .r) (by simp; exact .r) ?_))
      all_goals (exact Fin.keep (by simp; exact .r) (by simp; exact .r) (by simp; exact .r) (by simp))
    | false =>
      rw [if_neg (by decide), outR_n _ _ (by decide)]
      refine calls_go (nt := 26) (rs := [.cell 6 49, .tmp 7]) Try.func76 rfl rfl rfl (by simp) (by intro id h; simp at h <;> omega) ?_; intro Q hQ hW
      repeat' (first
    | (with_reducible refine run_n ?_; with_reducible first | refine hK _ _ (by simp) ?_ | refine hK _ _ ?_; clear hK K)
    | (with_reducible first | refine awp_seq ?_ | refine then_n ?_ | refine then_r ?_ | refine then_e ?_ | refine awp_skip ?_ | refine awp_label ?_ | refine awp_ret ?_ | refine awp_exit ?_ | refine awp_block ?_ | refine awp_scope ?_ | refine in_n ?_ | refine in_r ?_ | refine in_e ?_ | refine in_ne (by decide) ?_ | refine ng_n ?_ | refine ng_r ?_ | refine ng_e ?_)
    | (with_reducible refine awp_regT (by kernel_rfl) ?_; intro K hK)
    | (with_reducible refine a_cond (ht := ?_) (hf := ?_) <;> intro hb <;> (try simp at hb) <;> (try contradiction) <;> (try subst hb) <;> (try omega))
    | (with_reducible first | refine a_move (hr := ?_) | refine a_assign (hr := ?_) | refine a_load (hr := ?_) | refine a_fieldAddr (hr := ?_) | refine a_bin (hr := ?_) | refine a_store (hr := ?_) | refine a_box (hr := ?_) | refine a_alloc (hr := ?_) | refine a_eqB (hr := ?_) | refine a_neB (hr := ?_) | refine a_eqS (hr := ?_) | refine a_neS (hr := ?_) | refine a_callP (p := 100000) (hcall := k1) (hr := ?_) | refine a_callP (p := 100000) (hcall := k2) (hr := ?_) | refine a_callF (hcall := k3) (hr := ?_))
    | fail)
      all_goals ((refine hQ _ _ _ _ (by first | exact .inr rfl | exact .inl rfl) (by simp; exact .r) (by simp; exact .r) ?_))
      all_goals (exact Fin.keep (by simp; exact .r) (by simp; exact .r) (by simp; exact .r) (by simp))
  · rw [if_neg hq, outR_n _ _ hq]
    refine calls_go (nt := 26) (rs := [.cell 6 49, .tmp 7]) Try.func76 rfl rfl rfl (by simp) (by intro id h; simp at h <;> omega) ?_; intro Q hQ hW
    repeat' (first
    | (with_reducible refine run_n ?_; with_reducible first | refine hK _ _ (by simp) ?_ | refine hK _ _ ?_; clear hK K)
    | (with_reducible first | refine awp_seq ?_ | refine then_n ?_ | refine then_r ?_ | refine then_e ?_ | refine awp_skip ?_ | refine awp_label ?_ | refine awp_ret ?_ | refine awp_exit ?_ | refine awp_block ?_ | refine awp_scope ?_ | refine in_n ?_ | refine in_r ?_ | refine in_e ?_ | refine in_ne (by decide) ?_ | refine ng_n ?_ | refine ng_r ?_ | refine ng_e ?_)
    | (with_reducible refine awp_regT (by kernel_rfl) ?_; intro K hK)
    | (with_reducible refine a_cond (ht := ?_) (hf := ?_) <;> intro hb <;> (try simp at hb) <;> (try contradiction) <;> (try subst hb) <;> (try omega))
    | (with_reducible first | refine a_move (hr := ?_) | refine a_assign (hr := ?_) | refine a_load (hr := ?_) | refine a_fieldAddr (hr := ?_) | refine a_bin (hr := ?_) | refine a_store (hr := ?_) | refine a_box (hr := ?_) | refine a_alloc (hr := ?_) | refine a_eqB (hr := ?_) | refine a_neB (hr := ?_) | refine a_eqS (hr := ?_) | refine a_neS (hr := ?_) | refine a_callP (p := 100000) (hcall := k1) (hr := ?_) | refine a_callP (p := 100000) (hcall := k2) (hr := ?_) | refine a_callF (hcall := k3) (hr := ?_))
    | fail)
    all_goals ((refine hQ _ _ _ _ (by first | exact .inr rfl | exact .inl rfl) (by simp; exact .r) (by simp; exact .r) ?_))
    all_goals (exact Fin.keep (by simp; exact .r) (by simp; exact .r) (by simp; exact .r) (by simp))
theorem c_TakeInst (l : List Int) (hB : IsB l) (hl : l.length ≤ 1000) : CallD Try.prog 34 [.sl 1 (u8s l)] noHeap (.tup [(instR (l, 0)).1.av, .raw (.int .i64 (instR (l, 0)).2)]) noHeap := by
  have h : At l 0 l := ⟨Nat.zero_le _, rfl, hB, by omega⟩
  obtain ⟨a1, k1⟩ := c_whInst h 0
  have k0 := c_Read l (by omega)
  generalize instR (l, 0) = r at k1 ⊢
  obtain ⟨i, q⟩ := r
  generalize (instS (l, 0)).2.2 = q1 at k1
  obtain ⟨d, v, s, c, x⟩ := i
  simp only at k1 ⊢
  clear h
  refine calls_go (nt := 14) (rs := [.cell 2 49, .tmp 3]) Try.func34 rfl rfl rfl (by simp) (by intro id h; simp at h <;> omega) ?_; intro Q hQ hW
  repeat' (first
    | (with_reducible refine run_n ?_; with_reducible first | refine hK _ _ (by simp) ?_ | refine hK _ _ ?_; clear hK K)
    | (with_reducible first | refine awp_seq ?_ | refine then_n ?_ | refine then_r ?_ | refine then_e ?_ | refine awp_skip ?_ | refine awp_label ?_ | refine awp_ret ?_ | refine awp_exit ?_ | refine awp_block ?_ | refine awp_scope ?_ | refine in_n ?_ | refine in_r ?_ | refine in_e ?_ | refine in_ne (by decide) ?_ | refine ng_n ?_ | refine ng_r ?_ | refine ng_e ?_)
    | (with_reducible refine awp_regT (by kernel_rfl) ?_; intro K hK)
    | (with_reducible refine a_cond (ht := ?_) (hf := ?_) <;> intro hb <;> (try simp at hb) <;> (try contradiction) <;> (try subst hb) <;> (try omega))
    | (with_reducible first | refine a_move (hr := ?_) | refine a_assign (hr := ?_) | refine a_load (hr := ?_) | refine a_extract (hr := ?_) | refine a_store (hr := ?_) | refine a_alloc (hr := ?_) | refine a_makeFunc (hr := ?_) | refine a_build (hr := ?_) | refine a_callB (hcall := k0) (hr := ?_) | refine a_callP (p := 6) (hcall := k1) (hr := ?_))
    | fail)
  all_goals ((refine hQ _ _ _ _ (by first | exact .inr rfl | exact .inl rfl) (by simp; exact .r) (by simp; exact .r) ?_))
  all_goals (exact Fin.drop (by simp; exact .r) (by simp))
theorem isB_sU {l : List Int} {e most : Int} (h : IsB l) : IsB (sU most (l, e)).2.1 := isB_drop h _
theorem isB_sB {l : List Int} {e : Int} (h : IsB l) : IsB (sB (l, e)).2.1 := isB_drop h _
theorem isB_sT {l : List Int} {e most : Int} (h : IsB l) : IsB (sT most (l, e)).2.1 := isB_drop h _
theorem ln_sU {l : List Int} {e most : Int} {n : Nat} (h : l.length ≤ n) : (sU most (l, e)).2.1.length ≤ n := by simp only [sU, List.length_drop]; omega
theorem ln_sB {l : List Int} {e : Int} {n : Nat} (h : l.length ≤ n) : (sB (l, e)).2.1.length ≤ n := by simp only [sB, List.length_drop]; omega
theorem ln_sT {l : List Int} {e most : Int} {n : Nat} (h : l.length ≤ n) : (sT most (l, e)).2.1.length ≤ n := by simp only [sT, List.length_drop]; omega
theorem y_U {l : List Int} (e most : Int) (hB : IsB l) (hl : l.length ≤ 4611686018427387903) : CallD Try.prog 80 [.ptr 100000 0, .raw (.int .u64 most)] (rfH l e) (.raw (.int .u64 (sU most (l, e)).1)) (rfH (sU most (l, e)).2.1 (sU most (l, e)).2.2) := c_RfUint l e most hB (by omega)
theorem y_B {l : List Int} (e : Int) (hB : IsB l) (hl : l.length ≤ 4611686018427387903) : CallD Try.prog 81 [.ptr 100000 0] (rfH l e) (.raw (.int .u8 (sB (l, e)).1)) (rfH (sB (l, e)).2.1 (sB (l, e)).2.2) := c_RfByte l e hB (by omega)
theorem y_T {l : List Int} (e most : Int) (hB : IsB l) (hl : l.length ≤ 4611686018427387903) (hm : -9223372036854775808 ≤ most ∧ most < 9223372036854775808) : CallD Try.prog 79 [.ptr 100000 0, .raw (.int .i64 most)] (rfH l e) (.raw (.string (sT most (l, e)).1)) (rfH (sT most (l, e)).2.1 (sT most (l, e)).2.2) := c_RfText l e most hB (by omega) hm
theorem c_rend (l : List Int) (e : Int) (b : Bool) (hl : l.length ≤ 4611686018427387903) : CallD Try.prog 82 [.ptr 100000 0, .raw (.bool b)] (rfH l e) (.raw (.int .i64 (wrongE b (endE l e)))) (rfH l e) := by
  have k := c_RfEnd l e (by omega)
  generalize endE l e = q at k ⊢
  unfold wrongE
  by_cases hq : q = 0
  · subst hq
    cases b with
    | true =>
      refine calls_go (nt := 15) (rs := [.tmp 4]) Try.func82 rfl rfl rfl (by simp) (by intro id h; simp at h <;> omega) ?_; intro Q hQ hW
      repeat' (first
    | (with_reducible refine run_n ?_; with_reducible first | refine hK _ _ (by simp) ?_ | refine hK _ _ ?_; clear hK K)
    | (with_reducible first | refine awp_seq ?_ | refine then_n ?_ | refine then_r ?_ | refine then_e ?_ | refine awp_skip ?_ | refine awp_label ?_ | refine awp_ret ?_ | refine awp_exit ?_ | refine awp_block ?_ | refine awp_scope ?_ | refine in_n ?_ | refine in_r ?_ | refine in_e ?_ | refine in_ne (by decide) ?_ | refine ng_n ?_ | refine ng_r ?_ | refine ng_e ?_)
    | (with_reducible refine awp_regT (by kernel_rfl) ?_; intro K hK)
    | (with_reducible refine a_cond (ht := ?_) (hf := ?_) <;> intro hb <;> (try simp at hb) <;> (try contradiction) <;> (try subst hb) <;> (try omega))
    | (with_reducible first | refine a_move (hr := ?_) | refine a_assign (hr := ?_) | refine a_bin (hr := ?_) | refine a_pick (hr := ?_) | refine a_un (hr := ?_) | refine a_eqB (hr := ?_) | refine a_eqS (hr := ?_) | refine a_callP (p := 100000) (hcall := k) (hr := ?_) | refine a_gT (hr := ?_) | refine a_gF (hr := ?_) | refine a_gU (hr := ?_))
    | (with_reducible refine a_gB (hT := ?_) (hF := ?_) <;> intro hb <;> (try simp at hb) <;> (try contradiction) <;> (try subst hb) <;> (try omega))
    | fail)
      all_goals ((refine hQ _ _ _ _ (by first | exact .inr rfl | exact .inl rfl) (by simp; exact .r) (by simp; exact .r) ?_))
      all_goals (exact Fin.keep (by simp; exact .r) (by simp; exact .r) (by simp; exact .r) (by simp))
    | false =>
      refine calls_go (nt := 15) (rs := [.tmp 4]) Try.func82 rfl rfl rfl (by simp) (by intro id h; simp at h <;> omega) ?_; intro Q hQ hW
      repeat' (first
    | (with_reducible refine run_n ?_; with_reducible first | refine hK _ _ (by simp) ?_ | refine hK _ _ ?_; clear hK K)
    | (with_reducible first | refine awp_seq ?_ | refine then_n ?_ | refine then_r ?_ | refine then_e ?_ | refine awp_skip ?_ | refine awp_label ?_ | refine awp_ret ?_ | refine awp_exit ?_ | refine awp_block ?_ | refine awp_scope ?_ | refine in_n ?_ | refine in_r ?_ | refine in_e ?_ | refine in_ne (by decide) ?_ | refine ng_n ?_ | refine ng_r ?_ | refine ng_e ?_)
    | (with_reducible refine awp_regT (by kernel_rfl) ?_; intro K hK)
    | (with_reducible refine a_cond (ht := ?_) (hf := ?_) <;> intro hb <;> (try simp at hb) <;> (try contradiction) <;> (try subst hb) <;> (try omega))
    | (with_reducible first | refine a_move (hr := ?_) | refine a_assign (hr := ?_) | refine a_bin (hr := ?_) | refine a_pick (hr := ?_) | refine a_un (hr := ?_) | refine a_eqB (hr := ?_) | refine a_eqS (hr := ?_) | refine a_callP (p := 100000) (hcall := k) (hr := ?_) | refine a_gT (hr := ?_) | refine a_gF (hr := ?_) | refine a_gU (hr := ?_))
    | (with_reducible refine a_gB (hT := ?_) (hF := ?_) <;> intro hb <;> (try simp at hb) <;> (try contradiction) <;> (try subst hb) <;> (try omega))
    | fail)
      all_goals ((refine hQ _ _ _ _ (by first | exact .inr rfl | exact .inl rfl) (by simp; exact .r) (by simp; exact .r) ?_))
      all_goals (exact Fin.keep (by simp; exact .r) (by simp; exact .r) (by simp; exact .r) (by simp))
  · rw [if_neg hq]
    refine calls_go (nt := 15) (rs := [.tmp 4]) Try.func82 rfl rfl rfl (by simp) (by intro id h; simp at h <;> omega) ?_; intro Q hQ hW
    repeat' (first
    | (with_reducible refine run_n ?_; with_reducible first | refine hK _ _ (by simp) ?_ | refine hK _ _ ?_; clear hK K)
    | (with_reducible first | refine awp_seq ?_ | refine then_n ?_ | refine then_r ?_ | refine then_e ?_ | refine awp_skip ?_ | refine awp_label ?_ | refine awp_ret ?_ | refine awp_exit ?_ | refine awp_block ?_ | refine awp_scope ?_ | refine in_n ?_ | refine in_r ?_ | refine in_e ?_ | refine in_ne (by decide) ?_ | refine ng_n ?_ | refine ng_r ?_ | refine ng_e ?_)
    | (with_reducible refine awp_regT (by kernel_rfl) ?_; intro K hK)
    | (with_reducible refine a_cond (ht := ?_) (hf := ?_) <;> intro hb <;> (try simp at hb) <;> (try contradiction) <;> (try subst hb) <;> (try omega))
    | (with_reducible first | refine a_move (hr := ?_) | refine a_assign (hr := ?_) | refine a_bin (hr := ?_) | refine a_pick (hr := ?_) | refine a_un (hr := ?_) | refine a_eqB (hr := ?_) | refine a_eqS (hr := ?_) | refine a_callP (p := 100000) (hcall := k) (hr := ?_) | refine a_gT (hr := ?_) | refine a_gF (hr := ?_) | refine a_gU (hr := ?_))
    | (with_reducible refine a_gB (hT := ?_) (hF := ?_) <;> intro hb <;> (try simp at hb) <;> (try contradiction) <;> (try subst hb) <;> (try omega))
    | fail)
    all_goals ((refine hQ _ _ _ _ (by first | exact .inr rfl | exact .inl rfl) (by simp; exact .r) (by simp; exact .r) ?_))
    all_goals (exact Fin.keep (by simp; exact .r) (by simp; exact .r) (by simp; exact .r) (by simp))
theorem c_rTakeInst (l : List Int) (hB : IsB l) (hl : l.length ≤ 1000) : CallD Try.prog 35 [.sl 1 (u8s l)] noHeap (.tup [(instR (l, 0)).1.av, .raw (.int .i64 (instR (l, 0)).2)]) noHeap := by
  have k0 := c_RfRead l (by omega)
  simp only [instR, instS]
  have k1 := y_T (l := l) 0 16 hB (by omega) (by omega)
  have z1 := r_T l 0 16
  have b1 := isB_sT (e := 0) (most := 16) hB
  have n1 := ln_sT (e := 0) (most := 16) hl
  generalize sT 16 (l, 0) = r1 at k1 z1 b1 n1 ⊢
  obtain ⟨v1, l1, e1⟩ := r1
  simp only at k1 z1 b1 n1 ⊢
  have k2 := y_U (l := l1) e1 18446744073709551615 b1 (by omega)
  have z2 := r_U b1 e1 (most := 18446744073709551615) (by omega)
  have b2 := isB_sU (e := e1) (most := 18446744073709551615) b1
  have n2 := ln_sU (e := e1) (most := 18446744073709551615) n1
  generalize sU 18446744073709551615 (l1, e1) = r2 at k2 z2 b2 n2 ⊢
  obtain ⟨v2, l2, e2⟩ := r2
  simp only at k2 z2 b2 n2 ⊢
  have k3 := y_B (l := l2) e2 b2 (by omega)
  have z3 := r_B b2 e2
  have b3 := isB_sB (e := e2) b2
  have n3 := ln_sB (e := e2) n2
  generalize sB (l2, e2) = r3 at k3 z3 b3 n3 ⊢
  obtain ⟨v3, l3, e3⟩ := r3
  simp only at k3 z3 b3 n3 ⊢
  have k4 := y_T (l := l3) e3 16 b3 (by omega) (by omega)
  have z4 := r_T l3 e3 16
  have b4 := isB_sT (e := e3) (most := 16) b3
  have n4 := ln_sT (e := e3) (most := 16) n3
  generalize sT 16 (l3, e3) = r4 at k4 z4 b4 n4 ⊢
  obtain ⟨v4, l4, e4⟩ := r4
  simp only at k4 z4 b4 n4 ⊢
  have k5 := y_U (l := l4) e4 18446744073709551615 b4 (by omega)
  have z5 := r_U b4 e4 (most := 18446744073709551615) (by omega)
  have n5 := ln_sU (e := e4) (most := 18446744073709551615) n4
  generalize sU 18446744073709551615 (l4, e4) = r5 at k5 z5 n5 ⊢
  obtain ⟨v5, l5, e5⟩ := r5
  simp only at k5 z5 n5 ⊢
  have k6 := c_rinst v1 v2 v3 v4 v5 (by omega) (by omega) (by omega) (by omega)
  have k7 := fun b => c_rend l5 e5 b (by omega)
  simp only [Inst.b]
  obtain ⟨b, hb1⟩ : ∃ b, instB v1 v2 v3 v4 v5 = b := ⟨_, rfl⟩
  simp only [hb1] at k6 ⊢
  have k7 := k7 b
  obtain ⟨q, hq⟩ : ∃ q, wrongE b (endE l5 e5) = q := ⟨_, rfl⟩
  rw [hq] at k7 ⊢
  clear hb1 hq hB hl b1 b2 b3 b4 n1 n2 n3 n4 n5
  unfold Inst.z
  by_cases hq : q = 0
  · subst hq
    rw [outR_0]
    refine calls_go (nt := 34) (rs := [.cell 2 49, .tmp 3]) Try.func35 rfl rfl rfl (by simp) (by intro id h; simp at h <;> omega) ?_; intro Q hQ hW
    repeat' (first
    | (with_reducible refine run_n ?_; with_reducible first | refine hK _ _ (by simp) ?_ | refine hK _ _ ?_; clear hK K)
    | (with_reducible first | refine awp_seq ?_ | refine then_n ?_ | refine then_r ?_ | refine then_e ?_ | refine awp_skip ?_ | refine awp_label ?_ | refine awp_ret ?_ | refine awp_exit ?_ | refine awp_block ?_ | refine awp_scope ?_ | refine in_n ?_ | refine in_r ?_ | refine in_e ?_ | refine in_ne (by decide) ?_ | refine ng_n ?_ | refine ng_r ?_ | refine ng_e ?_)
    | (with_reducible refine awp_regT (by kernel_rfl) ?_; intro K hK)
    | (with_reducible refine a_cond (ht := ?_) (hf := ?_) <;> intro hb <;> (try simp at hb) <;> (try contradiction) <;> (try subst hb) <;> (try omega))
    | (with_reducible first | refine a_move (hr := ?_) | refine a_assign (hr := ?_) | refine a_load (hr := ?_) | refine a_fieldAddr (hr := ?_) | refine a_bin (hr := ?_) | refine a_store (hr := ?_) | refine a_alloc (hr := ?_) | refine a_neB (hr := ?_) | refine a_conv (hr := ?_) | refine a_bytesStr (hr := ?_) | refine a_strBytes (hr := ?_) | refine a_neS (hr := ?_) | refine a_build (hr := ?_) | refine a_callB (hcall := k0) (hr := ?_) | refine a_callP (p := 8) (hcall := k1) (hr := ?_) | refine a_callP (p := 8) (hcall := k2) (hr := ?_) | refine a_callP (p := 8) (hcall := k3) (hr := ?_) | refine a_callP (p := 8) (hcall := k4) (hr := ?_) | refine a_callP (p := 8) (hcall := k5) (hr := ?_) | refine a_call0 (hcall := k6) (hr := ?_) | refine a_callP (p := 8) (hcall := k7) (hr := ?_))
    | fail)
    all_goals ((refine hQ _ _ _ _ (by first | exact .inr rfl | exact .inl rfl) (by simp; exact .r) (by simp; exact .r) ?_))
    all_goals (exact Fin.drop (by simp; exact .r) (by simp))
  · rw [outR_n _ _ hq]
    refine calls_go (nt := 34) (rs := [.cell 2 49, .tmp 3]) Try.func35 rfl rfl rfl (by simp) (by intro id h; simp at h <;> omega) ?_; intro Q hQ hW
    repeat' (first
    | (with_reducible refine run_n ?_; with_reducible first | refine hK _ _ (by simp) ?_ | refine hK _ _ ?_; clear hK K)
    | (with_reducible first | refine awp_seq ?_ | refine then_n ?_ | refine then_r ?_ | refine then_e ?_ | refine awp_skip ?_ | refine awp_label ?_ | refine awp_ret ?_ | refine awp_exit ?_ | refine awp_block ?_ | refine awp_scope ?_ | refine in_n ?_ | refine in_r ?_ | refine in_e ?_ | refine in_ne (by decide) ?_ | refine ng_n ?_ | refine ng_r ?_ | refine ng_e ?_)
    | (with_reducible refine awp_regT (by kernel_rfl) ?_; intro K hK)
    | (with_reducible refine a_cond (ht := ?_) (hf := ?_) <;> intro hb <;> (try simp at hb) <;> (try contradiction) <;> (try subst hb) <;> (try omega))
    | (with_reducible first | refine a_move (hr := ?_) | refine a_assign (hr := ?_) | refine a_load (hr := ?_) | refine a_fieldAddr (hr := ?_) | refine a_bin (hr := ?_) | refine a_store (hr := ?_) | refine a_alloc (hr := ?_) | refine a_neB (hr := ?_) | refine a_conv (hr := ?_) | refine a_bytesStr (hr := ?_) | refine a_strBytes (hr := ?_) | refine a_neS (hr := ?_) | refine a_build (hr := ?_) | refine a_callB (hcall := k0) (hr := ?_) | refine a_callP (p := 8) (hcall := k1) (hr := ?_) | refine a_callP (p := 8) (hcall := k2) (hr := ?_) | refine a_callP (p := 8) (hcall := k3) (hr := ?_) | refine a_callP (p := 8) (hcall := k4) (hr := ?_) | refine a_callP (p := 8) (hcall := k5) (hr := ?_) | refine a_call0 (hcall := k6) (hr := ?_) | refine a_callP (p := 8) (hcall := k7) (hr := ?_))
    | fail)
    all_goals ((refine hQ _ _ _ _ (by first | exact .inr rfl | exact .inl rfl) (by simp; exact .r) (by simp; exact .r) ?_))
    all_goals (exact Fin.drop (by simp; exact .r) (by simp))
def numR (l : List Int) : Int × Int := outR 0 (sU 18446744073709551615 (l, 0)).1 (endE (sU 18446744073709551615 (l, 0)).2.1 (sU 18446744073709551615 (l, 0)).2.2)
theorem c_TakeNum (l : List Int) (hB : IsB l) (hl : l.length ≤ 1000) : CallD Try.prog 42 [.sl 1 (u8s l)] noHeap (.tup [.raw (.int .u64 (numR l).1), .raw (.int .i64 (numR l).2)]) noHeap := by
  have h : At l 0 l := ⟨Nat.zero_le _, rfl, hB, by omega⟩
  have k0 := c_Read l (by omega)
  obtain ⟨a1, g1, k1⟩ := x_U h 0 18446744073709551615
  simp only [numR]
  generalize sU 18446744073709551615 (l, 0) = r at g1 k1 ⊢
  obtain ⟨v, l1, e1⟩ := r
  simp only at g1 k1 ⊢
  have k2 := x_End g1 e1
  generalize endE l1 e1 = q at k2 ⊢
  clear h g1 hB
  by_cases hq : q = 0
  · subst hq
    rw [outR_0]
    refine calls_go (nt := 17) (rs := [.tmp 2, .tmp 3]) Try.func42 rfl rfl rfl (by simp) (by intro id h; simp at h <;> omega) ?_; intro Q hQ hW
    repeat' (first
    | (with_reducible refine run_n ?_; with_reducible first | refine hK _ _ (by simp) ?_ | refine hK _ _ ?_; clear hK K)
    | (with_reducible first | refine awp_seq ?_ | refine then_n ?_ | refine then_r ?_ | refine then_e ?_ | refine awp_skip ?_ | refine awp_label ?_ | refine awp_ret ?_ | refine awp_exit ?_ | refine awp_block ?_ | refine awp_scope ?_ | refine in_n ?_ | refine in_r ?_ | refine in_e ?_ | refine in_ne (by decide) ?_ | refine ng_n ?_ | refine ng_r ?_ | refine ng_e ?_)
    | (with_reducible refine awp_regT (by kernel_rfl) ?_; intro K hK)
    | (with_reducible refine a_cond (ht := ?_) (hf := ?_) <;> intro hb <;> (try simp at hb) <;> (try contradiction) <;> (try subst hb) <;> (try omega))
    | (with_reducible first | refine a_move (hr := ?_) | refine a_assign (hr := ?_) | refine a_bin (hr := ?_) | refine a_neB (hr := ?_) | refine a_neS (hr := ?_) | refine a_callB (hcall := k0) (hr := ?_) | refine a_callP (p := 8) (hcall := k1) (hr := ?_) | refine a_callP (p := 8) (hcall := k2) (hr := ?_))
    | fail)
    all_goals ((refine hQ _ _ _ _ (by first | exact .inr rfl | exact .inl rfl) (by simp; exact .r) (by simp; exact .r) ?_))
    all_goals (exact Fin.drop (by simp; exact .r) (by simp))
  · rw [outR_n _ _ hq]
    refine calls_go (nt := 17) (rs := [.tmp 2, .tmp 3]) Try.func42 rfl rfl rfl (by simp) (by intro id h; simp at h <;> omega) ?_; intro Q hQ hW
    repeat' (first
    | (with_reducible refine run_n ?_; with_reducible first | refine hK _ _ (by simp) ?_ | refine hK _ _ ?_; clear hK K)
    | (with_reducible first | refine awp_seq ?_ | refine then_n ?_ | refine then_r ?_ | refine then_e ?_ | refine awp_skip ?_ | refine awp_label ?_ | refine awp_ret ?_ | refine awp_exit ?_ | refine awp_block ?_ | refine awp_scope ?_ | refine in_n ?_ | refine in_r ?_ | refine in_e ?_ | refine in_ne (by decide) ?_ | refine ng_n ?_ | refine ng_r ?_ | refine ng_e ?_)
    | (with_reducible refine awp_regT (by kernel_rfl) ?_; intro K hK)
    | (with_reducible refine a_cond (ht := ?_) (hf := ?_) <;> intro hb <;> (try simp at hb) <;> (try contradiction) <;> (try subst hb) <;> (try omega))
    | (with_reducible first | refine a_move (hr := ?_) | refine a_assign (hr := ?_) | refine a_bin (hr := ?_) | refine a_neB (hr := ?_) | refine a_neS (hr := ?_) | refine a_callB (hcall := k0) (hr := ?_) | refine a_callP (p := 8) (hcall := k1) (hr := ?_) | refine a_callP (p := 8) (hcall := k2) (hr := ?_))
    | fail)
    all_goals ((refine hQ _ _ _ _ (by first | exact .inr rfl | exact .inl rfl) (by simp; exact .r) (by simp; exact .r) ?_))
    all_goals (exact Fin.drop (by simp; exact .r) (by simp))
theorem c_rTakeNum (l : List Int) (hB : IsB l) (hl : l.length ≤ 1000) : CallD Try.prog 43 [.sl 1 (u8s l)] noHeap (.tup [.raw (.int .u64 (numR l).1), .raw (.int .i64 (numR l).2)]) noHeap := by
  have k0 := c_RfRead l (by omega)
  have k1 := y_U (l := l) 0 18446744073709551615 hB (by omega)
  have n1 := ln_sU (e := 0) (most := 18446744073709551615) hl
  simp only [numR]
  generalize sU 18446744073709551615 (l, 0) = r at k1 n1 ⊢
  obtain ⟨v, l1, e1⟩ := r
  simp only at k1 n1 ⊢
  have k2 := c_RfEnd l1 e1 (by omega)
  generalize endE l1 e1 = q at k2 ⊢
  clear hB
  by_cases hq : q = 0
  · subst hq
    rw [outR_0]
    refine calls_go (nt := 17) (rs := [.tmp 2, .tmp 3]) Try.func43 rfl rfl rfl (by simp) (by intro id h; simp at h <;> omega) ?_; intro Q hQ hW
    repeat' (first
    | (with_reducible refine run_n ?_; with_reducible first | refine hK _ _ (by simp) ?_ | refine hK _ _ ?_; clear hK K)
    | (with_reducible first | refine awp_seq ?_ | refine then_n ?_ | refine then_r ?_ | refine then_e ?_ | refine awp_skip ?_ | refine awp_label ?_ | refine awp_ret ?_ | refine awp_exit ?_ | refine awp_block ?_ | refine awp_scope ?_ | refine in_n ?_ | refine in_r ?_ | refine in_e ?_ | refine in_ne (by decide) ?_ | refine ng_n ?_ | refine ng_r ?_ | refine ng_e ?_)
    | (with_reducible refine awp_regT (by kernel_rfl) ?_; intro K hK)
    | (with_reducible refine a_cond (ht := ?_) (hf := ?_) <;> intro hb <;> (try simp at hb) <;> (try contradiction) <;> (try subst hb) <;> (try omega))
    | (with_reducible first | refine a_move (hr := ?_) | refine a_assign (hr := ?_) | refine a_bin (hr := ?_) | refine a_neB (hr := ?_) | refine a_neS (hr := ?_) | refine a_callB (hcall := k0) (hr := ?_) | refine a_callP (p := 8) (hcall := k1) (hr := ?_) | refine a_callP (p := 8) (hcall := k2) (hr := ?_))
    | fail)
    all_goals ((refine hQ _ _ _ _ (by first | exact .inr rfl | exact .inl rfl) (by simp; exact .r) (by simp; exact .r) ?_))
    all_goals (exact Fin.drop (by simp; exact .r) (by simp))
  · rw [outR_n _ _ hq]
    refine calls_go (nt := 17) (rs := [.tmp 2, .tmp 3]) Try.func43 rfl rfl rfl (by simp) (by intro id h; simp at h <;> omega) ?_; intro Q hQ hW
    repeat' (first
    | (with_reducible refine run_n ?_; with_reducible first | refine hK _ _ (by simp) ?_ | refine hK _ _ ?_; clear hK K)
    | (with_reducible first | refine awp_seq ?_ | refine then_n ?_ | refine then_r ?_ | refine then_e ?_ | refine awp_skip ?_ | refine awp_label ?_ | refine awp_ret ?_ | refine awp_exit ?_ | refine awp_block ?_ | refine awp_scope ?_ | refine in_n ?_ | refine in_r ?_ | refine in_e ?_ | refine in_ne (by decide) ?_ | refine ng_n ?_ | refine ng_r ?_ | refine ng_e ?_)
    | (with_reducible refine awp_regT (by kernel_rfl) ?_; intro K hK)
    | (with_reducible refine a_cond (ht := ?_) (hf := ?_) <;> intro hb <;> (try simp at hb) <;> (try contradiction) <;> (try subst hb) <;> (try omega))
    | (with_reducible first | refine a_move (hr := ?_) | refine a_assign (hr := ?_) | refine a_bin (hr := ?_) | refine a_neB (hr := ?_) | refine a_neS (hr := ?_) | refine a_callB (hcall := k0) (hr := ?_) | refine a_callP (p := 8) (hcall := k1) (hr := ?_) | refine a_callP (p := 8) (hcall := k2) (hr := ?_))
    | fail)
    all_goals ((refine hQ _ _ _ _ (by first | exact .inr rfl | exact .inl rfl) (by simp; exact .r) (by simp; exact .r) ?_))
    all_goals (exact Fin.drop (by simp; exact .r) (by simp))
structure Tok where
  a : Int
  s : Int
  f : Int
abbrev Tok.av (t : Tok) : AV := tokAV t.a t.s t.f
def Tok.z : Tok := ⟨0, 0, 0⟩
def Tok.b (t : Tok) : Bool := decide (mayTok t.a t.f)
def tokS (s : RSt) : Tok × RSt :=
  let r1 := sU 255 s
  let r2 := sU 18446744073709551615 r1.2
  let r3 := sU 255 r2.2
  (⟨r1.1, r2.1, r3.1 - 1⟩, r3.2)
def tokR (s : RSt) : Tok × Int := outR Tok.z (tokS s).1 (wrongE (tokS s).1.b (endE (tokS s).2.1 (tokS s).2.2))
theorem c_tkTok {bs : List Int} {a : Nat} {l : List Int} (h : At bs a l) (e : Int) : ∃ a', At bs a' (tokS (l, e)).2.1 ∧ CallD Try.prog 84 [.agg [.ptr 100000 0]] (rdH bs a e) (tokS (l, e)).1.av (rdH bs a' (tokS (l, e)).2.2) := by
  simp only [tokS]
  obtain ⟨a1, g1, k1⟩ := x_U h e 255
  have w1 := r_U h.b e (most := 255) (by omega)
  generalize sU 255 (l, e) = r1 at g1 k1 w1 ⊢
  obtain ⟨v1, l1, e1⟩ := r1
  simp only at g1 k1 w1 ⊢
  obtain ⟨a2, g2, k2⟩ := x_U g1 e1 18446744073709551615
  generalize sU 18446744073709551615 (l1, e1) = r2 at g2 k2 ⊢
  obtain ⟨v2, l2, e2⟩ := r2
  simp only at g2 k2 ⊢
  obtain ⟨a3, g3, k3⟩ := x_U g2 e2 255
  have w3 := r_U g2.b e2 (most := 255) (by omega)
  generalize sU 255 (l2, e2) = r3 at g3 k3 w3 ⊢
  obtain ⟨v3, l3, e3⟩ := r3
  simp only at g3 k3 w3 ⊢
  refine ⟨a3, g3, ?_⟩
  clear h g1 g2 g3
  refine calls_go (nt := 20) (rs := [.cell 2 51]) Try.func84 rfl rfl rfl (by simp) (by intro id h; simp at h <;> omega) ?_; intro Q hQ hW
  repeat' (first
    | (with_reducible refine run_n ?_; with_reducible first | refine hK _ _ (by simp) ?_ | refine hK _ _ ?_; clear hK K)
    | (with_reducible first | refine awp_seq ?_ | refine then_n ?_ | refine then_r ?_ | refine then_e ?_ | refine awp_skip ?_ | refine awp_label ?_ | refine awp_ret ?_ | refine awp_exit ?_ | refine awp_block ?_ | refine awp_scope ?_ | refine in_n ?_ | refine in_r ?_ | refine in_e ?_ | refine in_ne (by decide) ?_ | refine ng_n ?_ | refine ng_r ?_ | refine ng_e ?_)
    | (with_reducible refine awp_regT (by kernel_rfl) ?_; intro K hK)
    | (with_reducible refine a_cond (ht := ?_) (hf := ?_) <;> intro hb <;> (try simp at hb) <;> (try contradiction) <;> (try subst hb) <;> (try omega))
    | (with_reducible first | refine a_load (hr := ?_) | refine a_fieldAddr (hr := ?_) | refine a_bin (hr := ?_) | refine a_store (hr := ?_) | refine a_box (hr := ?_) | refine a_alloc (hr := ?_) | refine a_conv (hr := ?_) | refine a_bytesStr (hr := ?_) | refine a_strBytes (hr := ?_) | refine a_callP (p := 100000) (hcall := k1) (hr := ?_) | refine a_callP (p := 100000) (hcall := k2) (hr := ?_) | refine a_callP (p := 100000) (hcall := k3) (hr := ?_))
    | fail)
  all_goals ((refine hQ _ _ _ _ (by first | exact .inr rfl | exact .inl rfl) (by simp; exact .r) (by simp; exact .r) ?_))
  all_goals (exact Fin.keep (by simp; exact .r) (by simp; exact .r) (by simp; exact .r) (by simp))
theorem c_whTok {bs : List Int} {a : Nat} {l : List Int} (h : At bs a l) (e : Int) : ∃ a', CallD Try.prog 83 [.agg [.ptr 100000 0], .fn (.func 84) [.agg [.ptr 100000 0]] [], .raw (.func (.func 68) #[] #[])] (rdH bs a e) (.tup [(tokR (l, e)).1.av, .raw (.int .i64 (tokR (l, e)).2)]) (rdH bs a' (tokS (l, e)).2.2) := by
  obtain ⟨a1, g1, k1⟩ := c_tkTok h e
  simp only [tokR]
  generalize tokS (l, e) = r at g1 k1 ⊢
  obtain ⟨⟨v, s, x⟩, l1, e1⟩ := r
  simp only [Tok.b] at g1 k1 ⊢
  have k2 := x_End g1 e1
  have k3 := c_mayToken v s x
  refine ⟨a1, ?_⟩
  generalize endE l1 e1 = q at k2 ⊢
  clear h g1
  unfold wrongE Tok.z
  by_cases hq : q = 0
  · subst hq
    rw [if_pos rfl]
    by_cases hb : mayTok v x
    · rw [if_pos (decide_eq_true hb), outR_0]
      rw [if_pos hb] at k3
      refine calls_go (nt := 26) (rs := [.cell 6 51, .tmp 7]) Try.func83 rfl rfl rfl (by simp) (by intro id h; simp at h <;> omega) ?_; intro Q hQ hW
      repeat' (first
    | (with_reducible refine run_n ?_; with_reducible first | refine hK _ _ (by simp) ?_ | refine hK _ _ ?_; clear hK K)
    | (with_reducible first | refine awp_seq ?_ | refine then_n ?_ | refine then_r ?_ | refine then_e ?_ | refine awp_skip ?_ | refine awp_label ?_ | refine awp_ret ?_ | refine awp_exit ?_ | refine awp_block ?_ | refine awp_scope ?_ | refine in_n ?_ | refine in_r ?_ | refine in_e ?_ | refine in_ne (by decide) ?_ | refine ng_n ?_ | refine ng_r ?_ | refine ng_e ?_)
    | (with_reducible refine awp_regT (by kernel_rfl) ?_; intro K hK)
    | (with_reducible refine a_cond (ht := ?_) (hf := ?_) <;> intro hb <;> (try simp at hb) <;> (try contradiction) <;> (try subst hb) <;> (try omega))
    | (with_reducible first | refine a_move (hr := ?_) | refine a_assign (hr := ?_) | refine a_load (hr := ?_) | refine a_fieldAddr (hr := ?_) | refine a_bin (hr := ?_) | refine a_store (hr := ?_) | refine a_box (hr := ?_) | refine a_alloc (hr := ?_) | refine a_eqB (hr := ?_) | refine a_neB (hr := ?_) | refine a_eqS (hr := ?_) | refine a_neS (hr := ?_) | refine a_callP (p := 100000) (hcall := k1) (hr := ?_) | refine a_callP (p := 100000) (hcall := k2) (hr := ?_) | refine a_callF (hcall := k3) (hr := ?_))
    | fail)
      all_goals ((refine hQ _ _ _ _ (by first | exact .inr rfl | exact .inl rfl) (by simp; exact .r) (by simp; exact .r) ?_))
      all_goals (exact Fin.keep (by simp; exact .r) (by simp; exact .r) (by simp; exact .r) (by simp))
    · rw [if_neg (by rw [decide_eq_true_eq]; exact hb), outR_n _ _ (by decide)]
      rw [if_neg hb] at k3
      refine calls_go (nt := 26) (rs := [.cell 6 51, .tmp 7]) Try.func83 rfl rfl rfl (by simp) (by intro id h; simp at h <;> omega) ?_; intro Q hQ hW
      repeat' (first
    | (with_reducible refine run_n ?_; with_reducible first | refine hK _ _ (by simp) ?_ | refine hK _ _ ?_; clear hK K)
    | (with_reducible first | refine awp_seq ?_ | refine then_n ?_ | refine then_r ?_ | refine then_e ?_ | refine awp_skip ?_ | refine awp_label ?_ | refine awp_ret ?_ | refine awp_exit ?_ | refine awp_block ?_ | refine awp_scope ?_ | refine in_n ?_ | refine in_r ?_ | refine in_e ?_ | refine in_ne (by decide) ?_ | refine ng_n ?_ | refine ng_r ?_ | refine ng_e ?_)
    | (with_reducible refine awp_regT (by kernel_rfl) ?_; intro K hK)
    | (with_reducible refine a_cond (ht := ?_) (hf := ?_) <;> intro hb <;> (try simp at hb) <;> (try contradiction) <;> (try subst hb) <;> (try omega))
    | (with_reducible first | refine a_move (hr := ?_) | refine a_assign (hr := ?_) | refine a_load (hr := ?_) | refine a_fieldAddr (hr := ?_) | refine a_bin (hr := ?_) | refine a_store (hr := ?_) | refine a_box (hr := ?_) | refine a_alloc (hr := ?_) | refine a_eqB (hr := ?_) | refine a_neB (hr := ?_) | refine a_eqS (hr := ?_) | refine a_neS (hr := ?_) | refine a_callP (p := 100000) (hcall := k1) (hr := ?_) | refine a_callP (p := 100000) (hcall := k2) (hr := ?_) | refine a_callF (hcall := k3) (hr := ?_))
    | fail)
      all_goals ((refine hQ _ _ _ _ (by first | exact .inr rfl | exact .inl rfl) (by simp; exact .r) (by simp; exact .r) ?_))
      all_goals (exact Fin.keep (by simp; exact .r) (by simp; exact .r) (by simp; exact .r) (by simp))
  · rw [if_neg hq, outR_n _ _ hq]
    clear k3
    refine calls_go (nt := 26) (rs := [.cell 6 51, .tmp 7]) Try.func83 rfl rfl rfl (by simp) (by intro id h; simp at h <;> omega) ?_; intro Q hQ hW
    repeat' (first
    | (with_reducible refine run_n ?_; with_reducible first | refine hK _ _ (by simp) ?_ | refine hK _ _ ?_; clear hK K)
    | (with_reducible first | refine awp_seq ?_ | refine then_n ?_ | refine then_r ?_ | refine then_e ?_ | refine awp_skip ?_ | refine awp_label ?_ | refine awp_ret ?_ | refine awp_exit ?_ | refine awp_block ?_ | refine awp_scope ?_ | refine in_n ?_ | refine in_r ?_ | refine in_e ?_ | refine in_ne (by decide) ?_ | refine ng_n ?_ | refine ng_r ?_ | refine ng_e ?_)
    | (with_reducible refine awp_regT (by kernel_rfl) ?_; intro K hK)
    | (with_reducible refine a_cond (ht := ?_) (hf := ?_) <;> intro hb <;> (try simp at hb) <;> (try contradiction) <;> (try subst hb) <;> (try omega))
    | (with_reducible first | refine a_move (hr := ?_) | refine a_assign (hr := ?_) | refine a_load (hr := ?_) | refine a_fieldAddr (hr := ?_) | refine a_bin (hr := ?_) | refine a_store (hr := ?_) | refine a_box (hr := ?_) | refine a_alloc (hr := ?_) | refine a_eqB (hr := ?_) | refine a_neB (hr := ?_) | refine a_eqS (hr := ?_) | refine a_neS (hr := ?_) | refine a_callP (p := 100000) (hcall := k1) (hr := ?_) | refine a_callP (p := 100000) (hcall := k2) (hr := ?_))
    | fail)
    all_goals ((refine hQ _ _ _ _ (by first | exact .inr rfl | exact .inl rfl) (by simp; exact .r) (by simp; exact .r) ?_))
    all_goals (exact Fin.keep (by simp; exact .r) (by simp; exact .r) (by simp; exact .r) (by simp))
theorem c_TakeTok (l : List Int) (hB : IsB l) (hl : l.length ≤ 1000) : CallD Try.prog 36 [.sl 1 (u8s l)] noHeap (.tup [(tokR (l, 0)).1.av, .raw (.int .i64 (tokR (l, 0)).2)]) noHeap := by
  have h : At l 0 l := ⟨Nat.zero_le _, rfl, hB, by omega⟩
  obtain ⟨a1, k1⟩ := c_whTok h 0
  have k0 := c_Read l (by omega)
  generalize tokR (l, 0) = r at k1 ⊢
  obtain ⟨i, q⟩ := r
  generalize (tokS (l, 0)).2.2 = q1 at k1
  obtain ⟨d, v, s⟩ := i
  simp only at k1 ⊢
  clear h
  refine calls_go (nt := 14) (rs := [.cell 2 51, .tmp 3]) Try.func36 rfl rfl rfl (by simp) (by intro id h; simp at h <;> omega) ?_; intro Q hQ hW
  repeat' (first
    | (with_reducible refine run_n ?_; with_reducible first | refine hK _ _ (by simp) ?_ | refine hK _ _ ?_; clear hK K)
    | (with_reducible first | refine awp_seq ?_ | refine then_n ?_ | refine then_r ?_ | refine then_e ?_ | refine awp_skip ?_ | refine awp_label ?_ | refine awp_ret ?_ | refine awp_exit ?_ | refine awp_block ?_ | refine awp_scope ?_ | refine in_n ?_ | refine in_r ?_ | refine in_e ?_ | refine in_ne (by decide) ?_ | refine ng_n ?_ | refine ng_r ?_ | refine ng_e ?_)
    | (with_reducible refine awp_regT (by kernel_rfl) ?_; intro K hK)
    | (with_reducible refine a_cond (ht := ?_) (hf := ?_) <;> intro hb <;> (try simp at hb) <;> (try contradiction) <;> (try subst hb) <;> (try omega))
    | (with_reducible first | refine a_move (hr := ?_) | refine a_assign (hr := ?_) | refine a_load (hr := ?_) | refine a_extract (hr := ?_) | refine a_store (hr := ?_) | refine a_alloc (hr := ?_) | refine a_makeFunc (hr := ?_) | refine a_build (hr := ?_) | refine a_callB (hcall := k0) (hr := ?_) | refine a_callP (p := 6) (hcall := k1) (hr := ?_))
    | fail)
  all_goals ((refine hQ _ _ _ _ (by first | exact .inr rfl | exact .inl rfl) (by simp; exact .r) (by simp; exact .r) ?_))
  all_goals (exact Fin.drop (by simp; exact .r) (by simp))
theorem c_rTakeTok (l : List Int) (hB : IsB l) (hl : l.length ≤ 1000) : CallD Try.prog 37 [.sl 1 (u8s l)] noHeap (.tup [(tokR (l, 0)).1.av, .raw (.int .i64 (tokR (l, 0)).2)]) noHeap := by
  have k0 := c_RfRead l (by omega)
  simp only [tokR, tokS]
  have k1 := y_U (l := l) 0 255 hB (by omega)
  have z1 := r_U hB 0 (most := 255) (by omega)
  have b1 := isB_sU (e := 0) (most := 255) hB
  have n1 := ln_sU (e := 0) (most := 255) hl
  generalize sU 255 (l, 0) = r1 at k1 z1 b1 n1 ⊢
  obtain ⟨v1, l1, e1⟩ := r1
  simp only at k1 z1 b1 n1 ⊢
  have k2 := y_U (l := l1) e1 18446744073709551615 b1 (by omega)
  have b2 := isB_sU (e := e1) (most := 18446744073709551615) b1
  have n2 := ln_sU (e := e1) (most := 18446744073709551615) n1
  generalize sU 18446744073709551615 (l1, e1) = r2 at k2 b2 n2 ⊢
  obtain ⟨v2, l2, e2⟩ := r2
  simp only at k2 b2 n2 ⊢
  have k3 := y_U (l := l2) e2 255 b2 (by omega)
  have z3 := r_U b2 e2 (most := 255) (by omega)
  have n3 := ln_sU (e := e2) (most := 255) n2
  generalize sU 255 (l2, e2) = r3 at k3 z3 n3 ⊢
  obtain ⟨v3, l3, e3⟩ := r3
  simp only at k3 z3 n3 ⊢
  have k6 := c_rtoken v1 v2 (v3 - 1)
  have k7 := fun b => c_rend l3 e3 b (by omega)
  simp only [Tok.b]
  generalize decide (mayTok v1 (v3 - 1)) = b at k6 ⊢
  have k7 := k7 b
  generalize wrongE b (endE l3 e3) = q at k7 ⊢
  clear hB hl b1 b2 n1 n2 n3
  unfold Tok.z
  by_cases hq : q = 0
  · subst hq
    rw [outR_0]
    refine calls_go (nt := 30) (rs := [.cell 2 51, .tmp 3]) Try.func37 rfl rfl rfl (by simp) (by intro id h; simp at h <;> omega) ?_; intro Q hQ hW
    repeat' (first
    | (with_reducible refine run_n ?_; with_reducible first | refine hK _ _ (by simp) ?_ | refine hK _ _ ?_; clear hK K)
    | (with_reducible first | refine awp_seq ?_ | refine then_n ?_ | refine then_r ?_ | refine then_e ?_ | refine awp_skip ?_ | refine awp_label ?_ | refine awp_ret ?_ | refine awp_exit ?_ | refine awp_block ?_ | refine awp_scope ?_ | refine in_n ?_ | refine in_r ?_ | refine in_e ?_ | refine in_ne (by decide) ?_ | refine ng_n ?_ | refine ng_r ?_ | refine ng_e ?_)
    | (with_reducible refine awp_regT (by kernel_rfl) ?_; intro K hK)
    | (with_reducible refine a_cond (ht := ?_) (hf := ?_) <;> intro hb <;> (try simp at hb) <;> (try contradiction) <;> (try subst hb) <;> (try omega))
    | (with_reducible first | refine a_move (hr := ?_) | refine a_assign (hr := ?_) | refine a_load (hr := ?_) | refine a_fieldAddr (hr := ?_) | refine a_bin (hr := ?_) | refine a_store (hr := ?_) | refine a_alloc (hr := ?_) | refine a_neB (hr := ?_) | refine a_conv (hr := ?_) | refine a_bytesStr (hr := ?_) | refine a_strBytes (hr := ?_) | refine a_neS (hr := ?_) | refine a_build (hr := ?_) | refine a_callB (hcall := k0) (hr := ?_) | refine a_callP (p := 8) (hcall := k1) (hr := ?_) | refine a_callP (p := 8) (hcall := k2) (hr := ?_) | refine a_callP (p := 8) (hcall := k3) (hr := ?_) | refine a_call0 (hcall := k6) (hr := ?_) | refine a_callP (p := 8) (hcall := k7) (hr := ?_))
    | fail)
    all_goals ((refine hQ _ _ _ _ (by first | exact .inr rfl | exact .inl rfl) (by simp; exact .r) (by simp; exact .r) ?_))
    all_goals (exact Fin.drop (by simp; exact .r) (by simp))
  · rw [outR_n _ _ hq]
    refine calls_go (nt := 30) (rs := [.cell 2 51, .tmp 3]) Try.func37 rfl rfl rfl (by simp) (by intro id h; simp at h <;> omega) ?_; intro Q hQ hW
    repeat' (first
    | (with_reducible refine run_n ?_; with_reducible first | refine hK _ _ (by simp) ?_ | refine hK _ _ ?_; clear hK K)
    | (with_reducible first | refine awp_seq ?_ | refine then_n ?_ | refine then_r ?_ | refine then_e ?_ | refine awp_skip ?_ | refine awp_label ?_ | refine awp_ret ?_ | refine awp_exit ?_ | refine awp_block ?_ | refine awp_scope ?_ | refine in_n ?_ | refine in_r ?_ | refine in_e ?_ | refine in_ne (by decide) ?_ | refine ng_n ?_ | refine ng_r ?_ | refine ng_e ?_)
    | (with_reducible refine awp_regT (by kernel_rfl) ?_; intro K hK)
    | (with_reducible refine a_cond (ht := ?_) (hf := ?_) <;> intro hb <;> (try simp at hb) <;> (try contradiction) <;> (try subst hb) <;> (try omega))
    | (with_reducible first | refine a_move (hr := ?_) | refine a_assign (hr := ?_) | refine a_load (hr := ?_) | refine a_fieldAddr (hr := ?_) | refine a_bin (hr := ?_) | refine a_store (hr := ?_) | refine a_alloc (hr := ?_) | refine a_neB (hr := ?_) | refine a_conv (hr := ?_) | refine a_bytesStr (hr := ?_) | refine a_strBytes (hr := ?_) | refine a_neS (hr := ?_) | refine a_build (hr := ?_) | refine a_callB (hcall := k0) (hr := ?_) | refine a_callP (p := 8) (hcall := k1) (hr := ?_) | refine a_callP (p := 8) (hcall := k2) (hr := ?_) | refine a_callP (p := 8) (hcall := k3) (hr := ?_) | refine a_call0 (hcall := k6) (hr := ?_) | refine a_callP (p := 8) (hcall := k7) (hr := ?_))
    | fail)
    all_goals ((refine hQ _ _ _ _ (by first | exact .inr rfl | exact .inl rfl) (by simp; exact .r) (by simp; exact .r) ?_))
    all_goals (exact Fin.drop (by simp; exact .r) (by simp))
structure Arm where
  k : Int
  n : ByteArray
  y : ByteArray
  d : Int
abbrev Arm.av (t : Arm) : AV := armAV t.k t.n t.y t.d
def Arm.z : Arm := ⟨0, ⟨#[]⟩, ⟨#[]⟩, 0⟩
def Arm.b (t : Arm) : Bool := armB t.k t.n t.y t.d
/-- What stands behind an arm's kind. -/
def armT (k : Int) (s : RSt) : Arm × RSt :=
  if k = 1 then (⟨k, ⟨#[]⟩, ⟨#[]⟩, (sU 18446744073709551615 s).1⟩, (sU 18446744073709551615 s).2)
  else if k = 2 then (⟨k, (sT 16 s).1, (sT 64 (sT 16 s).2).1, 0⟩, (sT 64 (sT 16 s).2).2)
  else if k = 3 then (⟨k, (sT 16 s).1, ⟨#[]⟩, 0⟩, (sT 16 s).2)
  else (⟨k, ⟨#[]⟩, ⟨#[]⟩, 0⟩, s)
def armS (s : RSt) : Arm × RSt := armT (sB s).1 (sB s).2
theorem c_tkArm {bs : List Int} {a : Nat} {l : List Int} (h : At bs a l) (e : Int) : ∃ a', At bs a' (armS (l, e)).2.1 ∧ CallD Try.prog 86 [.agg [.ptr 100000 0]] (rdH bs a e) (armS (l, e)).1.av (rdH bs a' (armS (l, e)).2.2) := by
  simp only [armS]
  obtain ⟨a1, g1, k1⟩ := x_B h e
  have w1 := r_B h.b e
  generalize sB (l, e) = r1 at g1 k1 w1 ⊢
  obtain ⟨v1, l1, e1⟩ := r1
  simp only at g1 k1 w1 ⊢
  unfold armT
  by_cases h1 : v1 = 1
  · subst h1
    rw [if_pos rfl]
    obtain ⟨a2, g2, k2⟩ := x_U g1 e1 18446744073709551615
    generalize sU 18446744073709551615 (l1, e1) = r2 at g2 k2 ⊢
    obtain ⟨v2, l2, e2⟩ := r2
    refine ⟨a2, g2, ?_⟩
    simp only at k2 ⊢
    clear h g1 g2
    refine calls_go (nt := 32) (rs := [.cell 2 24]) Try.func86 rfl rfl rfl (by simp) (by intro id h; simp at h <;> omega) ?_; intro Q hQ hW
    repeat' (first
    | (with_reducible refine run_n ?_; with_reducible first | refine hK _ _ (by simp) ?_ | refine hK _ _ ?_; clear hK K)
    | (with_reducible first | refine awp_seq ?_ | refine then_n ?_ | refine then_r ?_ | refine then_e ?_ | refine awp_skip ?_ | refine awp_label ?_ | refine awp_ret ?_ | refine awp_exit ?_ | refine awp_block ?_ | refine awp_scope ?_ | refine in_n ?_ | refine in_r ?_ | refine in_e ?_ | refine in_ne (by decide) ?_ | refine ng_n ?_ | refine ng_r ?_ | refine ng_e ?_)
    | (with_reducible refine awp_regT (by kernel_rfl) ?_; intro K hK)
    | (with_reducible refine a_cond (ht := ?_) (hf := ?_) <;> intro hb <;> (try simp at hb) <;> (try contradiction) <;> (try subst hb) <;> (try omega))
    | (with_reducible first | refine a_assign (hr := ?_) | refine a_load (hr := ?_) | refine a_fieldAddr (hr := ?_) | refine a_bin (hr := ?_) | refine a_store (hr := ?_) | refine a_box (hr := ?_) | refine a_alloc (hr := ?_) | refine a_eqB (hr := ?_) | refine a_conv (hr := ?_) | refine a_bytesStr (hr := ?_) | refine a_strBytes (hr := ?_) | refine a_eqS (hr := ?_) | refine a_build (hr := ?_) | refine a_callP (p := 100000) (hcall := k1) (hr := ?_) | refine a_callP (p := 100000) (hcall := k2) (hr := ?_))
    | fail)
    all_goals ((refine hQ _ _ _ _ (by first | exact .inr rfl | exact .inl rfl) (by simp; exact .r) (by simp; exact .r) ?_))
    all_goals (exact Fin.keep (by simp; exact .r) (by simp; exact .r) (by simp; exact .r) (by simp))
  rw [if_neg h1]
  by_cases h2 : v1 = 2
  · subst h2
    rw [if_pos rfl]
    obtain ⟨a2, g2, k2⟩ := x_T g1 e1 16 (by omega)
    generalize sT 16 (l1, e1) = r2 at g2 k2 ⊢
    obtain ⟨v2, l2, e2⟩ := r2
    simp only at g2 k2 ⊢
    obtain ⟨a3, g3, k3⟩ := x_T g2 e2 64 (by omega)
    generalize sT 64 (l2, e2) = r3 at g3 k3 ⊢
    obtain ⟨v3, l3, e3⟩ := r3
    refine ⟨a3, g3, ?_⟩
    simp only at k3 ⊢
    clear h g1 g2 g3
    refine calls_go (nt := 32) (rs := [.cell 2 24]) Try.func86 rfl rfl rfl (by simp) (by intro id h; simp at h <;> omega) ?_; intro Q hQ hW
    repeat' (first
    | (with_reducible refine run_n ?_; with_reducible first | refine hK _ _ (by simp) ?_ | refine hK _ _ ?_; clear hK K)
    | (with_reducible first | refine awp_seq ?_ | refine then_n ?_ | refine then_r ?_ | refine then_e ?_ | refine awp_skip ?_ | refine awp_label ?_ | refine awp_ret ?_ | refine awp_exit ?_ | refine awp_block ?_ | refine awp_scope ?_ | refine in_n ?_ | refine in_r ?_ | refine in_e ?_ | refine in_ne (by decide) ?_ | refine ng_n ?_ | refine ng_r ?_ | refine ng_e ?_)
    | (with_reducible refine awp_regT (by kernel_rfl) ?_; intro K hK)
    | (with_reducible refine a_cond (ht := ?_) (hf := ?_) <;> intro hb <;> (try simp at hb) <;> (try contradiction) <;> (try subst hb) <;> (try omega))
    | (with_reducible first | refine a_assign (hr := ?_) | refine a_load (hr := ?_) | refine a_fieldAddr (hr := ?_) | refine a_bin (hr := ?_) | refine a_store (hr := ?_) | refine a_box (hr := ?_) | refine a_alloc (hr := ?_) | refine a_eqB (hr := ?_) | refine a_conv (hr := ?_) | refine a_bytesStr (hr := ?_) | refine a_strBytes (hr := ?_) | refine a_eqS (hr := ?_) | refine a_build (hr := ?_) | refine a_callP (p := 100000) (hcall := k1) (hr := ?_) | refine a_callP (p := 100000) (hcall := k2) (hr := ?_) | refine a_callP (p := 100000) (hcall := k3) (hr := ?_))
    | fail)
    all_goals ((refine hQ _ _ _ _ (by first | exact .inr rfl | exact .inl rfl) (by simp; exact .r) (by simp; exact .r) ?_))
    all_goals (exact Fin.keep (by simp; exact .r) (by simp; exact .r) (by simp; exact .r) (by simp))
  rw [if_neg h2]
  by_cases h3 : v1 = 3
  · subst h3
    rw [if_pos rfl]
    obtain ⟨a2, g2, k2⟩ := x_T g1 e1 16 (by omega)
    generalize sT 16 (l1, e1) = r2 at g2 k2 ⊢
    obtain ⟨v2, l2, e2⟩ := r2
    refine ⟨a2, g2, ?_⟩
    simp only at k2 ⊢
    clear h g1 g2
    refine calls_go (nt := 32) (rs := [.cell 2 24]) Try.func86 rfl rfl rfl (by simp) (by intro id h; simp at h <;> omega) ?_; intro Q hQ hW
    repeat' (first
    | (with_reducible refine run_n ?_; with_reducible first | refine hK _ _ (by simp) ?_ | refine hK _ _ ?_; clear hK K)
    | (with_reducible first | refine awp_seq ?_ | refine then_n ?_ | refine then_r ?_ | refine then_e ?_ | refine awp_skip ?_ | refine awp_label ?_ | refine awp_ret ?_ | refine awp_exit ?_ | refine awp_block ?_ | refine awp_scope ?_ | refine in_n ?_ | refine in_r ?_ | refine in_e ?_ | refine in_ne (by decide) ?_ | refine ng_n ?_ | refine ng_r ?_ | refine ng_e ?_)
    | (with_reducible refine awp_regT (by kernel_rfl) ?_; intro K hK)
    | (with_reducible refine a_cond (ht := ?_) (hf := ?_) <;> intro hb <;> (try simp at hb) <;> (try contradiction) <;> (try subst hb) <;> (try omega))
    | (with_reducible first | refine a_assign (hr := ?_) | refine a_load (hr := ?_) | refine a_fieldAddr (hr := ?_) | refine a_bin (hr := ?_) | refine a_store (hr := ?_) | refine a_box (hr := ?_) | refine a_alloc (hr := ?_) | refine a_eqB (hr := ?_) | refine a_conv (hr := ?_) | refine a_bytesStr (hr := ?_) | refine a_strBytes (hr := ?_) | refine a_eqS (hr := ?_) | refine a_build (hr := ?_) | refine a_callP (p := 100000) (hcall := k1) (hr := ?_) | refine a_callP (p := 100000) (hcall := k2) (hr := ?_))
    | fail)
    all_goals ((refine hQ _ _ _ _ (by first | exact .inr rfl | exact .inl rfl) (by simp; exact .r) (by simp; exact .r) ?_))
    all_goals (exact Fin.keep (by simp; exact .r) (by simp; exact .r) (by simp; exact .r) (by simp))
  rw [if_neg h3]
  refine ⟨a1, g1, ?_⟩
  simp only
  clear h g1
  refine calls_go (nt := 32) (rs := [.cell 2 24]) Try.func86 rfl rfl rfl (by simp) (by intro id h; simp at h <;> omega) ?_; intro Q hQ hW
  repeat' (first
    | (with_reducible refine run_n ?_; with_reducible first | refine hK _ _ (by simp) ?_ | refine hK _ _ ?_; clear hK K)
    | (with_reducible first | refine awp_seq ?_ | refine then_n ?_ | refine then_r ?_ | refine then_e ?_ | refine awp_skip ?_ | refine awp_label ?_ | refine awp_ret ?_ | refine awp_exit ?_ | refine awp_block ?_ | refine awp_scope ?_ | refine in_n ?_ | refine in_r ?_ | refine in_e ?_ | refine in_ne (by decide) ?_ | refine ng_n ?_ | refine ng_r ?_ | refine ng_e ?_)
    | (with_reducible refine awp_regT (by kernel_rfl) ?_; intro K hK)
    | (with_reducible refine a_cond (ht := ?_) (hf := ?_) <;> intro hb <;> (try simp at hb) <;> (try contradiction) <;> (try subst hb) <;> (try omega))
    | (with_reducible first | refine a_assign (hr := ?_) | refine a_load (hr := ?_) | refine a_fieldAddr (hr := ?_) | refine a_bin (hr := ?_) | refine a_store (hr := ?_) | refine a_box (hr := ?_) | refine a_alloc (hr := ?_) | refine a_eqB (hr := ?_) | refine a_conv (hr := ?_) | refine a_bytesStr (hr := ?_) | refine a_strBytes (hr := ?_) | refine a_eqS (hr := ?_) | refine a_build (hr := ?_) | refine a_callP (p := 100000) (hcall := k1) (hr := ?_))
    | fail)
  all_goals ((refine hQ _ _ _ _ (by first | exact .inr rfl | exact .inl rfl) (by simp; exact .r) (by simp; exact .r) ?_))
  all_goals (exact Fin.keep (by simp; exact .r) (by simp; exact .r) (by simp; exact .r) (by simp))
def armO (s : RSt) : Arm × Int := outR Arm.z (armS s).1 (wrongE (armS s).1.b (endE (armS s).2.1 (armS s).2.2))
def armR : List Int → Arm × Int
  | [] => armO ([], 0)
  | c :: l => if c < 1 ∨ 3 < c then (Arm.z, 1) else armO (c :: l, 0)
theorem armT_small (k : Int) {l : List Int} (e : Int) : (armT k (l, e)).1.n.size ≤ l.length ∧ (armT k (l, e)).1.y.size ≤ l.length := by
  have h0 : (⟨#[]⟩ : ByteArray).size = 0 := rfl
  unfold armT
  have h1 := r_T l e 16
  have h2 := r_T (sT 16 (l, e)).2.1 (sT 16 (l, e)).2.2 64
  have h3 : (sT 16 (l, e)).2.1.length ≤ l.length := ln_sT (Nat.le_refl _)
  split
  · simp only; omega
  · split
    · exact ⟨h1, Nat.le_trans h2 h3⟩
    · split
      · simp only; omega
      · simp only; omega
theorem armS_small {l : List Int} (e : Int) : (armS (l, e)).1.n.size ≤ l.length ∧ (armS (l, e)).1.y.size ≤ l.length := by
  have h := armT_small (sB (l, e)).1 (l := (sB (l, e)).2.1) (sB (l, e)).2.2
  have h3 : (sB (l, e)).2.1.length ≤ l.length := ln_sB (Nat.le_refl _)
  exact ⟨Nat.le_trans h.1 h3, Nat.le_trans h.2 h3⟩
theorem c_whArm {bs : List Int} {a : Nat} {l : List Int} (h : At bs a l) (e : Int) : ∃ a', CallD Try.prog 85 [.agg [.ptr 100000 0], .fn (.func 86) [.agg [.ptr 100000 0]] [], .raw (.func (.func 49) #[] #[])] (rdH bs a e) (.tup [(armO (l, e)).1.av, .raw (.int .i64 (armO (l, e)).2)]) (rdH bs a' (armS (l, e)).2.2) := by
  obtain ⟨a1, g1, k1⟩ := c_tkArm h e
  have hsm := armS_small (l := l) e
  have hln := h.len
  have hlt := h.lt
  simp only [armO]
  generalize armS (l, e) = r at g1 k1 hsm ⊢
  obtain ⟨⟨k, n, y, d⟩, l1, e1⟩ := r
  simp only [Arm.b] at g1 k1 hsm ⊢
  have k2 := x_End g1 e1
  have k3 := c_mayArm k n y d (by omega) (by omega)
  refine ⟨a1, ?_⟩
  obtain ⟨b, hb1⟩ : ∃ b, armB k n y d = b := ⟨_, rfl⟩
  simp only [hb1] at k3 ⊢
  clear hb1
  generalize endE l1 e1 = q at k2 ⊢
  clear h g1 hsm hln hlt
  unfold wrongE Arm.z
  by_cases hq : q = 0
  · subst hq
    rw [if_pos rfl]
    cases b with
    | true =>
      rw [if_pos rfl, outR_0]
      refine calls_go (nt := 26) (rs := [.cell 6 24, .tmp 7]) Try.func85 rfl rfl rfl (by simp) (by intro id h; simp at h <;> omega) ?_; intro Q hQ hW
      repeat' (first
    | (with_reducible refine run_n ?_; with_reducible first | refine hK _ _ (by simp) ?_ | refine hK _ _ ?_; clear hK K)
    | (with_reducible first | refine awp_seq ?_ | refine then_n ?_ | refine then_r ?_ | refine then_e ?_ | refine awp_skip ?_ | refine awp_label ?_ | refine awp_ret ?_ | refine awp_exit ?_ | refine awp_block ?_ | refine awp_scope ?_ | refine in_n ?_ | refine in_r ?_ | refine in_e ?_ | refine in_ne (by decide) ?_ | refine ng_n ?_ | refine ng_r ?_ | refine ng_e ?_)
    | (with_reducible refine awp_regT (by kernel_rfl) ?_; intro K hK)
    | (with_reducible refine a_cond (ht := ?_) (hf := ?_) <;> intro hb <;> (try simp at hb) <;> (try contradiction) <;> (try subst hb) <;> (try omega))
    | (with_reducible first | refine a_move (hr := ?_) | refine a_assign (hr := ?_) | refine a_load (hr := ?_) | refine a_fieldAddr (hr := ?_) | refine a_bin (hr := ?_) | refine a_store (hr := ?_) | refine a_box (hr := ?_) | refine a_alloc (hr := ?_) | refine a_eqB (hr := ?_) | refine a_neB (hr := ?_) | refine a_eqS (hr := ?_) | refine a_neS (hr := ?_) | refine a_callP (p := 100000) (hcall := k1) (hr := ?_) | refine a_callP (p := 100000) (hcall := k2) (hr := ?_) | refine a_callF (hcall := k3) (hr := ?_))
    | fail)
      all_goals ((refine hQ _ _ _ _ (by first | exact .inr rfl | exact .inl rfl) (by simp; exact .r) (by simp; exact .r) ?_))
      all_goals (exact Fin.keep (by simp; exact .r) (by simp; exact .r) (by simp; exact .r) (by simp))
    | false =>
      rw [if_neg (by decide), outR_n _ _ (by decide)]
      refine calls_go (nt := 26) (rs := [.cell 6 24, .tmp 7]) Try.func85 rfl rfl rfl (by simp) (by intro id h; simp at h <;> omega) ?_; intro Q hQ hW
      repeat' (first
    | (with_reducible refine run_n ?_; with_reducible first | refine hK _ _ (by simp) ?_ | refine hK _ _ ?_; clear hK K)
    | (with_reducible first | refine awp_seq ?_ | refine then_n ?_ | refine then_r ?_ | refine then_e ?_ | refine awp_skip ?_ | refine awp_label ?_ | refine awp_ret ?_ | refine awp_exit ?_ | refine awp_block ?_ | refine awp_scope ?_ | refine in_n ?_ | refine in_r ?_ | refine in_e ?_ | refine in_ne (by decide) ?_ | refine ng_n ?_ | refine ng_r ?_ | refine ng_e ?_)
    | (with_reducible refine awp_regT (by kernel_rfl) ?_; intro K hK)
    | (with_reducible refine a_cond (ht := ?_) (hf := ?_) <;> intro hb <;> (try simp at hb) <;> (try contradiction) <;> (try subst hb) <;> (try omega))
    | (with_reducible first | refine a_move (hr := ?_) | refine a_assign (hr := ?_) | refine a_load (hr := ?_) | refine a_fieldAddr (hr := ?_) | refine a_bin (hr := ?_) | refine a_store (hr := ?_) | refine a_box (hr := ?_) | refine a_alloc (hr := ?_) | refine a_eqB (hr := ?_) | refine a_neB (hr := ?_) | refine a_eqS (hr := ?_) | refine a_neS (hr := ?_) | refine a_callP (p := 100000) (hcall := k1) (hr := ?_) | refine a_callP (p := 100000) (hcall := k2) (hr := ?_) | refine a_callF (hcall := k3) (hr := ?_))
    | fail)
      all_goals ((refine hQ _ _ _ _ (by first | exact .inr rfl | exact .inl rfl) (by simp; exact .r) (by simp; exact .r) ?_))
      all_goals (exact Fin.keep (by simp; exact .r) (by simp; exact .r) (by simp; exact .r) (by simp))
  · rw [if_neg hq, outR_n _ _ hq]
    refine calls_go (nt := 26) (rs := [.cell 6 24, .tmp 7]) Try.func85 rfl rfl rfl (by simp) (by intro id h; simp at h <;> omega) ?_; intro Q hQ hW
    repeat' (first
    | (with_reducible refine run_n ?_; with_reducible first | refine hK _ _ (by simp) ?_ | refine hK _ _ ?_; clear hK K)
    | (with_reducible first | refine awp_seq ?_ | refine then_n ?_ | refine then_r ?_ | refine then_e ?_ | refine awp_skip ?_ | refine awp_label ?_ | refine awp_ret ?_ | refine awp_exit ?_ | refine awp_block ?_ | refine awp_scope ?_ | refine in_n ?_ | refine in_r ?_ | refine in_e ?_ | refine in_ne (by decide) ?_ | refine ng_n ?_ | refine ng_r ?_ | refine ng_e ?_)
    | (with_reducible refine awp_regT (by kernel_rfl) ?_; intro K hK)
    | (with_reducible refine a_cond (ht := ?_) (hf := ?_) <;> intro hb <;> (try simp at hb) <;> (try contradiction) <;> (try subst hb) <;> (try omega))
    | (with_reducible first | refine a_move (hr := ?_) | refine a_assign (hr := ?_) | refine a_load (hr := ?_) | refine a_fieldAddr (hr := ?_) | refine a_bin (hr := ?_) | refine a_store (hr := ?_) | refine a_box (hr := ?_) | refine a_alloc (hr := ?_) | refine a_eqB (hr := ?_) | refine a_neB (hr := ?_) | refine a_eqS (hr := ?_) | refine a_neS (hr := ?_) | refine a_callP (p := 100000) (hcall := k1) (hr := ?_) | refine a_callP (p := 100000) (hcall := k2) (hr := ?_) | refine a_callF (hcall := k3) (hr := ?_))
    | fail)
    all_goals ((refine hQ _ _ _ _ (by first | exact .inr rfl | exact .inl rfl) (by simp; exact .r) (by simp; exact .r) ?_))
    all_goals (exact Fin.keep (by simp; exact .r) (by simp; exact .r) (by simp; exact .r) (by simp))
theorem c_TakeArm (l : List Int) (hB : IsB l) (hl : l.length ≤ 1000) : CallD Try.prog 38 [.sl 1 (u8s l)] noHeap (.tup [(armR l).1.av, .raw (.int .i64 (armR l).2)]) noHeap := by
  have h : At l 0 l := ⟨Nat.zero_le _, rfl, hB, by omega⟩
  obtain ⟨a1, k1⟩ := c_whArm h 0
  have k0 := c_Read l (by omega)
  cases l with
  | nil =>
    simp only [armR]
    generalize armO ([], 0) = r at k1 ⊢
    obtain ⟨i, q⟩ := r
    generalize (armS ([], 0)).2.2 = q1 at k1
    obtain ⟨k, n, y, d⟩ := i
    simp only at k1 ⊢
    clear h
    refine calls_go (nt := 30) (rs := [.cell 2 24, .tmp 3]) Try.func38 rfl rfl rfl (by simp) (by intro id h; simp at h <;> omega) ?_; intro Q hQ hW
    repeat' (first
    | (with_reducible refine run_n ?_; with_reducible first | refine hK _ _ (by simp) ?_ | refine hK _ _ ?_; clear hK K)
    | (with_reducible first | refine awp_seq ?_ | refine then_n ?_ | refine then_r ?_ | refine then_e ?_ | refine awp_skip ?_ | refine awp_label ?_ | refine awp_ret ?_ | refine awp_exit ?_ | refine awp_block ?_ | refine awp_scope ?_ | refine in_n ?_ | refine in_r ?_ | refine in_e ?_ | refine in_ne (by decide) ?_ | refine ng_n ?_ | refine ng_r ?_ | refine ng_e ?_)
    | (with_reducible refine awp_regT (by kernel_rfl) ?_; intro K hK)
    | (with_reducible refine a_cond (ht := ?_) (hf := ?_) <;> intro hb <;> (try simp at hb) <;> (try contradiction) <;> (try subst hb) <;> (try omega))
    | (with_reducible first | refine a_move (hr := ?_) | refine a_assign (hr := ?_) | refine a_load (hr := ?_) | refine a_bin (hr := ?_) | refine a_lenS (hr := ?_) | refine a_lenR (hr := ?_) | refine a_extract (hr := ?_) | refine a_pick (hr := ?_) | refine a_store (hr := ?_) | refine a_alloc (hr := ?_) | refine a_makeFunc (hr := ?_) | refine a_idxArr (hr := ?_) | refine a_indexAddr (hr := ?_) | refine a_build (hr := ?_) | refine a_callB (hcall := k0) (hr := ?_) | refine a_callP (p := 22) (hcall := k1) (hr := ?_) | refine a_gT (hr := ?_) | refine a_gF (hr := ?_) | refine a_gU (hr := ?_))
    | (with_reducible refine a_gB (hT := ?_) (hF := ?_) <;> intro hb <;> (try simp at hb) <;> (try contradiction) <;> (try subst hb) <;> (try omega))
    | fail)
    all_goals ((refine hQ _ _ _ _ (by first | exact .inr rfl | exact .inl rfl) (by simp; exact .r) (by simp; exact .r) ?_))
    all_goals (exact Fin.drop (by simp; exact .r) (by simp))
  | cons c l =>
    have hc := (isB_cons.1 hB).1
    have hx : (c :: l)[0]? = some c := rfl
    have hlp : 0 < (c :: l).length := by simp
    simp only [armR]
    generalize c :: l = L at hx hlp hl h k1 k0 hB ⊢
    by_cases hr : c < 1 ∨ 3 < c
    · rw [if_pos hr]
      unfold Arm.z
      clear k1
      rcases Int.lt_or_le c 1 with h1 | h1
      · refine calls_go (nt := 30) (rs := [.cell 2 24, .tmp 3]) Try.func38 rfl rfl rfl (by simp) (by intro id h; simp at h <;> omega) ?_; intro Q hQ hW
        repeat' (first
    | (with_reducible refine run_n ?_; with_reducible first | refine hK _ _ (by simp) ?_ | refine hK _ _ ?_; clear hK K)
    | (with_reducible first | refine awp_seq ?_ | refine then_n ?_ | refine then_r ?_ | refine then_e ?_ | refine awp_skip ?_ | refine awp_label ?_ | refine awp_ret ?_ | refine awp_exit ?_ | refine awp_block ?_ | refine awp_scope ?_ | refine in_n ?_ | refine in_r ?_ | refine in_e ?_ | refine in_ne (by decide) ?_ | refine ng_n ?_ | refine ng_r ?_ | refine ng_e ?_)
    | (with_reducible refine awp_regT (by kernel_rfl) ?_; intro K hK)
    | (with_reducible refine a_cond (ht := ?_) (hf := ?_) <;> intro hb <;> (try simp at hb) <;> (try contradiction) <;> (try subst hb) <;> (try omega))
    | (with_reducible first | refine a_move (hr := ?_) | refine a_assign (hr := ?_) | refine a_load (hr := ?_) | refine a_bin (hr := ?_) | refine a_lenS (hr := ?_) | refine a_lenR (hr := ?_) | refine a_extract (hr := ?_) | refine a_pick (hr := ?_) | refine a_store (hr := ?_) | refine a_alloc (hr := ?_) | refine a_makeFunc (hr := ?_) | refine a_idxArr (hr := ?_) | refine a_indexAddr (hr := ?_) | refine a_build (hr := ?_) | refine a_callB (hcall := k0) (hr := ?_) | refine a_gT (hr := ?_) | refine a_gF (hr := ?_) | refine a_gU (hr := ?_))
    | (with_reducible refine a_gB (hT := ?_) (hF := ?_) <;> intro hb <;> (try simp at hb) <;> (try contradiction) <;> (try subst hb) <;> (try omega))
    | fail)
        all_goals ((refine hQ _ _ _ _ (by first | exact .inr rfl | exact .inl rfl) (by simp; exact .r) (by simp; exact .r) ?_))
        all_goals (exact Fin.drop (by simp; exact .r) (by simp))
      · have h2 : 3 < c := by omega
        refine calls_go (nt := 30) (rs := [.cell 2 24, .tmp 3]) Try.func38 rfl rfl rfl (by simp) (by intro id h; simp at h <;> omega) ?_; intro Q hQ hW
        repeat' (first
    | (with_reducible refine run_n ?_; with_reducible first | refine hK _ _ (by simp) ?_ | refine hK _ _ ?_; clear hK K)
    | (with_reducible first | refine awp_seq ?_ | refine then_n ?_ | refine then_r ?_ | refine then_e ?_ | refine awp_skip ?_ | refine awp_label ?_ | refine awp_ret ?_ | refine awp_exit ?_ | refine awp_block ?_ | refine awp_scope ?_ | refine in_n ?_ | refine in_r ?_ | refine in_e ?_ | refine in_ne (by decide) ?_ | refine ng_n ?_ | refine ng_r ?_ | refine ng_e ?_)
    | (with_reducible refine awp_regT (by kernel_rfl) ?_; intro K hK)
    | (with_reducible refine a_cond (ht := ?_) (hf := ?_) <;> intro hb <;> (try simp at hb) <;> (try contradiction) <;> (try subst hb) <;> (try omega))
    | (with_reducible first | refine a_move (hr := ?_) | refine a_assign (hr := ?_) | refine a_load (hr := ?_) | refine a_bin (hr := ?_) | refine a_lenS (hr := ?_) | refine a_lenR (hr := ?_) | refine a_extract (hr := ?_) | refine a_pick (hr := ?_) | refine a_store (hr := ?_) | refine a_alloc (hr := ?_) | refine a_makeFunc (hr := ?_) | refine a_idxArr (hr := ?_) | refine a_indexAddr (hr := ?_) | refine a_build (hr := ?_) | refine a_callB (hcall := k0) (hr := ?_) | refine a_gT (hr := ?_) | refine a_gF (hr := ?_) | refine a_gU (hr := ?_))
    | (with_reducible refine a_gB (hT := ?_) (hF := ?_) <;> intro hb <;> (try simp at hb) <;> (try contradiction) <;> (try subst hb) <;> (try omega))
    | fail)
        all_goals ((refine hQ _ _ _ _ (by first | exact .inr rfl | exact .inl rfl) (by simp; exact .r) (by simp; exact .r) ?_))
        all_goals (exact Fin.drop (by simp; exact .r) (by simp))
    · rw [if_neg hr]
      have h1 : ¬ c < 1 := fun h => hr (.inl h)
      have h2 : ¬ 3 < c := fun h => hr (.inr h)
      generalize armO (L, 0) = r at k1 ⊢
      obtain ⟨i, q⟩ := r
      generalize (armS (L, 0)).2.2 = q1 at k1
      obtain ⟨k, n, y, d⟩ := i
      simp only at k1 ⊢
      clear h hr
      refine calls_go (nt := 30) (rs := [.cell 2 24, .tmp 3]) Try.func38 rfl rfl rfl (by simp) (by intro id h; simp at h <;> omega) ?_; intro Q hQ hW
      repeat' (first
    | (with_reducible refine run_n ?_; with_reducible first | refine hK _ _ (by simp) ?_ | refine hK _ _ ?_; clear hK K)
    | (with_reducible first | refine awp_seq ?_ | refine then_n ?_ | refine then_r ?_ | refine then_e ?_ | refine awp_skip ?_ | refine awp_label ?_ | refine awp_ret ?_ | refine awp_exit ?_ | refine awp_block ?_ | refine awp_scope ?_ | refine in_n ?_ | refine in_r ?_ | refine in_e ?_ | refine in_ne (by decide) ?_ | refine ng_n ?_ | refine ng_r ?_ | refine ng_e ?_)
    | (with_reducible refine awp_regT (by kernel_rfl) ?_; intro K hK)
    | (with_reducible refine a_cond (ht := ?_) (hf := ?_) <;> intro hb <;> (try simp at hb) <;> (try contradiction) <;> (try subst hb) <;> (try omega))
    | (with_reducible first | refine a_move (hr := ?_) | refine a_assign (hr := ?_) | refine a_load (hr := ?_) | refine a_bin (hr := ?_) | refine a_lenS (hr := ?_) | refine a_lenR (hr := ?_) | refine a_extract (hr := ?_) | refine a_pick (hr := ?_) | refine a_store (hr := ?_) | refine a_alloc (hr := ?_) | refine a_makeFunc (hr := ?_) | refine a_idxArr (hr := ?_) | refine a_indexAddr (hr := ?_) | refine a_build (hr := ?_) | refine a_callB (hcall := k0) (hr := ?_) | refine a_callP (p := 22) (hcall := k1) (hr := ?_) | refine a_gT (hr := ?_) | refine a_gF (hr := ?_) | refine a_gU (hr := ?_))
    | (with_reducible refine a_gB (hT := ?_) (hF := ?_) <;> intro hb <;> (try simp at hb) <;> (try contradiction) <;> (try subst hb) <;> (try omega))
    | fail)
      all_goals ((refine hQ _ _ _ _ (by first | exact .inr rfl | exact .inl rfl) (by simp; exact .r) (by simp; exact .r) ?_))
      all_goals (exact Fin.drop (by simp; exact .r) (by simp))
theorem c_rTakeArm (l : List Int) (hB : IsB l) (hl : l.length ≤ 1000) : CallD Try.prog 39 [.sl 1 (u8s l)] noHeap (.tup [(armR l).1.av, .raw (.int .i64 (armR l).2)]) noHeap := by
  have k0 := c_RfRead l (by omega)
  cases l with
  | nil =>
    have e1 : armR [] = (Arm.z, 6) := by rfl
    have k1 : CallD Try.prog 81 [.ptr 100000 0] (rfH [] 0) (.raw (.int .u8 0)) (rfH [] 6) := c_RfByte [] 0 hB (by simp)
    have k2 := c_rarm 0 ⟨#[]⟩ ⟨#[]⟩ 0 (by decide) (by decide)
    rw [show armB 0 ⟨#[]⟩ ⟨#[]⟩ 0 = false by decide +kernel] at k2
    have k3 : CallD Try.prog 82 [.ptr 100000 0, .raw (.bool false)] (rfH [] 6) (.raw (.int .i64 6)) (rfH [] 6) := c_rend [] 6 false (by simp)
    rw [e1]
    unfold Arm.z
    refine calls_go (nt := 53) (rs := [.cell 2 24, .tmp 3]) Try.func39 rfl rfl rfl (by simp) (by intro id h; simp at h <;> omega) ?_; intro Q hQ hW
    repeat' (first
    | (with_reducible refine run_n ?_; with_reducible first | refine hK _ _ (by simp) ?_ | refine hK _ _ ?_; clear hK K)
    | (with_reducible first | refine awp_seq ?_ | refine then_n ?_ | refine then_r ?_ | refine then_e ?_ | refine awp_skip ?_ | refine awp_label ?_ | refine awp_ret ?_ | refine awp_exit ?_ | refine awp_block ?_ | refine awp_scope ?_ | refine in_n ?_ | refine in_r ?_ | refine in_e ?_ | refine in_ne (by decide) ?_ | refine ng_n ?_ | refine ng_r ?_ | refine ng_e ?_)
    | (with_reducible refine awp_regT (by kernel_rfl) ?_; intro K hK)
    | (with_reducible refine a_cond (ht := ?_) (hf := ?_) <;> intro hb <;> (try simp at hb) <;> (try contradiction) <;> (try subst hb) <;> (try omega))
    | (with_reducible first | refine a_move (hr := ?_) | refine a_assign (hr := ?_) | refine a_load (hr := ?_) | refine a_fieldAddr (hr := ?_) | refine a_nilCheck (hr := ?_) | refine a_bin (hr := ?_) | refine a_store (hr := ?_) | refine a_alloc (hr := ?_) | refine a_eqB (hr := ?_) | refine a_neB (hr := ?_) | refine a_conv (hr := ?_) | refine a_bytesStr (hr := ?_) | refine a_strBytes (hr := ?_) | refine a_eqS (hr := ?_) | refine a_neS (hr := ?_) | refine a_build (hr := ?_) | refine a_callB (hcall := k0) (hr := ?_) | refine a_callP (p := 8) (hcall := k1) (hr := ?_) | refine a_call0 (hcall := k2) (hr := ?_) | refine a_callP (p := 8) (hcall := k3) (hr := ?_))
    | fail)
    all_goals ((refine hQ _ _ _ _ (by first | exact .inr rfl | exact .inl rfl) (by simp; exact .r) (by simp; exact .r) ?_))
    all_goals (exact Fin.drop (by simp; exact .r) (by simp))
  | cons c l =>
    obtain ⟨hc, hB1⟩ := isB_cons.1 hB
    have k1 : CallD Try.prog 81 [.ptr 100000 0] (rfH (c :: l) 0) (.raw (.int .u8 c)) (rfH l 0) := c_RfByte (c :: l) 0 hB (by rw [List.length_cons] at *; omega)
    have hl1 : l.length ≤ 1000 := by rw [List.length_cons] at hl; omega
    simp only [armR]
    have e0 : armS (c :: l, 0) = armT c (l, 0) := rfl
    simp only [armO]
    rw [e0]
    clear e0
    by_cases h1 : c = 1
    · subst h1
      rw [if_neg (by omega)]
      simp only [armT, if_true]
      have k2 := y_U (l := l) 0 18446744073709551615 hB1 (by omega)
      have n2 := ln_sU (e := 0) (most := 18446744073709551615) hl1
      generalize sU 18446744073709551615 (l, 0) = r at k2 n2 ⊢
      obtain ⟨v, l2, e2⟩ := r
      simp only at k2 n2 ⊢
      have k3 := c_rarm 1 ⟨#[]⟩ ⟨#[]⟩ v (by decide) (by decide)
      simp only [Arm.b]
      generalize armB 1 ⟨#[]⟩ ⟨#[]⟩ v = b at k3 ⊢
      have k4 := c_rend l2 e2 b (by omega)
      generalize wrongE b (endE l2 e2) = q at k4 ⊢
      clear hB hB1 hl hl1 n2 hc
      by_cases hq : q = 0
      · subst hq
        rw [outR_0]
        refine calls_go (nt := 53) (rs := [.cell 2 24, .tmp 3]) Try.func39 rfl rfl rfl (by simp) (by intro id h; simp at h <;> omega) ?_; intro Q hQ hW
        repeat' (first
    | (with_reducible refine run_n ?_; with_reducible first | refine hK _ _ (by simp) ?_ | refine hK _ _ ?_; clear hK K)
    | (with_reducible first | refine awp_seq ?_ | refine then_n ?_ | refine then_r ?_ | refine then_e ?_ | refine awp_skip ?_ | refine awp_label ?_ | refine awp_ret ?_ | refine awp_exit ?_ | refine awp_block ?_ | refine awp_scope ?_ | refine in_n ?_ | refine in_r ?_ | refine in_e ?_ | refine in_ne (by decide) ?_ | refine ng_n ?_ | refine ng_r ?_ | refine ng_e ?_)
    | (with_reducible refine awp_regT (by kernel_rfl) ?_; intro K hK)
    | (with_reducible refine a_cond (ht := ?_) (hf := ?_) <;> intro hb <;> (try simp at hb) <;> (try contradiction) <;> (try subst hb) <;> (try omega))
    | (with_reducible first | refine a_move (hr := ?_) | refine a_assign (hr := ?_) | refine a_load (hr := ?_) | refine a_fieldAddr (hr := ?_) | refine a_nilCheck (hr := ?_) | refine a_bin (hr := ?_) | refine a_store (hr := ?_) | refine a_alloc (hr := ?_) | refine a_eqB (hr := ?_) | refine a_neB (hr := ?_) | refine a_conv (hr := ?_) | refine a_bytesStr (hr := ?_) | refine a_strBytes (hr := ?_) | refine a_eqS (hr := ?_) | refine a_neS (hr := ?_) | refine a_build (hr := ?_) | refine a_callB (hcall := k0) (hr := ?_) | refine a_callP (p := 8) (hcall := k1) (hr := ?_) | refine a_callP (p := 8) (hcall := k2) (hr := ?_) | refine a_call0 (hcall := k3) (hr := ?_) | refine a_callP (p := 8) (hcall := k4) (hr := ?_))
    | fail)
        all_goals ((refine hQ _ _ _ _ (by first | exact .inr rfl | exact .inl rfl) (by simp; exact .r) (by simp; exact .r) ?_))
        all_goals (exact Fin.drop (by simp; exact .r) (by simp))
      · rw [outR_n _ _ hq]
        unfold Arm.z
        refine calls_go (nt := 53) (rs := [.cell 2 24, .tmp 3]) Try.func39 rfl rfl rfl (by simp) (by intro id h; simp at h <;> omega) ?_; intro Q hQ hW
        repeat' (first
    | (with_reducible refine run_n ?_; with_reducible first | refine hK _ _ (by simp) ?_ | refine hK _ _ ?_; clear hK K)
    | (with_reducible first | refine awp_seq ?_ | refine then_n ?_ | refine then_r ?_ | refine then_e ?_ | refine awp_skip ?_ | refine awp_label ?_ | refine awp_ret ?_ | refine awp_exit ?_ | refine awp_block ?_ | refine awp_scope ?_ | refine in_n ?_ | refine in_r ?_ | refine in_e ?_ | refine in_ne (by decide) ?_ | refine ng_n ?_ | refine ng_r ?_ | refine ng_e ?_)
    | (with_reducible refine awp_regT (by kernel_rfl) ?_; intro K hK)
    | (with_reducible refine a_cond (ht := ?_) (hf := ?_) <;> intro hb <;> (try simp at hb) <;> (try contradiction) <;> (try subst hb) <;> (try omega))
    | (with_reducible first | refine a_move (hr := ?_) | refine a_assign (hr := ?_) | refine a_load (hr := ?_) | refine a_fieldAddr (hr := ?_) | refine a_nilCheck (hr := ?_) | refine a_bin (hr := ?_) | refine a_store (hr := ?_) | refine a_alloc (hr := ?_) | refine a_eqB (hr := ?_) | refine a_neB (hr := ?_) | refine a_conv (hr := ?_) | refine a_bytesStr (hr := ?_) | refine a_strBytes (hr := ?_) | refine a_eqS (hr := ?_) | refine a_neS (hr := ?_) | refine a_build (hr := ?_) | refine a_callB (hcall := k0) (hr := ?_) | refine a_callP (p := 8) (hcall := k1) (hr := ?_) | refine a_callP (p := 8) (hcall := k2) (hr := ?_) | refine a_call0 (hcall := k3) (hr := ?_) | refine a_callP (p := 8) (hcall := k4) (hr := ?_))
    | fail)
        all_goals ((refine hQ _ _ _ _ (by first | exact .inr rfl | exact .inl rfl) (by simp; exact .r) (by simp; exact .r) ?_))
        all_goals (exact Fin.drop (by simp; exact .r) (by simp))
    by_cases h2 : c = 2
    · subst h2
      rw [if_neg (by omega)]
      simp only [armT, if_true]
      rw [if_neg (by decide)]
      have k2 := y_T (l := l) 0 16 hB1 (by omega) (by omega)
      have z2 := r_T l 0 16
      have b2 := isB_sT (e := 0) (most := 16) hB1
      have n2 := ln_sT (e := 0) (most := 16) hl1
      generalize sT 16 (l, 0) = r at k2 z2 b2 n2 ⊢
      obtain ⟨v, l2, e2⟩ := r
      simp only at k2 z2 b2 n2 ⊢
      have k3 := y_T (l := l2) e2 64 b2 (by omega) (by omega)
      have z3 := r_T l2 e2 64
      have n3 := ln_sT (e := e2) (most := 64) n2
      generalize sT 64 (l2, e2) = r at k3 z3 n3 ⊢
      obtain ⟨w, l3, e3⟩ := r
      simp only at k3 z3 n3 ⊢
      have k4 := c_rarm 2 v w 0 (by omega) (by omega)
      simp only [Arm.b]
      generalize armB 2 v w 0 = b at k4 ⊢
      have k5 := c_rend l3 e3 b (by omega)
      generalize wrongE b (endE l3 e3) = q at k5 ⊢
      clear hB hB1 hl hl1 n2 n3 b2 z2 z3 hc
      by_cases hq : q = 0
      · subst hq
        rw [outR_0]
        refine calls_go (nt := 53) (rs := [.cell 2 24, .tmp 3]) Try.func39 rfl rfl rfl (by simp) (by intro id h; simp at h <;> omega) ?_; intro Q hQ hW
        repeat' (first
    | (with_reducible refine run_n ?_; with_reducible first | refine hK _ _ (by simp) ?_ | refine hK _ _ ?_; clear hK K)
    | (with_reducible first | refine awp_seq ?_ | refine then_n ?_ | refine then_r ?_ | refine then_e ?_ | refine awp_skip ?_ | refine awp_label ?_ | refine awp_ret ?_ | refine awp_exit ?_ | refine awp_block ?_ | refine awp_scope ?_ | refine in_n ?_ | refine in_r ?_ | refine in_e ?_ | refine in_ne (by decide) ?_ | refine ng_n ?_ | refine ng_r ?_ | refine ng_e ?_)
    | (with_reducible refine awp_regT (by kernel_rfl) ?_; intro K hK)
    | (with_reducible refine a_cond (ht := ?_) (hf := ?_) <;> intro hb <;> (try simp at hb) <;> (try contradiction) <;> (try subst hb) <;> (try omega))
    | (with_reducible first | refine a_move (hr := ?_) | refine a_assign (hr := ?_) | refine a_load (hr := ?_) | refine a_fieldAddr (hr := ?_) | refine a_nilCheck (hr := ?_) | refine a_bin (hr := ?_) | refine a_store (hr := ?_) | refine a_alloc (hr := ?_) | refine a_eqB (hr := ?_) | refine a_neB (hr := ?_) | refine a_conv (hr := ?_) | refine a_bytesStr (hr := ?_) | refine a_strBytes (hr := ?_) | refine a_eqS (hr := ?_) | refine a_neS (hr := ?_) | refine a_build (hr := ?_) | refine a_callB (hcall := k0) (hr := ?_) | refine a_callP (p := 8) (hcall := k1) (hr := ?_) | refine a_callP (p := 8) (hcall := k2) (hr := ?_) | refine a_callP (p := 8) (hcall := k3) (hr := ?_) | refine a_call0 (hcall := k4) (hr := ?_) | refine a_callP (p := 8) (hcall := k5) (hr := ?_))
    | fail)
        all_goals ((refine hQ _ _ _ _ (by first | exact .inr rfl | exact .inl rfl) (by simp; exact .r) (by simp; exact .r) ?_))
        all_goals (exact Fin.drop (by simp; exact .r) (by simp))
      · rw [outR_n _ _ hq]
        unfold Arm.z
        refine calls_go (nt := 53) (rs := [.cell 2 24, .tmp 3]) Try.func39 rfl rfl rfl (by simp) (by intro id h; simp at h <;> omega) ?_; intro Q hQ hW
        repeat' (first
    | (with_reducible refine run_n ?_; with_reducible first | refine hK _ _ (by simp) ?_ | refine hK _ _ ?_; clear hK K)
    | (with_reducible first | refine awp_seq ?_ | refine then_n ?_ | refine then_r ?_ | refine then_e ?_ | refine awp_skip ?_ | refine awp_label ?_ | refine awp_ret ?_ | refine awp_exit ?_ | refine awp_block ?_ | refine awp_scope ?_ | refine in_n ?_ | refine in_r ?_ | refine in_e ?_ | refine in_ne (by decide) ?_ | refine ng_n ?_ | refine ng_r ?_ | refine ng_e ?_)
    | (with_reducible refine awp_regT (by kernel_rfl) ?_; intro K hK)
    | (with_reducible refine a_cond (ht := ?_) (hf := ?_) <;> intro hb <;> (try simp at hb) <;> (try contradiction) <;> (try subst hb) <;> (try omega))
    | (with_reducible first | refine a_move (hr := ?_) | refine a_assign (hr := ?_) | refine a_load (hr := ?_) | refine a_fieldAddr (hr := ?_) | refine a_nilCheck (hr := ?_) | refine a_bin (hr := ?_) | refine a_store (hr := ?_) | refine a_alloc (hr := ?_) | refine a_eqB (hr := ?_) | refine a_neB (hr := ?_) | refine a_conv (hr := ?_) | refine a_bytesStr (hr := ?_) | refine a_strBytes (hr := ?_) | refine a_eqS (hr := ?_) | refine a_neS (hr := ?_) | refine a_build (hr := ?_) | refine a_callB (hcall := k0) (hr := ?_) | refine a_callP (p := 8) (hcall := k1) (hr := ?_) | refine a_callP (p := 8) (hcall := k2) (hr := ?_) | refine a_callP (p := 8) (hcall := k3) (hr := ?_) | refine a_call0 (hcall := k4) (hr := ?_) | refine a_callP (p := 8) (hcall := k5) (hr := ?_))
    | fail)
        all_goals ((refine hQ _ _ _ _ (by first | exact .inr rfl | exact .inl rfl) (by simp; exact .r) (by simp; exact .r) ?_))
        all_goals (exact Fin.drop (by simp; exact .r) (by simp))
    by_cases h3 : c = 3
    · subst h3
      rw [if_neg (by omega)]
      simp only [armT, if_true]
      rw [if_neg (by decide), if_neg (by decide)]
      have k2 := y_T (l := l) 0 16 hB1 (by omega) (by omega)
      have z2 := r_T l 0 16
      have n2 := ln_sT (e := 0) (most := 16) hl1
      generalize sT 16 (l, 0) = r at k2 z2 n2 ⊢
      obtain ⟨v, l2, e2⟩ := r
      simp only at k2 z2 n2 ⊢
      have k4 := c_rarm 3 v ⟨#[]⟩ 0 (by omega) (by decide)
      simp only [Arm.b]
      generalize armB 3 v ⟨#[]⟩ 0 = b at k4 ⊢
      have k5 := c_rend l2 e2 b (by omega)
      generalize wrongE b (endE l2 e2) = q at k5 ⊢
      clear hB hB1 hl hl1 n2 z2 hc
      by_cases hq : q = 0
      · subst hq
        rw [outR_0]
        refine calls_go (nt := 53) (rs := [.cell 2 24, .tmp 3]) Try.func39 rfl rfl rfl (by simp) (by intro id h; simp at h <;> omega) ?_; intro Q hQ hW
        repeat' (first
    | (with_reducible refine run_n ?_; with_reducible first | refine hK _ _ (by simp) ?_ | refine hK _ _ ?_; clear hK K)
    | (with_reducible first | refine awp_seq ?_ | refine then_n ?_ | refine then_r ?_ | refine then_e ?_ | refine awp_skip ?_ | refine awp_label ?_ | refine awp_ret ?_ | refine awp_exit ?_ | refine awp_block ?_ | refine awp_scope ?_ | refine in_n ?_ | refine in_r ?_ | refine in_e ?_ | refine in_ne (by decide) ?_ | refine ng_n ?_ | refine ng_r ?_ | refine ng_e ?_)
    | (with_reducible refine awp_regT (by kernel_rfl) ?_; intro K hK)
    | (with_reducible refine a_cond (ht := ?_) (hf := ?_) <;> intro hb <;> (try simp at hb) <;> (try contradiction) <;> (try subst hb) <;> (try omega))
    | (with_reducible first | refine a_move (hr := ?_) | refine a_assign (hr := ?_) | refine a_load (hr := ?_) | refine a_fieldAddr (hr := ?_) | refine a_nilCheck (hr := ?_) | refine a_bin (hr := ?_) | refine a_store (hr := ?_) | refine a_alloc (hr := ?_) | refine a_eqB (hr := ?_) | refine a_neB (hr := ?_) | refine a_conv (hr := ?_) | refine a_bytesStr (hr := ?_) | refine a_strBytes (hr := ?_) | refine a_eqS (hr := ?_) | refine a_neS (hr := ?_) | refine a_build (hr := ?_) | refine a_callB (hcall := k0) (hr := ?_) | refine a_callP (p := 8) (hcall := k1) (hr := ?_) | refine a_callP (p := 8) (hcall := k2) (hr := ?_) | refine a_call0 (hcall := k4) (hr := ?_) | refine a_callP (p := 8) (hcall := k5) (hr := ?_))
    | fail)
        all_goals ((refine hQ _ _ _ _ (by first | exact .inr rfl | exact .inl rfl) (by simp; exact .r) (by simp; exact .r) ?_))
        all_goals (exact Fin.drop (by simp; exact .r) (by simp))
      · rw [outR_n _ _ hq]
        unfold Arm.z
        refine calls_go (nt := 53) (rs := [.cell 2 24, .tmp 3]) Try.func39 rfl rfl rfl (by simp) (by intro id h; simp at h <;> omega) ?_; intro Q hQ hW
        repeat' (first
    | (with_reducible refine run_n ?_; with_reducible first | refine hK _ _ (by simp) ?_ | refine hK _ _ ?_; clear hK K)
    | (with_reducible first | refine awp_seq ?_ | refine then_n ?_ | refine then_r ?_ | refine then_e ?_ | refine awp_skip ?_ | refine awp_label ?_ | refine awp_ret ?_ | refine awp_exit ?_ | refine awp_block ?_ | refine awp_scope ?_ | refine in_n ?_ | refine in_r ?_ | refine in_e ?_ | refine in_ne (by decide) ?_ | refine ng_n ?_ | refine ng_r ?_ | refine ng_e ?_)
    | (with_reducible refine awp_regT (by kernel_rfl) ?_; intro K hK)
    | (with_reducible refine a_cond (ht := ?_) (hf := ?_) <;> intro hb <;> (try simp at hb) <;> (try contradiction) <;> (try subst hb) <;> (try omega))
    | (with_reducible first | refine a_move (hr := ?_) | refine a_assign (hr := ?_) | refine a_load (hr := ?_) | refine a_fieldAddr (hr := ?_) | refine a_nilCheck (hr := ?_) | refine a_bin (hr := ?_) | refine a_store (hr := ?_) | refine a_alloc (hr := ?_) | refine a_eqB (hr := ?_) | refine a_neB (hr := ?_) | refine a_conv (hr := ?_) | refine a_bytesStr (hr := ?_) | refine a_strBytes (hr := ?_) | refine a_eqS (hr := ?_) | refine a_neS (hr := ?_) | refine a_build (hr := ?_) | refine a_callB (hcall := k0) (hr := ?_) | refine a_callP (p := 8) (hcall := k1) (hr := ?_) | refine a_callP (p := 8) (hcall := k2) (hr := ?_) | refine a_call0 (hcall := k4) (hr := ?_) | refine a_callP (p := 8) (hcall := k5) (hr := ?_))
    | fail)
        all_goals ((refine hQ _ _ _ _ (by first | exact .inr rfl | exact .inl rfl) (by simp; exact .r) (by simp; exact .r) ?_))
        all_goals (exact Fin.drop (by simp; exact .r) (by simp))
    rw [if_pos (by omega)]
    unfold Arm.z
    refine calls_go (nt := 53) (rs := [.cell 2 24, .tmp 3]) Try.func39 rfl rfl rfl (by simp) (by intro id h; simp at h <;> omega) ?_; intro Q hQ hW
    repeat' (first
    | (with_reducible refine run_n ?_; with_reducible first | refine hK _ _ (by simp) ?_ | refine hK _ _ ?_; clear hK K)
    | (with_reducible first | refine awp_seq ?_ | refine then_n ?_ | refine then_r ?_ | refine then_e ?_ | refine awp_skip ?_ | refine awp_label ?_ | refine awp_ret ?_ | refine awp_exit ?_ | refine awp_block ?_ | refine awp_scope ?_ | refine in_n ?_ | refine in_r ?_ | refine in_e ?_ | refine in_ne (by decide) ?_ | refine ng_n ?_ | refine ng_r ?_ | refine ng_e ?_)
    | (with_reducible refine awp_regT (by kernel_rfl) ?_; intro K hK)
    | (with_reducible refine a_cond (ht := ?_) (hf := ?_) <;> intro hb <;> (try simp at hb) <;> (try contradiction) <;> (try subst hb) <;> (try omega))
    | (with_reducible first | refine a_move (hr := ?_) | refine a_assign (hr := ?_) | refine a_load (hr := ?_) | refine a_fieldAddr (hr := ?_) | refine a_nilCheck (hr := ?_) | refine a_bin (hr := ?_) | refine a_store (hr := ?_) | refine a_alloc (hr := ?_) | refine a_eqB (hr := ?_) | refine a_neB (hr := ?_) | refine a_conv (hr := ?_) | refine a_bytesStr (hr := ?_) | refine a_strBytes (hr := ?_) | refine a_eqS (hr := ?_) | refine a_neS (hr := ?_) | refine a_build (hr := ?_) | refine a_callB (hcall := k0) (hr := ?_) | refine a_callP (p := 8) (hcall := k1) (hr := ?_))
    | fail)
    all_goals ((refine hQ _ _ _ _ (by first | exact .inr rfl | exact .inl rfl) (by simp; exact .r) (by simp; exact .r) ?_))
    all_goals (exact Fin.drop (by simp; exact .r) (by simp))
end Go.Proofs.Ytdbdajmgfajcpaa.Asl
