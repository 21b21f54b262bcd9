/- Chapter 15: the parts of a Ref. -/
import Derived.Test.YtdbdajmgfajcpaaEA
import Derived.Test.YtdbdajmgfajcpaaEB
import Derived.Test.YtdbdajmgfajcpaaKN
import Derived.Test.YtdbdajmgfajcpaaKM
namespace Go.Proofs.Ytdbdajmgfajcpaa.Asl
open Go Go.RowKit
set_option linter.unusedVariables false
set_option linter.unusedSimpArgs false
set_option maxRecDepth 100000
set_option maxHeartbeats 2000000
structure RefV where
  k : Int
  n : ByteArray
  y : ByteArray
  d : ByteArray
  i : ByteArray
  t : Int
  o : Int
  a : Int
abbrev RefV.av (r : RefV) : AV := refAV r.k r.n r.y r.d r.i r.t r.o r.a
def inU (x : Int) : Prop := 0 ≤ x ∧ x < 18446744073709551616
def RefV.ok (r : RefV) : Prop := inU r.t ∧ inU r.o ∧ inU r.a
def eT : ByteArray := ⟨#[]⟩
def stepP (c : Int) (r : RefV) : ByteArray × RefV :=
  if c = 110 then (r.n, { r with n := ⟨#[]⟩ }) else if c = 107 then (r.y, { r with y := ⟨#[]⟩ }) else if c = 100 then (r.d, { r with d := ⟨#[]⟩ }) else if c = 105 then (r.i, { r with i := ⟨#[]⟩ })
  else if c = 116 then (strOfNums (hexs r.t), { r with t := 0 }) else if c = 111 then (strOfNums (hexs r.o), { r with o := 0 }) else (strOfNums (hexs r.a), { r with a := 0 })
def partsL : List Int → RefV → List ByteArray × RefV
  | [], r => ([], r)
  | c :: cs, r => ((stepP c r).1 :: (partsL cs (stepP c r).2).1, (partsL cs (stepP c r).2).2)
theorem stepP_ok {c : Int} {r : RefV} (h : r.ok) : (stepP c r).2.ok := by
  obtain ⟨h1, h2, h3⟩ := h
  have z : inU 0 := by unfold inU; omega
  unfold stepP
  repeat' split
  all_goals (unfold RefV.ok; simp only; exact ⟨by assumption, by assumption, by assumption⟩)
attribute [simp] textAt numAt
theorem lay_size (k : Int) : (lay k).1.size ≤ 5 := by
  unfold lay
  by_cases h109 : k = 109
  · subst h109; decide
  rw [if_neg h109]
  by_cases h115 : k = 115
  · subst h115; decide
  rw [if_neg h115]
  by_cases h122 : k = 122
  · subst h122; decide
  rw [if_neg h122]
  by_cases h97 : k = 97
  · subst h97; decide
  rw [if_neg h97]
  by_cases h107 : k = 107
  · subst h107; decide
  rw [if_neg h107]
  by_cases h116 : k = 116
  · subst h116; decide
  rw [if_neg h116]
  by_cases h105 : k = 105
  · subst h105; decide
  rw [if_neg h105]
  by_cases h118 : k = 118
  · subst h118; decide
  rw [if_neg h118]
  by_cases h98 : k = 98
  · subst h98; decide
  rw [if_neg h98]
  by_cases h101 : k = 101
  · subst h101; decide
  rw [if_neg h101]
  by_cases h100 : k = 100
  · subst h100; decide
  rw [if_neg h100]
  by_cases h99 : k = 99
  · subst h99; decide
  rw [if_neg h99]
  decide
/-- What a round of the loop does. -/
theorem c_text0 (c k : Int) (n y d i : ByteArray) (t o a : Int) (h1 : ¬ c = 110) (h2 : ¬ c = 107) (h3 : ¬ c = 100) (h4 : ¬ c = 105) : CallD Try.prog 54 [.ptr 100000 0, .raw (.int .u8 c)] (setH noHeap 100000 (.box (refAV k n y d i t o a))) (.raw (.pointer none)) (setH noHeap 100000 (.box (refAV k n y d i t o a))) := by
  have := c_text c k n y d i t o a
  simpa only [textAt, if_neg h1, if_neg h2, if_neg h3, if_neg h4] using this
theorem c_numA (c k : Int) (n y d i : ByteArray) (t o a : Int) (h1 : ¬ c = 116) (h2 : ¬ c = 111) : CallD Try.prog 56 [.ptr 100000 0, .raw (.int .u8 c)] (setH noHeap 100000 (.box (refAV k n y d i t o a))) (.ptr 100000 7) (setH noHeap 100000 (.box (refAV k n y d i t o a))) := by
  have := c_number c k n y d i t o a
  simpa only [numAt, if_neg h1, if_neg h2] using this
theorem c_parts (r : RefV) (hr : r.ok) : CallD Try.prog 45 [r.av] noHeap (if (lay r.k).2 = true then .tup [.sl 1 (strs (partsL (bytesOf (lay r.k).1) r).1), (partsL (bytesOf (lay r.k).1) r).2.av, .raw (.int .i64 0)] else .tup [.sl 1 [], r.av, .raw (.int .i64 31)]) noHeap := by
  have hlay := lay_size r.k
  have hL := c_layout r.k
  by_cases hk : (lay r.k).2 = true
  · rw [if_pos hk]
    rw [hk] at hL
    generalize hs : (lay r.k).1 = s at hL hlay ⊢
    generalize hr0 : r = r0 at hL ⊢
    obtain ⟨k0, n0, y0, d0, i0, t0, o0, a0⟩ := r0
    simp only at hL ⊢
    refine calls_go (nt := 55) (rs := [.tmp 2, .cell 3 27, .tmp 4]) Try.func45 rfl rfl rfl (by simp) (by intro id h; simp at h <;> omega) ?_; intro Q hQ hW
    repeat' (first
    | (with_reducible refine run_n ?_; with_reducible first | refine hK _ _ (by simp) ?_ | refine hK _ _ ?_; clear hK K)
    | (with_reducible first | refine awp_seq ?_ | refine then_n ?_ | refine then_r ?_ | refine then_e ?_ | refine awp_skip ?_ | refine awp_label ?_ | refine awp_ret ?_ | refine awp_exit ?_ | refine awp_block ?_ | refine awp_scope ?_ | refine in_n ?_ | refine in_r ?_ | refine in_e ?_ | refine in_ne (by decide) ?_ | refine ng_n ?_ | refine ng_r ?_ | refine ng_e ?_)
    | (with_reducible refine awp_regT (by kernel_rfl) ?_; intro K hK)
    | (with_reducible refine awp_regAM (id := 3) [(1, some 1), (3, some 3)] mixed (by kernel_rfl) (by kernel_rfl) ?_; intro K hK)
    | (with_reducible refine awp_regAM (id := 16) [(1, some 1), (3, some 3)] mixed (by kernel_rfl) (by kernel_rfl) ?_; intro K hK)
    | (with_reducible refine a_cond (ht := ?_) (hf := ?_) <;> intro hb <;> (try simp at hb) <;> (try contradiction) <;> (try subst hb) <;> (try omega))
    | (with_reducible first | refine a_move (hr := ?_) | refine a_assign (hr := ?_) | refine a_load (hr := ?_) | refine a_fieldAddr (hr := ?_) | refine a_nilCheck (hr := ?_) | refine a_bin (hr := ?_) | refine a_lenS (hr := ?_) | refine a_lenR (hr := ?_) | refine a_extract (hr := ?_) | refine a_un (hr := ?_) | refine a_store (hr := ?_) | refine a_box (hr := ?_) | refine a_alloc (hr := ?_) | refine a_eqP (hr := ?_) | refine a_neP (hr := ?_) | refine a_neB (hr := ?_) | refine a_neS (hr := ?_) | refine a_index (hr := ?_) | refine a_buildSlice (hr := ?_) | refine a_append (hr := ?_) | refine a_append0 (hr := ?_) | refine a_appendX (hr := ?_) | refine a_call0 (hcall := hL) (hr := ?_))
    | fail)
    refine awp_inv (α := Nat × List ByteArray × RefV) (fun p => [(1, .ptr 1 0), (3, .ptr 3 0), (5, .raw (.string s)), (7, if p.2.1 = [] then .raw (.slice none 0 0) else .ow 60 1 0 p.2.1.length), (21, .raw (.int .i64 s.size)), (22, .raw (.int .i64 p.1))])
      (fun p => if p.2.1 = [] then hpL [(1, .box p.2.2.av), (3, .box (refAV 0 ⟨#[]⟩ ⟨#[]⟩ ⟨#[]⟩ ⟨#[]⟩ 0 0 0))] else hpL [(1, .box p.2.2.av), (3, .box (refAV 0 ⟨#[]⟩ ⟨#[]⟩ ⟨#[]⟩ ⟨#[]⟩ 0 0 0)), (60, .arr 1 (strs p.2.1))])
      (fun p => p.1 ≤ s.size ∧ p.2.1.length ≤ p.1 ∧ p.2.2.ok ∧ p.2.1 ++ (partsL ((bytesOf s).drop p.1) p.2.2).1 = (partsL (bytesOf s) ⟨k0, n0, y0, d0, i0, t0, o0, a0⟩).1 ∧ (partsL ((bytesOf s).drop p.1) p.2.2).2 = (partsL (bytesOf s) ⟨k0, n0, y0, d0, i0, t0, o0, a0⟩).2) (fun p => s.size - p.1) (0, [], ⟨k0, n0, y0, d0, i0, t0, o0, a0⟩) ⟨by simp, by simp, by rw [← hr0]; exact hr, by simp, by simp⟩ (weak_sub (by simp) (by simp) (by simp)) ?_
    rintro ⟨i, out, ⟨k, n, y, d, ii, t, o, a⟩⟩ ⟨g1, g2, g3, g4, g5⟩
    simp only at g1 g2 g3 g4 g5 ⊢
    obtain ⟨⟨t1, t2⟩, ⟨o1, o2⟩, ⟨a1, a2⟩⟩ := g3
    have g3 : RefV.ok ⟨k, n, y, d, ii, t, o, a⟩ := ⟨⟨t1, t2⟩, ⟨o1, o2⟩, ⟨a1, a2⟩⟩
    simp only at t1 t2 o1 o2 a1 a2
    rcases Nat.lt_or_ge i s.size with hlt | hge
    · rw [drop_byte s i hlt] at g4 g5
      simp only [partsL] at g4 g5
      generalize hby : byteAt s (i : Int) = c at g4 g5
      have hst := stepP_ok (c := c) g3
      by_cases hout : out = []
      · rw [if_pos hout, if_pos hout]
        subst hout
        by_cases c110 : c = 110
        · subst c110
          have e : stepP 110 ⟨k, n, y, d, ii, t, o, a⟩ = (n, ⟨k, ⟨#[]⟩, y, d, ii, t, o, a⟩) := rfl
          rw [e] at g4 g5 hst
          simp only at g4 g5 hst
          repeat' (first
    | (with_reducible refine run_n ?_; with_reducible first | refine hK _ _ (by simp) ?_ | refine hK _ _ ?_; clear hK K)
    | (with_reducible first | refine awp_seq ?_ | refine then_n ?_ | refine then_r ?_ | refine then_e ?_ | refine awp_skip ?_ | refine awp_label ?_ | refine awp_ret ?_ | refine awp_exit ?_ | refine awp_block ?_ | refine awp_scope ?_ | refine in_n ?_ | refine in_r ?_ | refine in_e ?_ | refine in_ne (by decide) ?_ | refine ng_n ?_ | refine ng_r ?_ | refine ng_e ?_)
    | (with_reducible refine awp_regT (by kernel_rfl) ?_; intro K hK)
    | (with_reducible refine awp_regAM (id := 3) [(1, some 1), (3, some 3)] mixed (by kernel_rfl) (by kernel_rfl) ?_; intro K hK)
    | (with_reducible refine awp_regAM (id := 16) [(1, some 1), (3, some 3)] mixed (by kernel_rfl) (by kernel_rfl) ?_; intro K hK)
    | (with_reducible refine a_cond (ht := ?_) (hf := ?_) <;> intro hb <;> (try simp at hb) <;> (try contradiction) <;> (try subst hb) <;> (try omega))
    | (with_reducible first | refine a_move (hr := ?_) | refine a_assign (hr := ?_) | refine a_load (hr := ?_) | refine a_fieldAddr (hr := ?_) | refine a_nilCheck (hr := ?_) | refine a_bin (hr := ?_) | refine a_lenS (hr := ?_) | refine a_lenR (hr := ?_) | refine a_extract (hr := ?_) | refine a_un (hr := ?_) | refine a_store (hr := ?_) | refine a_box (hr := ?_) | refine a_alloc (hr := ?_) | refine a_eqP (hr := ?_) | refine a_neP (hr := ?_) | refine a_neB (hr := ?_) | refine a_neS (hr := ?_) | refine a_index (hr := ?_) | refine a_buildSlice (hr := ?_) | refine a_append (hr := ?_) | refine a_append0 (hr := ?_) | refine a_appendX (hr := ?_) | refine a_callP (p := 1) (hcall := c_text 110 _ _ _ _ _ _ _ _) (hr := ?_))
    | fail)
          exact ⟨(i + 1, ([] : List ByteArray) ++ [n], ⟨k, ⟨#[]⟩, y, d, ii, t, o, a⟩), by simp only; omega, ⟨by simp only; omega, by simp only [List.length_append, List.length_singleton]; omega, hst, by simpa using g4, g5⟩, by dsimp only; rw [if_neg (by simp), if_neg (by simp)]; exact weak_ren 60 36 (by decide) (by decide) (by simp) (by simp) (by simp)⟩
        by_cases c107 : c = 107
        · subst c107
          have e : stepP 107 ⟨k, n, y, d, ii, t, o, a⟩ = (y, ⟨k, n, ⟨#[]⟩, d, ii, t, o, a⟩) := rfl
          rw [e] at g4 g5 hst
          simp only at g4 g5 hst
          repeat' (first
    | (with_reducible refine run_n ?_; with_reducible first | refine hK _ _ (by simp) ?_ | refine hK _ _ ?_; clear hK K)
    | (with_reducible first | refine awp_seq ?_ | refine then_n ?_ | refine then_r ?_ | refine then_e ?_ | refine awp_skip ?_ | refine awp_label ?_ | refine awp_ret ?_ | refine awp_exit ?_ | refine awp_block ?_ | refine awp_scope ?_ | refine in_n ?_ | refine in_r ?_ | refine in_e ?_ | refine in_ne (by decide) ?_ | refine ng_n ?_ | refine ng_r ?_ | refine ng_e ?_)
    | (with_reducible refine awp_regT (by kernel_rfl) ?_; intro K hK)
    | (with_reducible refine awp_regAM (id := 3) [(1, some 1), (3, some 3)] mixed (by kernel_rfl) (by kernel_rfl) ?_; intro K hK)
    | (with_reducible refine awp_regAM (id := 16) [(1, some 1), (3, some 3)] mixed (by kernel_rfl) (by kernel_rfl) ?_; intro K hK)
    | (with_reducible refine a_cond (ht := ?_) (hf := ?_) <;> intro hb <;> (try simp at hb) <;> (try contradiction) <;> (try subst hb) <;> (try omega))
    | (with_reducible first | refine a_move (hr := ?_) | refine a_assign (hr := ?_) | refine a_load (hr := ?_) | refine a_fieldAddr (hr := ?_) | refine a_nilCheck (hr := ?_) | refine a_bin (hr := ?_) | refine a_lenS (hr := ?_) | refine a_lenR (hr := ?_) | refine a_extract (hr := ?_) | refine a_un (hr := ?_) | refine a_store (hr := ?_) | refine a_box (hr := ?_) | refine a_alloc (hr := ?_) | refine a_eqP (hr := ?_) | refine a_neP (hr := ?_) | refine a_neB (hr := ?_) | refine a_neS (hr := ?_) | refine a_index (hr := ?_) | refine a_buildSlice (hr := ?_) | refine a_append (hr := ?_) | refine a_append0 (hr := ?_) | refine a_appendX (hr := ?_) | refine a_callP (p := 1) (hcall := c_text 107 _ _ _ _ _ _ _ _) (hr := ?_))
    | fail)
          exact ⟨(i + 1, ([] : List ByteArray) ++ [y], ⟨k, n, ⟨#[]⟩, d, ii, t, o, a⟩), by simp only; omega, ⟨by simp only; omega, by simp only [List.length_append, List.length_singleton]; omega, hst, by simpa using g4, g5⟩, by dsimp only; rw [if_neg (by simp), if_neg (by simp)]; exact weak_ren 60 36 (by decide) (by decide) (by simp) (by simp) (by simp)⟩
        by_cases c100 : c = 100
        · subst c100
          have e : stepP 100 ⟨k, n, y, d, ii, t, o, a⟩ = (d, ⟨k, n, y, ⟨#[]⟩, ii, t, o, a⟩) := rfl
          rw [e] at g4 g5 hst
          simp only at g4 g5 hst
          repeat' (first
    | (with_reducible refine run_n ?_; with_reducible first | refine hK _ _ (by simp) ?_ | refine hK _ _ ?_; clear hK K)
    | (with_reducible first | refine awp_seq ?_ | refine then_n ?_ | refine then_r ?_ | refine then_e ?_ | refine awp_skip ?_ | refine awp_label ?_ | refine awp_ret ?_ | refine awp_exit ?_ | refine awp_block ?_ | refine awp_scope ?_ | refine in_n ?_ | refine in_r ?_ | refine in_e ?_ | refine in_ne (by decide) ?_ | refine ng_n ?_ | refine ng_r ?_ | refine ng_e ?_)
    | (with_reducible refine awp_regT (by kernel_rfl) ?_; intro K hK)
    | (with_reducible refine awp_regAM (id := 3) [(1, some 1), (3, some 3)] mixed (by kernel_rfl) (by kernel_rfl) ?_; intro K hK)
    | (with_reducible refine awp_regAM (id := 16) [(1, some 1), (3, some 3)] mixed (by kernel_rfl) (by kernel_rfl) ?_; intro K hK)
    | (with_reducible refine a_cond (ht := ?_) (hf := ?_) <;> intro hb <;> (try simp at hb) <;> (try contradiction) <;> (try subst hb) <;> (try omega))
    | (with_reducible first | refine a_move (hr := ?_) | refine a_assign (hr := ?_) | refine a_load (hr := ?_) | refine a_fieldAddr (hr := ?_) | refine a_nilCheck (hr := ?_) | refine a_bin (hr := ?_) | refine a_lenS (hr := ?_) | refine a_lenR (hr := ?_) | refine a_extract (hr := ?_) | refine a_un (hr := ?_) | refine a_store (hr := ?_) | refine a_box (hr := ?_) | refine a_alloc (hr := ?_) | refine a_eqP (hr := ?_) | refine a_neP (hr := ?_) | refine a_neB (hr := ?_) | refine a_neS (hr := ?_) | refine a_index (hr := ?_) | refine a_buildSlice (hr := ?_) | refine a_append (hr := ?_) | refine a_append0 (hr := ?_) | refine a_appendX (hr := ?_) | refine a_callP (p := 1) (hcall := c_text 100 _ _ _ _ _ _ _ _) (hr := ?_))
    | fail)
          exact ⟨(i + 1, ([] : List ByteArray) ++ [d], ⟨k, n, y, ⟨#[]⟩, ii, t, o, a⟩), by simp only; omega, ⟨by simp only; omega, by simp only [List.length_append, List.length_singleton]; omega, hst, by simpa using g4, g5⟩, by dsimp only; rw [if_neg (by simp), if_neg (by simp)]; exact weak_ren 60 36 (by decide) (by decide) (by simp) (by simp) (by simp)⟩
        by_cases c105 : c = 105
        · subst c105
          have e : stepP 105 ⟨k, n, y, d, ii, t, o, a⟩ = (ii, ⟨k, n, y, d, ⟨#[]⟩, t, o, a⟩) := rfl
          rw [e] at g4 g5 hst
          simp only at g4 g5 hst
          repeat' (first
    | (with_reducible refine run_n ?_; with_reducible first | refine hK _ _ (by simp) ?_ | refine hK _ _ ?_; clear hK K)
    | (with_reducible first | refine awp_seq ?_ | refine then_n ?_ | refine then_r ?_ | refine then_e ?_ | refine awp_skip ?_ | refine awp_label ?_ | refine awp_ret ?_ | refine awp_exit ?_ | refine awp_block ?_ | refine awp_scope ?_ | refine in_n ?_ | refine in_r ?_ | refine in_e ?_ | refine in_ne (by decide) ?_ | refine ng_n ?_ | refine ng_r ?_ | refine ng_e ?_)
    | (with_reducible refine awp_regT (by kernel_rfl) ?_; intro K hK)
    | (with_reducible refine awp_regAM (id := 3) [(1, some 1), (3, some 3)] mixed (by kernel_rfl) (by kernel_rfl) ?_; intro K hK)
    | (with_reducible refine awp_regAM (id := 16) [(1, some 1), (3, some 3)] mixed (by kernel_rfl) (by kernel_rfl) ?_; intro K hK)
    | (with_reducible refine a_cond (ht := ?_) (hf := ?_) <;> intro hb <;> (try simp at hb) <;> (try contradiction) <;> (try subst hb) <;> (try omega))
    | (with_reducible first | refine a_move (hr := ?_) | refine a_assign (hr := ?_) | refine a_load (hr := ?_) | refine a_fieldAddr (hr := ?_) | refine a_nilCheck (hr := ?_) | refine a_bin (hr := ?_) | refine a_lenS (hr := ?_) | refine a_lenR (hr := ?_) | refine a_extract (hr := ?_) | refine a_un (hr := ?_) | refine a_store (hr := ?_) | refine a_box (hr := ?_) | refine a_alloc (hr := ?_) | refine a_eqP (hr := ?_) | refine a_neP (hr := ?_) | refine a_neB (hr := ?_) | refine a_neS (hr := ?_) | refine a_index (hr := ?_) | refine a_buildSlice (hr := ?_) | refine a_append (hr := ?_) | refine a_append0 (hr := ?_) | refine a_appendX (hr := ?_) | refine a_callP (p := 1) (hcall := c_text 105 _ _ _ _ _ _ _ _) (hr := ?_))
    | fail)
          exact ⟨(i + 1, ([] : List ByteArray) ++ [ii], ⟨k, n, y, d, ⟨#[]⟩, t, o, a⟩), by simp only; omega, ⟨by simp only; omega, by simp only [List.length_append, List.length_singleton]; omega, hst, by simpa using g4, g5⟩, by dsimp only; rw [if_neg (by simp), if_neg (by simp)]; exact weak_ren 60 36 (by decide) (by decide) (by simp) (by simp) (by simp)⟩
        by_cases c116 : c = 116
        · subst c116
          have e : stepP 116 ⟨k, n, y, d, ii, t, o, a⟩ = (strOfNums (hexs t), ⟨k, n, y, d, ii, 0, o, a⟩) := rfl
          rw [e] at g4 g5 hst
          simp only at g4 g5 hst
          repeat' (first
    | (with_reducible refine run_n ?_; with_reducible first | refine hK _ _ (by simp) ?_ | refine hK _ _ ?_; clear hK K)
    | (with_reducible first | refine awp_seq ?_ | refine then_n ?_ | refine then_r ?_ | refine then_e ?_ | refine awp_skip ?_ | refine awp_label ?_ | refine awp_ret ?_ | refine awp_exit ?_ | refine awp_block ?_ | refine awp_scope ?_ | refine in_n ?_ | refine in_r ?_ | refine in_e ?_ | refine in_ne (by decide) ?_ | refine ng_n ?_ | refine ng_r ?_ | refine ng_e ?_)
    | (with_reducible refine awp_regT (by kernel_rfl) ?_; intro K hK)
    | (with_reducible refine awp_regAM (id := 3) [(1, some 1), (3, some 3)] mixed (by kernel_rfl) (by kernel_rfl) ?_; intro K hK)
    | (with_reducible refine awp_regAM (id := 16) [(1, some 1), (3, some 3)] mixed (by kernel_rfl) (by kernel_rfl) ?_; intro K hK)
    | (with_reducible refine a_cond (ht := ?_) (hf := ?_) <;> intro hb <;> (try simp at hb) <;> (try contradiction) <;> (try subst hb) <;> (try omega))
    | (with_reducible first | refine a_move (hr := ?_) | refine a_assign (hr := ?_) | refine a_load (hr := ?_) | refine a_fieldAddr (hr := ?_) | refine a_nilCheck (hr := ?_) | refine a_bin (hr := ?_) | refine a_lenS (hr := ?_) | refine a_lenR (hr := ?_) | refine a_extract (hr := ?_) | refine a_un (hr := ?_) | refine a_store (hr := ?_) | refine a_box (hr := ?_) | refine a_alloc (hr := ?_) | refine a_eqP (hr := ?_) | refine a_neP (hr := ?_) | refine a_neB (hr := ?_) | refine a_neS (hr := ?_) | refine a_index (hr := ?_) | refine a_buildSlice (hr := ?_) | refine a_append (hr := ?_) | refine a_append0 (hr := ?_) | refine a_appendX (hr := ?_) | refine a_callP (p := 1) (hcall := c_text0 116 _ _ _ _ _ _ _ _ (by decide) (by decide) (by decide) (by decide)) (hr := ?_) | refine a_callP (p := 1) (hcall := c_number 116 _ _ _ _ _ _ _ _) (hr := ?_) | refine a_call0 (hcall := c_Number _ t1 t2) (hr := ?_))
    | fail)
          exact ⟨(i + 1, ([] : List ByteArray) ++ [strOfNums (hexs t)], ⟨k, n, y, d, ii, 0, o, a⟩), by simp only; omega, ⟨by simp only; omega, by simp only [List.length_append, List.length_singleton]; omega, hst, by simpa using g4, g5⟩, by dsimp only; rw [if_neg (by simp), if_neg (by simp)]; exact weak_ren 60 49 (by decide) (by decide) (by simp) (by simp) (by simp)⟩
        by_cases c111 : c = 111
        · subst c111
          have e : stepP 111 ⟨k, n, y, d, ii, t, o, a⟩ = (strOfNums (hexs o), ⟨k, n, y, d, ii, t, 0, a⟩) := rfl
          rw [e] at g4 g5 hst
          simp only at g4 g5 hst
          repeat' (first
    | (with_reducible refine run_n ?_; with_reducible first | refine hK _ _ (by simp) ?_ | refine hK _ _ ?_; clear hK K)
    | (with_reducible first | refine awp_seq ?_ | refine then_n ?_ | refine then_r ?_ | refine then_e ?_ | refine awp_skip ?_ | refine awp_label ?_ | refine awp_ret ?_ | refine awp_exit ?_ | refine awp_block ?_ | refine awp_scope ?_ | refine in_n ?_ | refine in_r ?_ | refine in_e ?_ | refine in_ne (by decide) ?_ | refine ng_n ?_ | refine ng_r ?_ | refine ng_e ?_)
    | (with_reducible refine awp_regT (by kernel_rfl) ?_; intro K hK)
    | (with_reducible refine awp_regAM (id := 3) [(1, some 1), (3, some 3)] mixed (by kernel_rfl) (by kernel_rfl) ?_; intro K hK)
    | (with_reducible refine awp_regAM (id := 16) [(1, some 1), (3, some 3)] mixed (by kernel_rfl) (by kernel_rfl) ?_; intro K hK)
    | (with_reducible refine a_cond (ht := ?_) (hf := ?_) <;> intro hb <;> (try simp at hb) <;> (try contradiction) <;> (try subst hb) <;> (try omega))
    | (with_reducible first | refine a_move (hr := ?_) | refine a_assign (hr := ?_) | refine a_load (hr := ?_) | refine a_fieldAddr (hr := ?_) | refine a_nilCheck (hr := ?_) | refine a_bin (hr := ?_) | refine a_lenS (hr := ?_) | refine a_lenR (hr := ?_) | refine a_extract (hr := ?_) | refine a_un (hr := ?_) | refine a_store (hr := ?_) | refine a_box (hr := ?_) | refine a_alloc (hr := ?_) | refine a_eqP (hr := ?_) | refine a_neP (hr := ?_) | refine a_neB (hr := ?_) | refine a_neS (hr := ?_) | refine a_index (hr := ?_) | refine a_buildSlice (hr := ?_) | refine a_append (hr := ?_) | refine a_append0 (hr := ?_) | refine a_appendX (hr := ?_) | refine a_callP (p := 1) (hcall := c_text0 111 _ _ _ _ _ _ _ _ (by decide) (by decide) (by decide) (by decide)) (hr := ?_) | refine a_callP (p := 1) (hcall := c_number 111 _ _ _ _ _ _ _ _) (hr := ?_) | refine a_call0 (hcall := c_Number _ o1 o2) (hr := ?_))
    | fail)
          exact ⟨(i + 1, ([] : List ByteArray) ++ [strOfNums (hexs o)], ⟨k, n, y, d, ii, t, 0, a⟩), by simp only; omega, ⟨by simp only; omega, by simp only [List.length_append, List.length_singleton]; omega, hst, by simpa using g4, g5⟩, by dsimp only; rw [if_neg (by simp), if_neg (by simp)]; exact weak_ren 60 49 (by decide) (by decide) (by simp) (by simp) (by simp)⟩
        have e : stepP c ⟨k, n, y, d, ii, t, o, a⟩ = (strOfNums (hexs a), ⟨k, n, y, d, ii, t, o, 0⟩) := by unfold stepP; rw [if_neg c110, if_neg c107, if_neg c100, if_neg c105, if_neg c116, if_neg c111]
        rw [e] at g4 g5 hst
        simp only at g4 g5 hst
        repeat' (first
    | (with_reducible refine run_n ?_; with_reducible first | refine hK _ _ (by simp) ?_ | refine hK _ _ ?_; clear hK K)
    | (with_reducible first | refine awp_seq ?_ | refine then_n ?_ | refine then_r ?_ | refine then_e ?_ | refine awp_skip ?_ | refine awp_label ?_ | refine awp_ret ?_ | refine awp_exit ?_ | refine awp_block ?_ | refine awp_scope ?_ | refine in_n ?_ | refine in_r ?_ | refine in_e ?_ | refine in_ne (by decide) ?_ | refine ng_n ?_ | refine ng_r ?_ | refine ng_e ?_)
    | (with_reducible refine awp_regT (by kernel_rfl) ?_; intro K hK)
    | (with_reducible refine awp_regAM (id := 3) [(1, some 1), (3, some 3)] mixed (by kernel_rfl) (by kernel_rfl) ?_; intro K hK)
    | (with_reducible refine awp_regAM (id := 16) [(1, some 1), (3, some 3)] mixed (by kernel_rfl) (by kernel_rfl) ?_; intro K hK)
    | (with_reducible refine a_cond (ht := ?_) (hf := ?_) <;> intro hb <;> (try simp at hb) <;> (try contradiction) <;> (try subst hb) <;> (try omega))
    | (with_reducible first | refine a_move (hr := ?_) | refine a_assign (hr := ?_) | refine a_load (hr := ?_) | refine a_fieldAddr (hr := ?_) | refine a_nilCheck (hr := ?_) | refine a_bin (hr := ?_) | refine a_lenS (hr := ?_) | refine a_lenR (hr := ?_) | refine a_extract (hr := ?_) | refine a_un (hr := ?_) | refine a_store (hr := ?_) | refine a_box (hr := ?_) | refine a_alloc (hr := ?_) | refine a_eqP (hr := ?_) | refine a_neP (hr := ?_) | refine a_neB (hr := ?_) | refine a_neS (hr := ?_) | refine a_index (hr := ?_) | refine a_buildSlice (hr := ?_) | refine a_append (hr := ?_) | refine a_append0 (hr := ?_) | refine a_appendX (hr := ?_) | refine a_callP (p := 1) (hcall := c_text0 c _ _ _ _ _ _ _ _ c110 c107 c100 c105) (hr := ?_) | refine a_callP (p := 1) (hcall := c_numA c _ _ _ _ _ _ _ _ c116 c111) (hr := ?_) | refine a_call0 (hcall := c_Number _ a1 a2) (hr := ?_))
    | fail)
        exact ⟨(i + 1, ([] : List ByteArray) ++ [strOfNums (hexs a)], ⟨k, n, y, d, ii, t, o, 0⟩), by simp only; omega, ⟨by simp only; omega, by simp only [List.length_append, List.length_singleton]; omega, hst, by simpa using g4, g5⟩, by dsimp only; rw [if_neg (by simp), if_neg (by simp)]; exact weak_ren 60 49 (by decide) (by decide) (by simp) (by simp) (by simp)⟩
      · rw [if_neg hout, if_neg hout]
        by_cases c110 : c = 110
        · subst c110
          have e : stepP 110 ⟨k, n, y, d, ii, t, o, a⟩ = (n, ⟨k, ⟨#[]⟩, y, d, ii, t, o, a⟩) := rfl
          rw [e] at g4 g5 hst
          simp only at g4 g5 hst
          repeat' (first
    | (with_reducible refine run_n ?_; with_reducible first | refine hK _ _ (by simp) ?_ | refine hK _ _ ?_; clear hK K)
    | (with_reducible first | refine awp_seq ?_ | refine then_n ?_ | refine then_r ?_ | refine then_e ?_ | refine awp_skip ?_ | refine awp_label ?_ | refine awp_ret ?_ | refine awp_exit ?_ | refine awp_block ?_ | refine awp_scope ?_ | refine in_n ?_ | refine in_r ?_ | refine in_e ?_ | refine in_ne (by decide) ?_ | refine ng_n ?_ | refine ng_r ?_ | refine ng_e ?_)
    | (with_reducible refine awp_regT (by kernel_rfl) ?_; intro K hK)
    | (with_reducible refine awp_regAM (id := 3) [(1, some 1), (3, some 3)] mixed (by kernel_rfl) (by kernel_rfl) ?_; intro K hK)
    | (with_reducible refine awp_regAM (id := 16) [(1, some 1), (3, some 3)] mixed (by kernel_rfl) (by kernel_rfl) ?_; intro K hK)
    | (with_reducible refine a_cond (ht := ?_) (hf := ?_) <;> intro hb <;> (try simp at hb) <;> (try contradiction) <;> (try subst hb) <;> (try omega))
    | (with_reducible first | refine a_move (hr := ?_) | refine a_assign (hr := ?_) | refine a_load (hr := ?_) | refine a_fieldAddr (hr := ?_) | refine a_nilCheck (hr := ?_) | refine a_bin (hr := ?_) | refine a_lenS (hr := ?_) | refine a_lenR (hr := ?_) | refine a_extract (hr := ?_) | refine a_un (hr := ?_) | refine a_store (hr := ?_) | refine a_box (hr := ?_) | refine a_alloc (hr := ?_) | refine a_eqP (hr := ?_) | refine a_neP (hr := ?_) | refine a_neB (hr := ?_) | refine a_neS (hr := ?_) | refine a_index (hr := ?_) | refine a_buildSlice (hr := ?_) | refine a_append (hr := ?_) | refine a_append0 (hr := ?_) | refine a_appendX (hr := ?_) | refine a_callP (p := 1) (hcall := c_text 110 _ _ _ _ _ _ _ _) (hr := ?_))
    | fail)
          exact ⟨(i + 1, out ++ [n], ⟨k, ⟨#[]⟩, y, d, ii, t, o, a⟩), by simp only; omega, ⟨by simp only; omega, by simp only [List.length_append, List.length_singleton]; omega, hst, by simpa using g4, g5⟩, by dsimp only; rw [if_neg (by simp), if_neg (by simp)]; exact weak_ren 60 36 (by decide) (by decide) (by simp) (by simp) (by simp)⟩
        by_cases c107 : c = 107
        · subst c107
          have e : stepP 107 ⟨k, n, y, d, ii, t, o, a⟩ = (y, ⟨k, n, ⟨#[]⟩, d, ii, t, o, a⟩) := rfl
          rw [e] at g4 g5 hst
          simp only at g4 g5 hst
          repeat' (first
    | (with_reducible refine run_n ?_; with_reducible first | refine hK _ _ (by simp) ?_ | refine hK _ _ ?_; clear hK K)
    | (with_reducible first | refine awp_seq ?_ | refine then_n ?_ | refine then_r ?_ | refine then_e ?_ | refine awp_skip ?_ | refine awp_label ?_ | refine awp_ret ?_ | refine awp_exit ?_ | refine awp_block ?_ | refine awp_scope ?_ | refine in_n ?_ | refine in_r ?_ | refine in_e ?_ | refine in_ne (by decide) ?_ | refine ng_n ?_ | refine ng_r ?_ | refine ng_e ?_)
    | (with_reducible refine awp_regT (by kernel_rfl) ?_; intro K hK)
    | (with_reducible refine awp_regAM (id := 3) [(1, some 1), (3, some 3)] mixed (by kernel_rfl) (by kernel_rfl) ?_; intro K hK)
    | (with_reducible refine awp_regAM (id := 16) [(1, some 1), (3, some 3)] mixed (by kernel_rfl) (by kernel_rfl) ?_; intro K hK)
    | (with_reducible refine a_cond (ht := ?_) (hf := ?_) <;> intro hb <;> (try simp at hb) <;> (try contradiction) <;> (try subst hb) <;> (try omega))
    | (with_reducible first | refine a_move (hr := ?_) | refine a_assign (hr := ?_) | refine a_load (hr := ?_) | refine a_fieldAddr (hr := ?_) | refine a_nilCheck (hr := ?_) | refine a_bin (hr := ?_) | refine a_lenS (hr := ?_) | refine a_lenR (hr := ?_) | refine a_extract (hr := ?_) | refine a_un (hr := ?_) | refine a_store (hr := ?_) | refine a_box (hr := ?_) | refine a_alloc (hr := ?_) | refine a_eqP (hr := ?_) | refine a_neP (hr := ?_) | refine a_neB (hr := ?_) | refine a_neS (hr := ?_) | refine a_index (hr := ?_) | refine a_buildSlice (hr := ?_) | refine a_append (hr := ?_) | refine a_append0 (hr := ?_) | refine a_appendX (hr := ?_) | refine a_callP (p := 1) (hcall := c_text 107 _ _ _ _ _ _ _ _) (hr := ?_))
    | fail)
          exact ⟨(i + 1, out ++ [y], ⟨k, n, ⟨#[]⟩, d, ii, t, o, a⟩), by simp only; omega, ⟨by simp only; omega, by simp only [List.length_append, List.length_singleton]; omega, hst, by simpa using g4, g5⟩, by dsimp only; rw [if_neg (by simp), if_neg (by simp)]; exact weak_ren 60 36 (by decide) (by decide) (by simp) (by simp) (by simp)⟩
        by_cases c100 : c = 100
        · subst c100
          have e : stepP 100 ⟨k, n, y, d, ii, t, o, a⟩ = (d, ⟨k, n, y, ⟨#[]⟩, ii, t, o, a⟩) := rfl
          rw [e] at g4 g5 hst
          simp only at g4 g5 hst
          repeat' (first
    | (with_reducible refine run_n ?_; with_reducible first | refine hK _ _ (by simp) ?_ | refine hK _ _ ?_; clear hK K)
    | (with_reducible first | refine awp_seq ?_ | refine then_n ?_ | refine then_r ?_ | refine then_e ?_ | refine awp_skip ?_ | refine awp_label ?_ | refine awp_ret ?_ | refine awp_exit ?_ | refine awp_block ?_ | refine awp_scope ?_ | refine in_n ?_ | refine in_r ?_ | refine in_e ?_ | refine in_ne (by decide) ?_ | refine ng_n ?_ | refine ng_r ?_ | refine ng_e ?_)
    | (with_reducible refine awp_regT (by kernel_rfl) ?_; intro K hK)
    | (with_reducible refine awp_regAM (id := 3) [(1, some 1), (3, some 3)] mixed (by kernel_rfl) (by kernel_rfl) ?_; intro K hK)
    | (with_reducible refine awp_regAM (id := 16) [(1, some 1), (3, some 3)] mixed (by kernel_rfl) (by kernel_rfl) ?_; intro K hK)
    | (with_reducible refine a_cond (ht := ?_) (hf := ?_) <;> intro hb <;> (try simp at hb) <;> (try contradiction) <;> (try subst hb) <;> (try omega))
    | (with_reducible first | refine a_move (hr := ?_) | refine a_assign (hr := ?_) | refine a_load (hr := ?_) | refine a_fieldAddr (hr := ?_) | refine a_nilCheck (hr := ?_) | refine a_bin (hr := ?_) | refine a_lenS (hr := ?_) | refine a_lenR (hr := ?_) | refine a_extract (hr := ?_) | refine a_un (hr := ?_) | refine a_store (hr := ?_) | refine a_box (hr := ?_) | refine a_alloc (hr := ?_) | refine a_eqP (hr := ?_) | refine a_neP (hr := ?_) | refine a_neB (hr := ?_) | refine a_neS (hr := ?_) | refine a_index (hr := ?_) | refine a_buildSlice (hr := ?_) | refine a_append (hr := ?_) | refine a_append0 (hr := ?_) | refine a_appendX (hr := ?_) | refine a_callP (p := 1) (hcall := c_text 100 _ _ _ _ _ _ _ _) (hr := ?_))
    | fail)
          exact ⟨(i + 1, out ++ [d], ⟨k, n, y, ⟨#[]⟩, ii, t, o, a⟩), by simp only; omega, ⟨by simp only; omega, by simp only [List.length_append, List.length_singleton]; omega, hst, by simpa using g4, g5⟩, by dsimp only; rw [if_neg (by simp), if_neg (by simp)]; exact weak_ren 60 36 (by decide) (by decide) (by simp) (by simp) (by simp)⟩
        by_cases c105 : c = 105
        · subst c105
          have e : stepP 105 ⟨k, n, y, d, ii, t, o, a⟩ = (ii, ⟨k, n, y, d, ⟨#[]⟩, t, o, a⟩) := rfl
          rw [e] at g4 g5 hst
          simp only at g4 g5 hst
          repeat' (first
    | (with_reducible refine run_n ?_; with_reducible first | refine hK _ _ (by simp) ?_ | refine hK _ _ ?_; clear hK K)
    | (with_reducible first | refine awp_seq ?_ | refine then_n ?_ | refine then_r ?_ | refine then_e ?_ | refine awp_skip ?_ | refine awp_label ?_ | refine awp_ret ?_ | refine awp_exit ?_ | refine awp_block ?_ | refine awp_scope ?_ | refine in_n ?_ | refine in_r ?_ | refine in_e ?_ | refine in_ne (by decide) ?_ | refine ng_n ?_ | refine ng_r ?_ | refine ng_e ?_)
    | (with_reducible refine awp_regT (by kernel_rfl) ?_; intro K hK)
    | (with_reducible refine awp_regAM (id := 3) [(1, some 1), (3, some 3)] mixed (by kernel_rfl) (by kernel_rfl) ?_; intro K hK)
    | (with_reducible refine awp_regAM (id := 16) [(1, some 1), (3, some 3)] mixed (by kernel_rfl) (by kernel_rfl) ?_; intro K hK)
    | (with_reducible refine a_cond (ht := ?_) (hf := ?_) <;> intro hb <;> (try simp at hb) <;> (try contradiction) <;> (try subst hb) <;> (try omega))
    | (with_reducible first | refine a_move (hr := ?_) | refine a_assign (hr := ?_) | refine a_load (hr := ?_) | refine a_fieldAddr (hr := ?_) | refine a_nilCheck (hr := ?_) | refine a_bin (hr := ?_) | refine a_lenS (hr := ?_) | refine a_lenR (hr := ?_) | refine a_extract (hr := ?_) | refine a_un (hr := ?_) | refine a_store (hr := ?_) | refine a_box (hr := ?_) | refine a_alloc (hr := ?_) | refine a_eqP (hr := ?_) | refine a_neP (hr := ?_) | refine a_neB (hr := ?_) | refine a_neS (hr := ?_) | refine a_index (hr := ?_) | refine a_buildSlice (hr := ?_) | refine a_append (hr := ?_) | refine a_append0 (hr := ?_) | refine a_appendX (hr := ?_) | refine a_callP (p := 1) (hcall := c_text 105 _ _ _ _ _ _ _ _) (hr := ?_))
    | fail)
          exact ⟨(i + 1, out ++ [ii], ⟨k, n, y, d, ⟨#[]⟩, t, o, a⟩), by simp only; omega, ⟨by simp only; omega, by simp only [List.length_append, List.length_singleton]; omega, hst, by simpa using g4, g5⟩, by dsimp only; rw [if_neg (by simp), if_neg (by simp)]; exact weak_ren 60 36 (by decide) (by decide) (by simp) (by simp) (by simp)⟩
        by_cases c116 : c = 116
        · subst c116
          have e : stepP 116 ⟨k, n, y, d, ii, t, o, a⟩ = (strOfNums (hexs t), ⟨k, n, y, d, ii, 0, o, a⟩) := rfl
          rw [e] at g4 g5 hst
          simp only at g4 g5 hst
          repeat' (first
    | (with_reducible refine run_n ?_; with_reducible first | refine hK _ _ (by simp) ?_ | refine hK _ _ ?_; clear hK K)
    | (with_reducible first | refine awp_seq ?_ | refine then_n ?_ | refine then_r ?_ | refine then_e ?_ | refine awp_skip ?_ | refine awp_label ?_ | refine awp_ret ?_ | refine awp_exit ?_ | refine awp_block ?_ | refine awp_scope ?_ | refine in_n ?_ | refine in_r ?_ | refine in_e ?_ | refine in_ne (by decide) ?_ | refine ng_n ?_ | refine ng_r ?_ | refine ng_e ?_)
    | (with_reducible refine awp_regT (by kernel_rfl) ?_; intro K hK)
    | (with_reducible refine awp_regAM (id := 3) [(1, some 1), (3, some 3)] mixed (by kernel_rfl) (by kernel_rfl) ?_; intro K hK)
    | (with_reducible refine awp_regAM (id := 16) [(1, some 1), (3, some 3)] mixed (by kernel_rfl) (by kernel_rfl) ?_; intro K hK)
    | (with_reducible refine a_cond (ht := ?_) (hf := ?_) <;> intro hb <;> (try simp at hb) <;> (try contradiction) <;> (try subst hb) <;> (try omega))
    | (with_reducible first | refine a_move (hr := ?_) | refine a_assign (hr := ?_) | refine a_load (hr := ?_) | refine a_fieldAddr (hr := ?_) | refine a_nilCheck (hr := ?_) | refine a_bin (hr := ?_) | refine a_lenS (hr := ?_) | refine a_lenR (hr := ?_) | refine a_extract (hr := ?_) | refine a_un (hr := ?_) | refine a_store (hr := ?_) | refine a_box (hr := ?_) | refine a_alloc (hr := ?_) | refine a_eqP (hr := ?_) | refine a_neP (hr := ?_) | refine a_neB (hr := ?_) | refine a_neS (hr := ?_) | refine a_index (hr := ?_) | refine a_buildSlice (hr := ?_) | refine a_append (hr := ?_) | refine a_append0 (hr := ?_) | refine a_appendX (hr := ?_) | refine a_callP (p := 1) (hcall := c_text0 116 _ _ _ _ _ _ _ _ (by decide) (by decide) (by decide) (by decide)) (hr := ?_) | refine a_callP (p := 1) (hcall := c_number 116 _ _ _ _ _ _ _ _) (hr := ?_) | refine a_call0 (hcall := c_Number _ t1 t2) (hr := ?_))
    | fail)
          exact ⟨(i + 1, out ++ [strOfNums (hexs t)], ⟨k, n, y, d, ii, 0, o, a⟩), by simp only; omega, ⟨by simp only; omega, by simp only [List.length_append, List.length_singleton]; omega, hst, by simpa using g4, g5⟩, by dsimp only; rw [if_neg (by simp), if_neg (by simp)]; exact weak_ren 60 49 (by decide) (by decide) (by simp) (by simp) (by simp)⟩
        by_cases c111 : c = 111
        · subst c111
          have e : stepP 111 ⟨k, n, y, d, ii, t, o, a⟩ = (strOfNums (hexs o), ⟨k, n, y, d, ii, t, 0, a⟩) := rfl
          rw [e] at g4 g5 hst
          simp only at g4 g5 hst
          repeat' (first
    | (with_reducible refine run_n ?_; with_reducible first | refine hK _ _ (by simp) ?_ | refine hK _ _ ?_; clear hK K)
    | (with_reducible first | refine awp_seq ?_ | refine then_n ?_ | refine then_r ?_ | refine then_e ?_ | refine awp_skip ?_ | refine awp_label ?_ | refine awp_ret ?_ | refine awp_exit ?_ | refine awp_block ?_ | refine awp_scope ?_ | refine in_n ?_ | refine in_r ?_ | refine in_e ?_ | refine in_ne (by decide) ?_ | refine ng_n ?_ | refine ng_r ?_ | refine ng_e ?_)
    | (with_reducible refine awp_regT (by kernel_rfl) ?_; intro K hK)
    | (with_reducible refine awp_regAM (id := 3) [(1, some 1), (3, some 3)] mixed (by kernel_rfl) (by kernel_rfl) ?_; intro K hK)
    | (with_reducible refine awp_regAM (id := 16) [(1, some 1), (3, some 3)] mixed (by kernel_rfl) (by kernel_rfl) ?_; intro K hK)
    | (with_reducible refine a_cond (ht := ?_) (hf := ?_) <;> intro hb <;> (try simp at hb) <;> (try contradiction) <;> (try subst hb) <;> (try omega))
    | (with_reducible first | refine a_move (hr := ?_) | refine a_assign (hr := ?_) | refine a_load (hr := ?_) | refine a_fieldAddr (hr := ?_) | refine a_nilCheck (hr := ?_) | refine a_bin (hr := ?_) | refine a_lenS (hr := ?_) | refine a_lenR (hr := ?_) | refine a_extract (hr := ?_) | refine a_un (hr := ?_) | refine a_store (hr := ?_) | refine a_box (hr := ?_) | refine a_alloc (hr := ?_) | refine a_eqP (hr := ?_) | refine a_neP (hr := ?_) | refine a_neB (hr := ?_) | refine a_neS (hr := ?_) | refine a_index (hr := ?_) | refine a_buildSlice (hr := ?_) | refine a_append (hr := ?_) | refine a_append0 (hr := ?_) | refine a_appendX (hr := ?_) | refine a_callP (p := 1) (hcall := c_text0 111 _ _ _ _ _ _ _ _ (by decide) (by decide) (by decide) (by decide)) (hr := ?_) | refine a_callP (p := 1) (hcall := c_number 111 _ _ _ _ _ _ _ _) (hr := ?_) | refine a_call0 (hcall := c_Number _ o1 o2) (hr := ?_))
    | fail)
          exact ⟨(i + 1, out ++ [strOfNums (hexs o)], ⟨k, n, y, d, ii, t, 0, a⟩), by simp only; omega, ⟨by simp only; omega, by simp only [List.length_append, List.length_singleton]; omega, hst, by simpa using g4, g5⟩, by dsimp only; rw [if_neg (by simp), if_neg (by simp)]; exact weak_ren 60 49 (by decide) (by decide) (by simp) (by simp) (by simp)⟩
        have e : stepP c ⟨k, n, y, d, ii, t, o, a⟩ = (strOfNums (hexs a), ⟨k, n, y, d, ii, t, o, 0⟩) := by unfold stepP; rw [if_neg c110, if_neg c107, if_neg c100, if_neg c105, if_neg c116, if_neg c111]
        rw [e] at g4 g5 hst
        simp only at g4 g5 hst
        repeat' (first
    | (with_reducible refine run_n ?_; with_reducible first | refine hK _ _ (by simp) ?_ | refine hK _ _ ?_; clear hK K)
    | (with_reducible first | refine awp_seq ?_ | refine then_n ?_ | refine then_r ?_ | refine then_e ?_ | refine awp_skip ?_ | refine awp_label ?_ | refine awp_ret ?_ | refine awp_exit ?_ | refine awp_block ?_ | refine awp_scope ?_ | refine in_n ?_ | refine in_r ?_ | refine in_e ?_ | refine in_ne (by decide) ?_ | refine ng_n ?_ | refine ng_r ?_ | refine ng_e ?_)
    | (with_reducible refine awp_regT (by kernel_rfl) ?_; intro K hK)
    | (with_reducible refine awp_regAM (id := 3) [(1, some 1), (3, some 3)] mixed (by kernel_rfl) (by kernel_rfl) ?_; intro K hK)
    | (with_reducible refine awp_regAM (id := 16) [(1, some 1), (3, some 3)] mixed (by kernel_rfl) (by kernel_rfl) ?_; intro K hK)
    | (with_reducible refine a_cond (ht := ?_) (hf := ?_) <;> intro hb <;> (try simp at hb) <;> (try contradiction) <;> (try subst hb) <;> (try omega))
    | (with_reducible first | refine a_move (hr := ?_) | refine a_assign (hr := ?_) | refine a_load (hr := ?_) | refine a_fieldAddr (hr := ?_) | refine a_nilCheck (hr := ?_) | refine a_bin (hr := ?_) | refine a_lenS (hr := ?_) | refine a_lenR (hr := ?_) | refine a_extract (hr := ?_) | refine a_un (hr := ?_) | refine a_store (hr := ?_) | refine a_box (hr := ?_) | refine a_alloc (hr := ?_) | refine a_eqP (hr := ?_) | refine a_neP (hr := ?_) | refine a_neB (hr := ?_) | refine a_neS (hr := ?_) | refine a_index (hr := ?_) | refine a_buildSlice (hr := ?_) | refine a_append (hr := ?_) | refine a_append0 (hr := ?_) | refine a_appendX (hr := ?_) | refine a_callP (p := 1) (hcall := c_text0 c _ _ _ _ _ _ _ _ c110 c107 c100 c105) (hr := ?_) | refine a_callP (p := 1) (hcall := c_numA c _ _ _ _ _ _ _ _ c116 c111) (hr := ?_) | refine a_call0 (hcall := c_Number _ a1 a2) (hr := ?_))
    | fail)
        exact ⟨(i + 1, out ++ [strOfNums (hexs a)], ⟨k, n, y, d, ii, t, o, 0⟩), by simp only; omega, ⟨by simp only; omega, by simp only [List.length_append, List.length_singleton]; omega, hst, by simpa using g4, g5⟩, by dsimp only; rw [if_neg (by simp), if_neg (by simp)]; exact weak_ren 60 49 (by decide) (by decide) (by simp) (by simp) (by simp)⟩
    · obtain rfl : i = s.size := by omega
      rw [List.drop_of_length_le (by rw [len_bytes]; omega)] at g4 g5
      simp only [partsL, List.append_nil] at g4 g5
      rw [← g4, ← g5] at hQ
      by_cases hout : out = []
      · rw [if_pos hout, if_pos hout]
        subst hout
        repeat' (first
    | (with_reducible refine run_n ?_; with_reducible first | refine hK _ _ (by simp) ?_ | refine hK _ _ ?_; clear hK K)
    | (with_reducible first | refine awp_seq ?_ | refine then_n ?_ | refine then_r ?_ | refine then_e ?_ | refine awp_skip ?_ | refine awp_label ?_ | refine awp_ret ?_ | refine awp_exit ?_ | refine awp_block ?_ | refine awp_scope ?_ | refine in_n ?_ | refine in_r ?_ | refine in_e ?_ | refine in_ne (by decide) ?_ | refine ng_n ?_ | refine ng_r ?_ | refine ng_e ?_)
    | (with_reducible refine awp_regT (by kernel_rfl) ?_; intro K hK)
    | (with_reducible refine awp_regAM (id := 3) [(1, some 1), (3, some 3)] mixed (by kernel_rfl) (by kernel_rfl) ?_; intro K hK)
    | (with_reducible refine awp_regAM (id := 16) [(1, some 1), (3, some 3)] mixed (by kernel_rfl) (by kernel_rfl) ?_; intro K hK)
    | (with_reducible refine a_cond (ht := ?_) (hf := ?_) <;> intro hb <;> (try simp at hb) <;> (try contradiction) <;> (try subst hb) <;> (try omega))
    | (with_reducible first | refine a_move (hr := ?_) | refine a_assign (hr := ?_) | refine a_load (hr := ?_) | refine a_fieldAddr (hr := ?_) | refine a_nilCheck (hr := ?_) | refine a_bin (hr := ?_) | refine a_lenS (hr := ?_) | refine a_lenR (hr := ?_) | refine a_extract (hr := ?_) | refine a_un (hr := ?_) | refine a_store (hr := ?_) | refine a_box (hr := ?_) | refine a_alloc (hr := ?_) | refine a_eqP (hr := ?_) | refine a_neP (hr := ?_) | refine a_neB (hr := ?_) | refine a_neS (hr := ?_) | refine a_index (hr := ?_) | refine a_buildSlice (hr := ?_) | refine a_append (hr := ?_) | refine a_append0 (hr := ?_) | refine a_appendX (hr := ?_))
    | fail)
        (refine hQ _ _ _ _ (by first | exact .inr rfl | exact .inl rfl) (by simp; exact .r) (by simp; exact .r) ?_)
        exact (Fin.drop (by simp; exact .r) (by simp)).trans Fin.tupNil
      · rw [if_neg hout, if_neg hout]
        repeat' (first
    | (with_reducible refine run_n ?_; with_reducible first | refine hK _ _ (by simp) ?_ | refine hK _ _ ?_; clear hK K)
    | (with_reducible first | refine awp_seq ?_ | refine then_n ?_ | refine then_r ?_ | refine then_e ?_ | refine awp_skip ?_ | refine awp_label ?_ | refine awp_ret ?_ | refine awp_exit ?_ | refine awp_block ?_ | refine awp_scope ?_ | refine in_n ?_ | refine in_r ?_ | refine in_e ?_ | refine in_ne (by decide) ?_ | refine ng_n ?_ | refine ng_r ?_ | refine ng_e ?_)
    | (with_reducible refine awp_regT (by kernel_rfl) ?_; intro K hK)
    | (with_reducible refine awp_regAM (id := 3) [(1, some 1), (3, some 3)] mixed (by kernel_rfl) (by kernel_rfl) ?_; intro K hK)
    | (with_reducible refine awp_regAM (id := 16) [(1, some 1), (3, some 3)] mixed (by kernel_rfl) (by kernel_rfl) ?_; intro K hK)
    | (with_reducible refine a_cond (ht := ?_) (hf := ?_) <;> intro hb <;> (try simp at hb) <;> (try contradiction) <;> (try subst hb) <;> (try omega))
    | (with_reducible first | refine a_move (hr := ?_) | refine a_assign (hr := ?_) | refine a_load (hr := ?_) | refine a_fieldAddr (hr := ?_) | refine a_nilCheck (hr := ?_) | refine a_bin (hr := ?_) | refine a_lenS (hr := ?_) | refine a_lenR (hr := ?_) | refine a_extract (hr := ?_) | refine a_un (hr := ?_) | refine a_store (hr := ?_) | refine a_box (hr := ?_) | refine a_alloc (hr := ?_) | refine a_eqP (hr := ?_) | refine a_neP (hr := ?_) | refine a_neB (hr := ?_) | refine a_neS (hr := ?_) | refine a_index (hr := ?_) | refine a_buildSlice (hr := ?_) | refine a_append (hr := ?_) | refine a_append0 (hr := ?_) | refine a_appendX (hr := ?_))
    | fail)
        (refine hQ _ _ _ _ (by first | exact .inr rfl | exact .inl rfl) (by simp; exact .r) (by simp; exact .r) ?_)
        exact Fin.frzR (by simp; exact .r) (by simp; exact .r) (by simp; exact .r) (by simp)
  · rw [if_neg hk]
    have hk' : (lay r.k).2 = false := by simpa using hk
    rw [hk'] at hL
    refine calls_go (nt := 55) (rs := [.tmp 2, .cell 3 27, .tmp 4]) Try.func45 rfl rfl rfl (by simp) (by intro id h; simp at h <;> omega) ?_; intro Q hQ hW
    repeat' (first
    | (with_reducible refine run_n ?_; with_reducible first | refine hK _ _ (by simp) ?_ | refine hK _ _ ?_; clear hK K)
    | (with_reducible first | refine awp_seq ?_ | refine then_n ?_ | refine then_r ?_ | refine then_e ?_ | refine awp_skip ?_ | refine awp_label ?_ | refine awp_ret ?_ | refine awp_exit ?_ | refine awp_block ?_ | refine awp_scope ?_ | refine in_n ?_ | refine in_r ?_ | refine in_e ?_ | refine in_ne (by decide) ?_ | refine ng_n ?_ | refine ng_r ?_ | refine ng_e ?_)
    | (with_reducible refine awp_regT (by kernel_rfl) ?_; intro K hK)
    | (with_reducible refine awp_regAM (id := 3) [(1, some 1), (3, some 3)] mixed (by kernel_rfl) (by kernel_rfl) ?_; intro K hK)
    | (with_reducible refine awp_regAM (id := 16) [(1, some 1), (3, some 3)] mixed (by kernel_rfl) (by kernel_rfl) ?_; intro K hK)
    | (with_reducible refine a_cond (ht := ?_) (hf := ?_) <;> intro hb <;> (try simp at hb) <;> (try contradiction) <;> (try subst hb) <;> (try omega))
    | (with_reducible first | refine a_move (hr := ?_) | refine a_assign (hr := ?_) | refine a_load (hr := ?_) | refine a_fieldAddr (hr := ?_) | refine a_nilCheck (hr := ?_) | refine a_bin (hr := ?_) | refine a_lenS (hr := ?_) | refine a_lenR (hr := ?_) | refine a_extract (hr := ?_) | refine a_un (hr := ?_) | refine a_store (hr := ?_) | refine a_box (hr := ?_) | refine a_alloc (hr := ?_) | refine a_eqP (hr := ?_) | refine a_neP (hr := ?_) | refine a_neB (hr := ?_) | refine a_neS (hr := ?_) | refine a_index (hr := ?_) | refine a_buildSlice (hr := ?_) | refine a_append (hr := ?_) | refine a_append0 (hr := ?_) | refine a_appendX (hr := ?_) | refine a_call0 (hcall := hL) (hr := ?_))
    | fail)
    (refine hQ _ _ _ _ (by first | exact .inr rfl | exact .inl rfl) (by simp; exact .r) (by simp; exact .r) ?_)
    exact (Fin.drop (by simp; exact .r) (by simp)).trans Fin.tupNil
end Go.Proofs.Ytdbdajmgfajcpaa.Asl
