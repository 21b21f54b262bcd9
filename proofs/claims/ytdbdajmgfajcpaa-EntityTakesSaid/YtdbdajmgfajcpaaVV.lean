/- Variables: Get, Set, Vars. -/
import Derived.Test.YtdbdajmgfajcpaaV1
import Derived.Test.YtdbdajmgfajcpaaFL
import Derived.Test.YtdbdajmgfajcpaaNM
namespace Go.Proofs.Ytdbdajmgfajcpaa.Asl
open Go Go.RowKit
set_option linter.unusedVariables false
set_option linter.unusedSimpArgs false
set_option maxRecDepth 100000
set_option maxHeartbeats 4000000
structure VarV where
  n : ByteArray
  k : Int
  v : Int
  s : ByteArray
  deriving DecidableEq
@[simp] def varAV (x : VarV) : AV := .agg [.raw (.string x.n), valAV x.k x.v x.s]
/-- As it comes in. -/
def vof (x : ByteArray × Int × Int × ByteArray) : VarV := ⟨x.1, x.2.1, x.2.2.1, x.2.2.2⟩
theorem map_vof (l : List (ByteArray × Int × Int × ByteArray)) : (l.map vof).map varAV = l.map fun x => varAV (vof x) := by rw [List.map_map]; rfl
instance : FlatF varAV := ⟨fun x => by simp⟩
def getV : List VarV → ByteArray → (Int × Int × ByteArray) × Bool
  | [], _ => ((0, 0, ⟨#[]⟩), false)
  | x :: l, m => if x.n = m then ((x.k, x.v, x.s), true) else getV l m
abbrev gtAV (t : (Int × Int × ByteArray) × Bool) : AV := .tup [valAV t.1.1 t.1.2.1 t.1.2.2, .raw (.bool t.2)]
def chkV : ByteArray → List VarV → Int
  | _, [] => 0
  | last, x :: l => if nameB (bytesOf x.n) = false then 30 else if sless last x.n = false then 8 else if rightE x.k x.v x.s ≠ 0 then rightE x.k x.v x.s else chkV x.n l
def varsE (l : List VarV) : Int := if 8 < l.length then 3 else chkV ⟨#[]⟩ l
theorem c_Vars (l : List VarV) (hl : l.length < 9223372036854775808) (hs : ∀ x ∈ l, x.n.size < 9223372036854775808) : CallD Try.prog 71 [.sl 4 (l.map varAV)] noHeap (.raw (.int .i64 (varsE l))) noHeap := by
  unfold varsE
  by_cases h8 : 8 < l.length
  · rw [if_pos h8]
    refine calls_go (nt := 33) (rs := [.tmp 2]) Try.func71 rfl rfl rfl (by simp) (by intro id h; simp at h <;> omega) ?_; intro Q hQ hW
    repeat' (first
    | (with_reducible refine run_n ?_; with_reducible first | refine hK _ _ (by simp) ?_ | refine hK _ _ ?_; clear hK K)
    | (with_reducible first | refine awp_seq ?_ | refine then_n ?_ | refine then_r ?_ | refine then_e ?_ | refine awp_skip ?_ | refine awp_label ?_ | refine awp_ret ?_ | refine awp_exit ?_ | refine awp_block ?_ | refine awp_scope ?_ | refine in_n ?_ | refine in_r ?_ | refine in_e ?_ | refine in_ne (by decide) ?_ | refine ng_n ?_ | refine ng_r ?_ | refine ng_e ?_)
    | (with_reducible refine awp_regT (by kernel_rfl) ?_; intro K hK)
    | (with_reducible refine a_cond (ht := ?_) (hf := ?_) <;> intro hb <;> (try simp at hb) <;> (try contradiction) <;> (try subst hb) <;> (try omega))
    | (with_reducible first | refine a_move (hr := ?_) | refine a_assign (hr := ?_) | refine a_load (hr := ?_) | refine a_fieldAddr (hr := ?_) | refine a_bin (hr := ?_) | refine a_lenS (hr := ?_) | refine a_lenR (hr := ?_) | refine a_un (hr := ?_) | refine a_store (hr := ?_) | refine a_alloc (hr := ?_) | refine a_neB (hr := ?_) | refine a_idxArr (hr := ?_) | refine a_neS (hr := ?_) | refine a_indexAddr (hr := ?_))
    | fail)
    (refine hQ _ _ _ _ (by first | exact .inr rfl | exact .inl rfl) (by simp; exact .r) (by simp; exact .r) ?_)
    exact Fin.drop (by simp; exact .r) (by simp)
  rw [if_neg h8]
  refine calls_go (nt := 33) (rs := [.tmp 2]) Try.func71 rfl rfl rfl (by simp) (by intro id h; simp at h <;> omega) ?_; intro Q hQ hW
  repeat' (first
    | (with_reducible refine run_n ?_; with_reducible first | refine hK _ _ (by simp) ?_ | refine hK _ _ ?_; clear hK K)
    | (with_reducible first | refine awp_seq ?_ | refine then_n ?_ | refine then_r ?_ | refine then_e ?_ | refine awp_skip ?_ | refine awp_label ?_ | refine awp_ret ?_ | refine awp_exit ?_ | refine awp_block ?_ | refine awp_scope ?_ | refine in_n ?_ | refine in_r ?_ | refine in_e ?_ | refine in_ne (by decide) ?_ | refine ng_n ?_ | refine ng_r ?_ | refine ng_e ?_)
    | (with_reducible refine awp_regT (by kernel_rfl) ?_; intro K hK)
    | (with_reducible refine a_cond (ht := ?_) (hf := ?_) <;> intro hb <;> (try simp at hb) <;> (try contradiction) <;> (try subst hb) <;> (try omega))
    | (with_reducible first | refine a_move (hr := ?_) | refine a_assign (hr := ?_) | refine a_load (hr := ?_) | refine a_fieldAddr (hr := ?_) | refine a_bin (hr := ?_) | refine a_lenS (hr := ?_) | refine a_lenR (hr := ?_) | refine a_un (hr := ?_) | refine a_store (hr := ?_) | refine a_alloc (hr := ?_) | refine a_neB (hr := ?_) | refine a_idxArr (hr := ?_) | refine a_neS (hr := ?_) | refine a_indexAddr (hr := ?_))
    | fail)
  refine awp_inv (α := Nat × ByteArray) (fun p => [(3, .raw (.string p.2)), (10, .sl 4 (l.map varAV)), (11, .raw (.int .i64 l.length)), (12, .raw (.int .i64 p.1))]) (fun _ => hpL []) (fun p => p.1 ≤ l.length ∧ chkV p.2 (l.drop p.1) = chkV ⟨#[]⟩ l) (fun p => l.length - p.1) (0, ⟨#[]⟩) ⟨by simp, by simp⟩ (weak_o (by repeat' (first | refine sub_ohp (by first | (simp; done) | (intro hne; simp at hne; simp [hne])) (by simp) ?_ | exact sub_hpL (by simp))) (by simp) (by simp <;> omega)) ?_
  rintro ⟨i, last⟩ ⟨g1, g2⟩
  simp only at g1 g2 ⊢
  rw [← g2] at hQ
  rcases Nat.lt_or_ge i l.length with hlt | hge
  · have hx := List.getElem?_eq_getElem hlt
    have hy := hs l[i] (List.getElem_mem hlt)
    rw [List.drop_eq_getElem_cons hlt] at g2 hQ
    generalize l[i] = y at hx g2 hQ hy
    obtain ⟨yn, yk, yv, ys⟩ := y
    simp only [chkV] at g2 hQ hy
    have hn := c_Name yn hy
    have hr := c_Right yk yv ys
    generalize hN : nameB (bytesOf yn) = bn at g2 hQ hn
    generalize hss : sless last yn = bl at g2 hQ
    generalize rightE yk yv ys = re at g2 hQ hr
    cases bn with
    | false =>
      rw [if_pos rfl] at hQ
      repeat' (first
    | (with_reducible refine run_n ?_; with_reducible first | refine hK _ _ (by simp) ?_ | refine hK _ _ ?_; clear hK K)
    | (with_reducible first | refine awp_seq ?_ | refine then_n ?_ | refine then_r ?_ | refine then_e ?_ | refine awp_skip ?_ | refine awp_label ?_ | refine awp_ret ?_ | refine awp_exit ?_ | refine awp_block ?_ | refine awp_scope ?_ | refine in_n ?_ | refine in_r ?_ | refine in_e ?_ | refine in_ne (by decide) ?_ | refine ng_n ?_ | refine ng_r ?_ | refine ng_e ?_)
    | (with_reducible refine awp_regT (by kernel_rfl) ?_; intro K hK)
    | (with_reducible refine a_cond (ht := ?_) (hf := ?_) <;> intro hb <;> (try simp at hb) <;> (try contradiction) <;> (try subst hb) <;> (try omega))
    | (with_reducible first | refine a_move (hr := ?_) | refine a_assign (hr := ?_) | refine a_load (hr := ?_) | refine a_fieldAddr (hr := ?_) | refine a_bin (hr := ?_) | refine a_lenS (hr := ?_) | refine a_lenR (hr := ?_) | refine a_un (hr := ?_) | refine a_store (hr := ?_) | refine a_alloc (hr := ?_) | refine a_neB (hr := ?_) | refine a_idxArr (hr := ?_) | refine a_neS (hr := ?_) | refine a_indexAddr (hr := ?_) | refine a_call0 (hcall := hn) (hr := ?_) | refine a_call0 (hcall := hr) (hr := ?_))
    | fail)
      (refine hQ _ _ _ _ (by first | exact .inr rfl | exact .inl rfl) (by simp; exact .r) (by simp; exact .r) ?_)
      exact Fin.drop (by simp; exact .r) (by simp)
    | true =>
      rw [if_neg (by simp)] at g2 hQ
      cases bl with
      | false =>
        rw [if_pos rfl] at hQ
        repeat' (first
    | (with_reducible refine run_n ?_; with_reducible first | refine hK _ _ (by simp) ?_ | refine hK _ _ ?_; clear hK K)
    | (with_reducible first | refine awp_seq ?_ | refine then_n ?_ | refine then_r ?_ | refine then_e ?_ | refine awp_skip ?_ | refine awp_label ?_ | refine awp_ret ?_ | refine awp_exit ?_ | refine awp_block ?_ | refine awp_scope ?_ | refine in_n ?_ | refine in_r ?_ | refine in_e ?_ | refine in_ne (by decide) ?_ | refine ng_n ?_ | refine ng_r ?_ | refine ng_e ?_)
    | (with_reducible refine awp_regT (by kernel_rfl) ?_; intro K hK)
    | (with_reducible refine a_cond (ht := ?_) (hf := ?_) <;> intro hb <;> (try simp at hb) <;> (try contradiction) <;> (try subst hb) <;> (try omega))
    | (with_reducible first | refine a_move (hr := ?_) | refine a_assign (hr := ?_) | refine a_load (hr := ?_) | refine a_fieldAddr (hr := ?_) | refine a_bin (hr := ?_) | refine a_lenS (hr := ?_) | refine a_lenR (hr := ?_) | refine a_un (hr := ?_) | refine a_store (hr := ?_) | refine a_alloc (hr := ?_) | refine a_neB (hr := ?_) | refine a_idxArr (hr := ?_) | refine a_neS (hr := ?_) | refine a_indexAddr (hr := ?_) | refine a_call0 (hcall := hn) (hr := ?_) | refine a_call0 (hcall := hr) (hr := ?_))
    | fail)
        (refine hQ _ _ _ _ (by first | exact .inr rfl | exact .inl rfl) (by simp; exact .r) (by simp; exact .r) ?_)
        exact Fin.drop (by simp; exact .r) (by simp)
      | true =>
        rw [if_neg (by simp)] at g2 hQ
        by_cases hz : re = 0
        · subst hz
          rw [if_neg (by simp)] at g2 hQ
          repeat' (first
    | (with_reducible refine run_n ?_; with_reducible first | refine hK _ _ (by simp) ?_ | refine hK _ _ ?_; clear hK K)
    | (with_reducible first | refine awp_seq ?_ | refine then_n ?_ | refine then_r ?_ | refine then_e ?_ | refine awp_skip ?_ | refine awp_label ?_ | refine awp_ret ?_ | refine awp_exit ?_ | refine awp_block ?_ | refine awp_scope ?_ | refine in_n ?_ | refine in_r ?_ | refine in_e ?_ | refine in_ne (by decide) ?_ | refine ng_n ?_ | refine ng_r ?_ | refine ng_e ?_)
    | (with_reducible refine awp_regT (by kernel_rfl) ?_; intro K hK)
    | (with_reducible refine a_cond (ht := ?_) (hf := ?_) <;> intro hb <;> (try simp at hb) <;> (try contradiction) <;> (try subst hb) <;> (try omega))
    | (with_reducible first | refine a_move (hr := ?_) | refine a_assign (hr := ?_) | refine a_load (hr := ?_) | refine a_fieldAddr (hr := ?_) | refine a_bin (hr := ?_) | refine a_lenS (hr := ?_) | refine a_lenR (hr := ?_) | refine a_un (hr := ?_) | refine a_store (hr := ?_) | refine a_alloc (hr := ?_) | refine a_neB (hr := ?_) | refine a_idxArr (hr := ?_) | refine a_neS (hr := ?_) | refine a_indexAddr (hr := ?_) | refine a_call0 (hcall := hn) (hr := ?_) | refine a_call0 (hcall := hr) (hr := ?_))
    | fail)
          exact ⟨(i + 1, yn), by simp only; omega, ⟨by simp only; omega, g2⟩, weak_o (by repeat' (first | refine sub_ohp (by first | (simp; done) | (intro hne; simp at hne; simp [hne])) (by simp) ?_ | exact sub_hpL (by simp))) (by simp) (by simp <;> omega)⟩
        · rw [if_pos hz] at hQ
          repeat' (first
    | (with_reducible refine run_n ?_; with_reducible first | refine hK _ _ (by simp) ?_ | refine hK _ _ ?_; clear hK K)
    | (with_reducible first | refine awp_seq ?_ | refine then_n ?_ | refine then_r ?_ | refine then_e ?_ | refine awp_skip ?_ | refine awp_label ?_ | refine awp_ret ?_ | refine awp_exit ?_ | refine awp_block ?_ | refine awp_scope ?_ | refine in_n ?_ | refine in_r ?_ | refine in_e ?_ | refine in_ne (by decide) ?_ | refine ng_n ?_ | refine ng_r ?_ | refine ng_e ?_)
    | (with_reducible refine awp_regT (by kernel_rfl) ?_; intro K hK)
    | (with_reducible refine a_cond (ht := ?_) (hf := ?_) <;> intro hb <;> (try simp at hb) <;> (try contradiction) <;> (try subst hb) <;> (try omega))
    | (with_reducible first | refine a_move (hr := ?_) | refine a_assign (hr := ?_) | refine a_load (hr := ?_) | refine a_fieldAddr (hr := ?_) | refine a_bin (hr := ?_) | refine a_lenS (hr := ?_) | refine a_lenR (hr := ?_) | refine a_un (hr := ?_) | refine a_store (hr := ?_) | refine a_alloc (hr := ?_) | refine a_neB (hr := ?_) | refine a_idxArr (hr := ?_) | refine a_neS (hr := ?_) | refine a_indexAddr (hr := ?_) | refine a_call0 (hcall := hn) (hr := ?_) | refine a_call0 (hcall := hr) (hr := ?_))
    | fail)
          (refine hQ _ _ _ _ (by first | exact .inr rfl | exact .inl rfl) (by simp; exact .r) (by simp; exact .r) ?_)
          exact Fin.drop (by simp; exact .r) (by simp)
  · obtain rfl : i = l.length := by omega
    rw [List.drop_length] at hQ
    simp only [chkV] at hQ
    repeat' (first
    | (with_reducible refine run_n ?_; with_reducible first | refine hK _ _ (by simp) ?_ | refine hK _ _ ?_; clear hK K)
    | (with_reducible first | refine awp_seq ?_ | refine then_n ?_ | refine then_r ?_ | refine then_e ?_ | refine awp_skip ?_ | refine awp_label ?_ | refine awp_ret ?_ | refine awp_exit ?_ | refine awp_block ?_ | refine awp_scope ?_ | refine in_n ?_ | refine in_r ?_ | refine in_e ?_ | refine in_ne (by decide) ?_ | refine ng_n ?_ | refine ng_r ?_ | refine ng_e ?_)
    | (with_reducible refine awp_regT (by kernel_rfl) ?_; intro K hK)
    | (with_reducible refine a_cond (ht := ?_) (hf := ?_) <;> intro hb <;> (try simp at hb) <;> (try contradiction) <;> (try subst hb) <;> (try omega))
    | (with_reducible first | refine a_move (hr := ?_) | refine a_assign (hr := ?_) | refine a_load (hr := ?_) | refine a_fieldAddr (hr := ?_) | refine a_bin (hr := ?_) | refine a_lenS (hr := ?_) | refine a_lenR (hr := ?_) | refine a_un (hr := ?_) | refine a_store (hr := ?_) | refine a_alloc (hr := ?_) | refine a_neB (hr := ?_) | refine a_idxArr (hr := ?_) | refine a_neS (hr := ?_) | refine a_indexAddr (hr := ?_))
    | fail)
    (refine hQ _ _ _ _ (by first | exact .inr rfl | exact .inl rfl) (by simp; exact .r) (by simp; exact .r) ?_)
    exact Fin.drop (by simp; exact .r) (by simp)
end Go.Proofs.Ytdbdajmgfajcpaa.Asl
