/- Chapter 15: the chapter's examples, and the index of an arm. -/
import Derived.Test.YtdbdajmgfajcpaaEC
namespace Go.Proofs.Ytdbdajmgfajcpaa.Asl
open Go Go.RowKit
set_option linter.unusedVariables false
set_option linter.unusedSimpArgs false
set_option maxRecDepth 100000
set_option maxHeartbeats 2000000
attribute [local simp] AV.flat AV.flats
def exKey : ByteArray := ⟨#[116, 97, 0, 1, 48, 48, 48, 48, 48, 48, 48, 48, 48, 48, 48, 48, 48, 48, 48, 49, 0, 1]⟩
theorem exKey_eq : strOfNums (keyb 116 [⟨#[97]⟩, strOfNums (hexs 1)]) = ⟨#[116, 97, 0, 1, 48, 48, 48, 48, 48, 48, 48, 48, 48, 48, 48, 48, 48, 48, 48, 49, 0, 1]⟩ := by decide
theorem exParts : partsL (bytesOf (lay 116).1) ⟨116, ⟨#[]⟩, ⟨#[]⟩, ⟨#[]⟩, ⟨#[97]⟩, 1, 0, 0⟩ = ([⟨#[97]⟩, strOfNums (hexs 1)], ⟨116, ⟨#[]⟩, ⟨#[]⟩, ⟨#[]⟩, ⟨#[]⟩, 0, 0, 0⟩) := rfl
theorem c_KeyL : CallD Try.prog 15 [refAV 116 ⟨#[]⟩ ⟨#[]⟩ ⟨#[]⟩ ⟨#[97]⟩ 1 0 0] noHeap (.tup [.raw (.string ⟨#[116, 97, 0, 1, 48, 48, 48, 48, 48, 48, 48, 48, 48, 48, 48, 48, 48, 48, 48, 49, 0, 1]⟩), .raw (.int .i64 0)]) noHeap := by
  have hp := c_parts ⟨116, ⟨#[]⟩, ⟨#[]⟩, ⟨#[]⟩, ⟨#[97]⟩, 1, 0, 0⟩ (by unfold RefV.ok inU; decide)
  rw [if_pos (by decide), exParts] at hp
  have hm := c_Make 116 [⟨#[97]⟩, strOfNums (hexs 1)] (by decide) (by decide) (by decide) (by decide)
  rw [exKey_eq] at hm
  generalize strOfNums (hexs 1) = z at hp hm
  refine calls_go (nt := 25) (rs := [.tmp 2, .tmp 3]) Try.func15 rfl rfl rfl (by simp) (by intro id h; simp at h <;> omega) ?_; intro Q hQ hW
  repeat' (first
    | (with_reducible refine run_n ?_; with_reducible first | refine hK _ _ (by simp) ?_ | refine hK _ _ ?_; clear hK K)
    | (with_reducible first | refine awp_seq ?_ | refine then_n ?_ | refine then_r ?_ | refine then_e ?_ | refine awp_skip ?_ | refine awp_label ?_ | refine awp_ret ?_ | refine awp_exit ?_ | refine awp_block ?_ | refine awp_scope ?_ | refine in_n ?_ | refine in_r ?_ | refine in_e ?_ | refine in_ne (by decide) ?_ | refine ng_n ?_ | refine ng_r ?_ | refine ng_e ?_)
    | (with_reducible refine awp_regT (by kernel_rfl) ?_; intro K hK)
    | (with_reducible refine a_cond (ht := ?_) (hf := ?_) <;> intro hb <;> (try simp at hb) <;> (try contradiction) <;> (try subst hb) <;> (try omega))
    | (with_reducible first | refine a_move (hr := ?_) | refine a_assign (hr := ?_) | refine a_load (hr := ?_) | refine a_fieldAddr (hr := ?_) | refine a_bin (hr := ?_) | refine a_extract (hr := ?_) | refine a_store (hr := ?_) | refine a_box (hr := ?_) | refine a_alloc (hr := ?_) | refine a_neB (hr := ?_) | refine a_neS (hr := ?_) | refine a_build (hr := ?_) | refine a_call0 (hcall := hp) (hr := ?_) | refine a_callL (hcall := hm) (hr := ?_))
    | fail)
  (refine hQ _ _ _ _ (by first | exact .inr rfl | exact .inl rfl) (by simp; exact .r) (by simp; exact .r) ?_)
  exact Fin.drop (by simp; exact .r) (by simp)
theorem c_PutTokenL : CallD Try.prog 27 [tokAV 2 0 (-1)] noHeap (.sl 1 (u8s [2, 0, 0])) noHeap := by
  have := c_PutToken 2 0 (-1) (by decide) (by decide)
  rwa [show putTok 2 0 (-1) = [2, 0, 0] by decide] at this
theorem c_live : CallD Try.prog 11 [] noHeap (.raw (.bool true)) noHeap := by
  refine calls_go (nt := 20) (rs := [.tmp 0]) Try.func11 rfl rfl rfl (by simp) (by intro id h; simp at h <;> omega) ?_; intro Q hQ hW
  repeat' (first
    | (with_reducible refine run_n ?_; with_reducible first | refine hK _ _ (by simp) ?_ | refine hK _ _ ?_; clear hK K)
    | (with_reducible first | refine awp_seq ?_ | refine then_n ?_ | refine then_r ?_ | refine then_e ?_ | refine awp_skip ?_ | refine awp_label ?_ | refine awp_ret ?_ | refine awp_exit ?_ | refine awp_block ?_ | refine awp_scope ?_ | refine in_n ?_ | refine in_r ?_ | refine in_e ?_ | refine in_ne (by decide) ?_ | refine ng_n ?_ | refine ng_r ?_ | refine ng_e ?_)
    | (with_reducible refine awp_regT (by kernel_rfl) ?_; intro K hK)
    | (with_reducible refine a_cond (ht := ?_) (hf := ?_) <;> intro hb <;> (try simp at hb) <;> (try contradiction) <;> (try subst hb) <;> (try omega))
    | (with_reducible first | refine a_move (hr := ?_) | refine a_assign (hr := ?_) | refine a_bin (hr := ?_) | refine a_extract (hr := ?_) | refine a_pick (hr := ?_) | refine a_eqB (hr := ?_) | refine a_conv (hr := ?_) | refine a_bytesStr (hr := ?_) | refine a_strBytes (hr := ?_) | refine a_eqS (hr := ?_) | refine a_build (hr := ?_) | refine a_call0 (hcall := c_KeyL) (hr := ?_) | refine a_callN (hcall := c_PutTokenL) (hr := ?_) | refine a_gT (hr := ?_) | refine a_gF (hr := ?_) | refine a_gU (hr := ?_))
    | (with_reducible refine a_gB (hT := ?_) (hF := ?_) <;> intro hb <;> (try simp at hb) <;> (try contradiction) <;> (try subst hb) <;> (try omega))
    | fail)
  all_goals (try (refine hQ _ _ _ _ (by first | exact .inr rfl | exact .inl rfl) (by simp; exact .r) (by simp; exact .r) ?_))
  all_goals (exact Fin.drop (by simp; exact .r) (by simp))
abbrev armAV (k : Int) (n y : ByteArray) (d : Int) : AV := .agg [.raw (.int .i64 k), .raw (.string n), .raw (.string y), .raw (.int .u64 d)]
def idx (i : ByteArray) (t o k : Int) (n y : ByteArray) (d : Int) : RefV :=
  if k = 1 then ⟨122, ⟨#[]⟩, ⟨#[]⟩, ⟨#[]⟩, i, t, o, d⟩ else if k = 2 then ⟨109, n, y, ⟨#[]⟩, i, t, o, 0⟩ else if k = 3 then ⟨115, n, ⟨#[]⟩, ⟨#[]⟩, i, t, o, 0⟩ else ⟨0, ⟨#[]⟩, ⟨#[]⟩, ⟨#[]⟩, ⟨#[]⟩, 0, 0, 0⟩
theorem c_Index (i : ByteArray) (t o k : Int) (n y : ByteArray) (d : Int) : CallD Try.prog 12 [.raw (.string i), .raw (.int .u64 t), .raw (.int .u64 o), armAV k n y d] noHeap (idx i t o k n y d).av noHeap := by
  refine calls_go (nt := 39) (rs := [.cell 8 27]) Try.func12 rfl rfl rfl (by simp) (by intro id h; simp at h <;> omega) ?_; intro Q hQ hW
  repeat' (first
    | (with_reducible refine run_n ?_; with_reducible first | refine hK _ _ (by simp) ?_ | refine hK _ _ ?_; clear hK K)
    | (with_reducible first | refine awp_seq ?_ | refine then_n ?_ | refine then_r ?_ | refine then_e ?_ | refine awp_skip ?_ | refine awp_label ?_ | refine awp_ret ?_ | refine awp_exit ?_ | refine awp_block ?_ | refine awp_scope ?_ | refine in_n ?_ | refine in_r ?_ | refine in_e ?_ | refine in_ne (by decide) ?_ | refine ng_n ?_ | refine ng_r ?_ | refine ng_e ?_)
    | (with_reducible refine awp_regT (by kernel_rfl) ?_; intro K hK)
    | (with_reducible refine awp_regAM (id := 5) [(19, some 7), (21, some 9), (22, some 9)] mixed (by kernel_rfl) (by kernel_rfl) ?_; intro K hK)
    | (with_reducible refine awp_regAM (id := 7) [(25, some 7), (27, some 9), (28, some 9)] mixed (by kernel_rfl) (by kernel_rfl) ?_; intro K hK)
    | (with_reducible refine awp_regAM (id := 10) [(34, some 7), (36, some 9), (37, some 9)] mixed (by kernel_rfl) (by kernel_rfl) ?_; intro K hK)
    | (with_reducible refine a_cond (ht := ?_) (hf := ?_) <;> intro hb <;> (try simp at hb) <;> (try contradiction) <;> (try subst hb) <;> (try omega))
    | (with_reducible first | refine a_move (hr := ?_) | refine a_assign (hr := ?_) | refine a_load (hr := ?_) | refine a_fieldAddr (hr := ?_) | refine a_bin (hr := ?_) | refine a_store (hr := ?_) | refine a_box (hr := ?_) | refine a_alloc (hr := ?_) | refine a_eqB (hr := ?_) | refine a_eqS (hr := ?_) | refine a_build (hr := ?_))
    | fail)
  all_goals (try (refine hQ _ _ _ _ (by first | exact .inr rfl | exact .inl rfl) (by simp; exact .r) (by simp; exact .r) ?_))
  all_goals (first | exact Fin.drop (by simp; exact .r) (by simp) | (simp only [idx, *, if_true, if_false]; exact Fin.drop (by simp; exact .r) (by simp)))
theorem c_refIndex (i : ByteArray) (t o k : Int) (n y : ByteArray) (d : Int) : CallD Try.prog 13 [.raw (.string i), .raw (.int .u64 t), .raw (.int .u64 o), armAV k n y d] noHeap (idx i t o k n y d).av noHeap := by
  refine calls_go (nt := 39) (rs := [.cell 8 27]) Try.func13 rfl rfl rfl (by simp) (by intro id h; simp at h <;> omega) ?_; intro Q hQ hW
  repeat' (first
    | (with_reducible refine run_n ?_; with_reducible first | refine hK _ _ (by simp) ?_ | refine hK _ _ ?_; clear hK K)
    | (with_reducible first | refine awp_seq ?_ | refine then_n ?_ | refine then_r ?_ | refine then_e ?_ | refine awp_skip ?_ | refine awp_label ?_ | refine awp_ret ?_ | refine awp_exit ?_ | refine awp_block ?_ | refine awp_scope ?_ | refine in_n ?_ | refine in_r ?_ | refine in_e ?_ | refine in_ne (by decide) ?_ | refine ng_n ?_ | refine ng_r ?_ | refine ng_e ?_)
    | (with_reducible refine awp_regT (by kernel_rfl) ?_; intro K hK)
    | (with_reducible refine awp_regAM (id := 5) [(19, some 7), (21, some 9), (22, some 9)] mixed (by kernel_rfl) (by kernel_rfl) ?_; intro K hK)
    | (with_reducible refine awp_regAM (id := 7) [(25, some 7), (27, some 7), (29, some 9), (30, some 9), (31, some 9)] mixed (by kernel_rfl) (by kernel_rfl) ?_; intro K hK)
    | (with_reducible refine awp_regAM (id := 9) [(34, some 7), (36, some 9), (37, some 9)] mixed (by kernel_rfl) (by kernel_rfl) ?_; intro K hK)
    | (with_reducible refine a_cond (ht := ?_) (hf := ?_) <;> intro hb <;> (try simp at hb) <;> (try contradiction) <;> (try subst hb) <;> (try omega))
    | (with_reducible first | refine a_move (hr := ?_) | refine a_assign (hr := ?_) | refine a_load (hr := ?_) | refine a_fieldAddr (hr := ?_) | refine a_bin (hr := ?_) | refine a_store (hr := ?_) | refine a_box (hr := ?_) | refine a_alloc (hr := ?_) | refine a_eqB (hr := ?_) | refine a_eqS (hr := ?_) | refine a_build (hr := ?_))
    | fail)
  all_goals (try (refine hQ _ _ _ _ (by first | exact .inr rfl | exact .inl rfl) (by simp; exact .r) (by simp; exact .r) ?_))
  all_goals (first | exact Fin.drop (by simp; exact .r) (by simp) | (simp only [idx, *, if_true, if_false]; exact Fin.drop (by simp; exact .r) (by simp)))
theorem law_EntityIndexes (i : ByteArray) (t o k : Int) (n y : ByteArray) (d : Int) (hi : i.size ≤ 140737488351232) (hn : n.size ≤ 140737488351232) (hy : y.size ≤ 140737488351232) : CallD Try.prog 3 [.raw (.string i), .raw (.int .u64 t), .raw (.int .u64 o), armAV k n y d] noHeap (.raw (.bool true)) noHeap := by
  refine calls_go (nt := 36) (rs := [.tmp 8]) Try.func3 rfl rfl rfl (by simp) (by intro id h; simp at h <;> omega) ?_; intro Q hQ hW
  repeat' (first
    | (with_reducible refine run_n ?_; with_reducible first | refine hK _ _ (by simp) ?_ | refine hK _ _ ?_; clear hK K)
    | (with_reducible first | refine awp_seq ?_ | refine then_n ?_ | refine then_r ?_ | refine then_e ?_ | refine awp_skip ?_ | refine awp_label ?_ | refine awp_ret ?_ | refine awp_exit ?_ | refine awp_block ?_ | refine awp_scope ?_ | refine in_n ?_ | refine in_r ?_ | refine in_e ?_ | refine in_ne (by decide) ?_ | refine ng_n ?_ | refine ng_r ?_ | refine ng_e ?_)
    | (with_reducible refine awp_regT (by kernel_rfl) ?_; intro K hK)
    | (with_reducible refine awp_regAM (id := 3) [(7, some 7)] mixed (by kernel_rfl) (by kernel_rfl) ?_; intro K hK)
    | (with_reducible refine a_cond (ht := ?_) (hf := ?_) <;> intro hb <;> (try simp at hb) <;> (try contradiction) <;> (try subst hb) <;> (try omega))
    | (with_reducible first | refine a_move (hr := ?_) | refine a_assign (hr := ?_) | refine a_load (hr := ?_) | refine a_fieldAddr (hr := ?_) | refine a_bin (hr := ?_) | refine a_lenS (hr := ?_) | refine a_lenR (hr := ?_) | refine a_pick (hr := ?_) | refine a_un (hr := ?_) | refine a_box (hr := ?_) | refine a_eqB (hr := ?_) | refine a_eqS (hr := ?_) | refine a_call0 (hcall := c_live) (hr := ?_) | refine a_call0 (hcall := c_Index _ _ _ _ _ _ _) (hr := ?_) | refine a_call0 (hcall := c_refIndex _ _ _ _ _ _ _) (hr := ?_) | refine a_gT (hr := ?_) | refine a_gF (hr := ?_) | refine a_gU (hr := ?_))
    | (with_reducible refine a_gB (hT := ?_) (hF := ?_) <;> intro hb <;> (try simp at hb) <;> (try contradiction) <;> (try subst hb) <;> (try omega))
    | fail)
  all_goals (try (refine hQ _ _ _ _ (by first | exact .inr rfl | exact .inl rfl) (by simp; exact .r) (by simp; exact .r) ?_))
  all_goals (first | exact Fin.drop (by simp; exact .r) (by simp))
end Go.Proofs.Ytdbdajmgfajcpaa.Asl
