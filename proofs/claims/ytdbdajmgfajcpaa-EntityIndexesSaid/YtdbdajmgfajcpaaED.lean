/- Chapter 15: the chapter's examples, and the index of an arm. -/
import Derived.Test.YtdbdajmgfajcpaaEC
namespace Go.Proofs.Ytdbdajmgfajcpaa.Asl
open Go Go.RowKit
set_option linter.unusedVariables false
set_option linter.unusedSimpArgs false
set_option maxRecDepth 100000
set_option maxHeartbeats 2000000
attribute [local simp] AV.flat AV.flats
def exKey : ByteArray := ⟨#[116, 97, 0, 1, 48, 48, 48, 48, 48, 48, 48, 48, 48, 48, 48, 48, 48, 48, 48, 49, 0, 1]⟩
theorem exKey_eq : strOfNums (keyb 116 [⟨#[97]⟩, strOfNums (hexs 1)]) = ⟨#[116, 97, 0, 1, 48, 48, 48, 48, 48, 48, 48, 48, 48, 48, 48, 48, 48, 48, 48, 49, 0, 1]⟩ := by decide
theorem exParts : partsL (bytesOf (lay 116).1) ⟨116, ⟨#[]⟩, ⟨#[]⟩, ⟨#[]⟩, ⟨#[97]⟩, 1, 0, 0⟩ = ([⟨#[97]⟩, strOfNums (hexs 1)], ⟨116, ⟨#[]⟩, ⟨#[]⟩, ⟨#[]⟩, ⟨#[]⟩, 0, 0, 0⟩) := rfl
theorem c_KeyL : CallD Try.prog 15 [refAV 116 ⟨#[]⟩ ⟨#[]⟩ ⟨#[]⟩ ⟨#[97]⟩ 1 0 0] noHeap (.tup [.raw (.string ⟨#[116, 97, 0, 1, 48, 48, 48, 48, 48, 48, 48, 48, 48, 48, 48, 48, 48, 48, 48, 49, 0, 1]⟩), .raw (.int .i64 0)]) noHeap := by
  have hp := c_parts ⟨116, ⟨#[]⟩, ⟨#[]⟩, ⟨#[]⟩, ⟨#[97]⟩, 1, 0, 0⟩ (by unfold RefV.ok inU; decide)
  rw [if_pos (by decide), exParts] at hp
  have hm := c_Make 116 [⟨#[97]⟩, strOfNums (hexs 1)] (by decide) (by decide) (by decide) (by decide)
  rw [exKey_eq] at hm
  generalize strOfNums (hexs 1) = z at hp hm
  refine calls_go (nt := 25) (rs := [.tmp 2, .tmp 3]) Try.func15 rfl rfl rfl (by simp) (by intro id h; simp at h <;> omega) ?_; intro Q hQ hW
  repeat' (first
    | (with_reducible refine run_n ?_; first | with_reducible refine hK _ _ (by simp) ?_ | with_reducible refine hK _ _ ?_; clear hK K)
    | with_reducible refine awp_seq ?_
    | (with_reducible refine awp_regL 8 mixed (by kernel_rfl) ?_; intro K hK)
    | with_reducible refine then_n ?_
    | with_reducible refine then_r ?_
    | with_reducible refine then_e ?_
    | (with_reducible refine w_cond (by simp; exact .r) ?_ ?_ <;> intro hb <;> (try simp at hb) <;> (try subst hb) <;> (try omega))
    | with_reducible refine awp_skip ?_
    | with_reducible refine awp_ret ?_
    | with_reducible refine awp_exit ?_
    | with_reducible refine awp_block ?_
    | with_reducible refine awp_scope ?_
    | with_reducible refine in_n ?_
    | with_reducible refine in_r ?_
    | with_reducible refine in_e ?_
    | with_reducible refine in_ne (by decide) ?_
    | with_reducible refine ng_n ?_
    | with_reducible refine ng_r ?_
    | with_reducible refine ng_e ?_
    | with_reducible refine w_move (by simp; exact .r) ?_
    | with_reducible refine w_assign (by simp; exact .r) ?_
    | with_reducible refine w_load (by simp; exact .r) (by simp; exact .r) (by simp; exact .r) ?_
    | with_reducible refine w_fieldAddr (by simp; exact .r) (by simp; exact .r) (by simp; exact .r) ?_
    | with_reducible refine w_bin (by simp; exact .r) (by simp; exact .r) (by simp; first | (rw [if_pos (by omega)]; exact .r) | (rw [wrap_i64 (by omega) (by omega)]; exact .r) | (rw [wrap_u8 (by omega) (by omega)]; exact .r) | (rw [wrap_u64 (by omega) (by omega)]; exact .r) | (rw [wrap_i32 (by omega) (by omega)]; exact .r) | exact .r) ?_
    | with_reducible refine w_extract (by simp; exact .r) (by simp; exact .r) ?_
    | with_reducible refine w_store (by simp; exact .r) (by simp; exact .r) (by simp; exact .r) (by simp; exact .r) (by simp; exact .r) (by simp; first | exact .r | (rw [if_pos (by omega)]; (try simp); exact .r)) ?_
    | with_reducible refine w_box (by simp; exact .r) (by simp; exact .r) (by simp; exact .r) ?_
    | with_reducible refine w_alloc (by simp; exact .r) (by simp; exact .r) (by simp) ?_
    | with_reducible refine w_neB (by simp; exact .r) (by simp; exact .r) (by simp; exact .r) (by (try simp); exact .r) ?_
    | with_reducible refine w_neS (by simp; exact .r) (by simp; exact .r) (by simp; exact .r) (by simp; exact .r) (by (try simp); exact .r) (by (try simp); exact .r) ?_
    | with_reducible refine w_build (by simp; exact .r) (by simp) (by simp) (by simp; exact .r) ?_
    | with_reducible refine w_call0 (by simp; exact .r) (by simp; exact .r) (by simp; exact .r) (by simp; exact .r) (by (try simp); exact .r) (hp) ?_
    | with_reducible refine w_callL (by simp; exact .r) (by simp; exact .r) (by simp; exact .r) (by (try simp); exact .r) (by (try simp); exact .r) (by (try simp); exact .r) (hm) (by simp; exact .r) ?_)
  (refine hQ _ _ _ _ (by first | exact .inr rfl | exact .inl rfl) (by simp; exact .r) (by simp; exact .r) ?_)
  exact Fin.drop (by simp; exact .r) (by simp)
theorem c_PutTokenL : CallD Try.prog 27 [tokAV 2 0 (-1)] noHeap (.sl 1 (u8s [2, 0, 0])) noHeap := by
  have := c_PutToken 2 0 (-1) (by decide) (by decide)
  rwa [show putTok 2 0 (-1) = [2, 0, 0] by decide] at this
theorem c_live : CallD Try.prog 11 [] noHeap (.raw (.bool true)) noHeap := by
  refine calls_go (nt := 20) (rs := [.tmp 0]) Try.func11 rfl rfl rfl (by simp) (by intro id h; simp at h <;> omega) ?_; intro Q hQ hW
  repeat' (first
    | (with_reducible refine run_n ?_; first | with_reducible refine hK _ _ (by simp) ?_ | with_reducible refine hK _ _ ?_; clear hK K)
    | with_reducible refine awp_seq ?_
    | (with_reducible refine awp_regL 8 mixed (by kernel_rfl) ?_; intro K hK)
    | with_reducible refine then_n ?_
    | with_reducible refine then_r ?_
    | with_reducible refine then_e ?_
    | (with_reducible refine w_cond (by simp; exact .r) ?_ ?_ <;> intro hb <;> (try simp at hb) <;> (try subst hb) <;> (try omega))
    | with_reducible refine awp_skip ?_
    | with_reducible refine awp_ret ?_
    | with_reducible refine awp_exit ?_
    | with_reducible refine awp_block ?_
    | with_reducible refine awp_scope ?_
    | with_reducible refine in_n ?_
    | with_reducible refine in_r ?_
    | with_reducible refine in_e ?_
    | with_reducible refine in_ne (by decide) ?_
    | with_reducible refine ng_n ?_
    | with_reducible refine ng_r ?_
    | with_reducible refine ng_e ?_
    | with_reducible refine w_move (by simp; exact .r) ?_
    | with_reducible refine w_assign (by simp; exact .r) ?_
    | with_reducible refine w_bin (by simp; exact .r) (by simp; exact .r) (by simp; first | (rw [if_pos (by omega)]; exact .r) | (rw [wrap_i64 (by omega) (by omega)]; exact .r) | (rw [wrap_u8 (by omega) (by omega)]; exact .r) | (rw [wrap_u64 (by omega) (by omega)]; exact .r) | (rw [wrap_i32 (by omega) (by omega)]; exact .r) | exact .r) ?_
    | with_reducible refine w_extract (by simp; exact .r) (by simp; exact .r) ?_
    | with_reducible refine w_pick (by simp; exact .r) (by simp [*]; exact .r) ?_
    | with_reducible refine w_eqB (by simp; exact .r) (by simp; exact .r) (by simp; exact .r) (by (try simp); exact .r) ?_
    | with_reducible refine w_conv (by simp; exact .r) (by simp; exact .r) (by simp; exact .r) (by simp; exact .r) (by simp; first | (rw [if_pos (by omega)]; exact .r) | (rw [wrap_i64 (by omega) (by omega)]; exact .r) | (rw [wrap_u8 (by omega) (by omega)]; exact .r) | (rw [wrap_u64 (by omega) (by omega)]; exact .r) | (rw [wrap_i32 (by omega) (by omega)]; exact .r) | exact .r) ?_
    | with_reducible refine w_bytesStr (by simp; exact .r) (by simp; exact .r) (by simp; exact .r) (by simp; exact .r) (by simp; exact .r) (by simp [*]; exact .r) (by (try simp); exact .r) ?_
    | with_reducible refine w_strBytes (by simp; exact .r) (by simp; exact .r) (by simp; exact .r) (by simp; exact .r) (by simp; exact .r) (by simp; exact .r) (by simp; exact .r) ?_
    | with_reducible refine w_eqS (by simp; exact .r) (by simp; exact .r) (by simp; exact .r) (by simp; exact .r) (by (try simp); exact .r) ?_
    | with_reducible refine w_build (by simp; exact .r) (by simp) (by simp) (by simp; exact .r) ?_
    | with_reducible refine w_call0 (by simp; exact .r) (by simp; exact .r) (by simp; exact .r) (by simp; exact .r) (by (try simp); exact .r) (c_KeyL) ?_
    | with_reducible refine w_callN (by simp; exact .r) (by simp; exact .r) (by simp; exact .r) (by simp; exact .r) (by (try simp); exact .r) (by simp; exact .r) (c_PutTokenL) ?_
    | with_reducible refine w_gT (by with_unfolding_all exact rfl) (by simp; exact .r) ?_
    | with_reducible refine w_gF (by with_unfolding_all exact rfl) (by simp; exact .r) ?_
    | (with_reducible refine w_gB (by with_unfolding_all exact rfl) (by simp; exact .r) ?_ ?_ <;> intro hb <;> (try simp at hb) <;> (try subst hb) <;> (try omega)))
  all_goals (try (refine hQ _ _ _ _ (by first | exact .inr rfl | exact .inl rfl) (by simp; exact .r) (by simp; exact .r) ?_))
  all_goals (exact Fin.drop (by simp; exact .r) (by simp))
abbrev armAV (k : Int) (n y : ByteArray) (d : Int) : AV := .agg [.raw (.int .i64 k), .raw (.string n), .raw (.string y), .raw (.int .u64 d)]
def idx (i : ByteArray) (t o k : Int) (n y : ByteArray) (d : Int) : RefV :=
  if k = 1 then ⟨122, ⟨#[]⟩, ⟨#[]⟩, ⟨#[]⟩, i, t, o, d⟩ else if k = 2 then ⟨109, n, y, ⟨#[]⟩, i, t, o, 0⟩ else if k = 3 then ⟨115, n, ⟨#[]⟩, ⟨#[]⟩, i, t, o, 0⟩ else ⟨0, ⟨#[]⟩, ⟨#[]⟩, ⟨#[]⟩, ⟨#[]⟩, 0, 0, 0⟩
theorem c_Index (i : ByteArray) (t o k : Int) (n y : ByteArray) (d : Int) : CallD Try.prog 12 [.raw (.string i), .raw (.int .u64 t), .raw (.int .u64 o), armAV k n y d] noHeap (idx i t o k n y d).av noHeap := by
  refine calls_go (nt := 39) (rs := [.cell 8 27]) Try.func12 rfl rfl rfl (by simp) (by intro id h; simp at h <;> omega) ?_; intro Q hQ hW
  repeat' (first
    | (with_reducible refine run_n ?_; first | with_reducible refine hK _ _ (by simp) ?_ | with_reducible refine hK _ _ ?_; clear hK K)
    | with_reducible refine awp_seq ?_
    | (with_reducible refine awp_regL 8 mixed (by kernel_rfl) ?_; intro K hK)
    | with_reducible refine then_n ?_
    | with_reducible refine then_r ?_
    | with_reducible refine then_e ?_
    | (with_reducible refine w_cond (by simp; exact .r) ?_ ?_ <;> intro hb <;> (try simp at hb) <;> (try subst hb) <;> (try omega))
    | with_reducible refine awp_skip ?_
    | with_reducible refine awp_ret ?_
    | with_reducible refine awp_exit ?_
    | with_reducible refine awp_block ?_
    | with_reducible refine awp_scope ?_
    | with_reducible refine in_n ?_
    | with_reducible refine in_r ?_
    | with_reducible refine in_e ?_
    | with_reducible refine in_ne (by decide) ?_
    | with_reducible refine ng_n ?_
    | with_reducible refine ng_r ?_
    | with_reducible refine ng_e ?_
    | (with_reducible refine awp_regAL (id := 5) [(19, some 7), (21, some 9), (22, some 9)] 8 mixed (by kernel_rfl) (by kernel_rfl) ?_; intro K hK)
    | (with_reducible refine awp_regAL (id := 7) [(25, some 7), (27, some 9), (28, some 9)] 8 mixed (by kernel_rfl) (by kernel_rfl) ?_; intro K hK)
    | (with_reducible refine awp_regAL (id := 10) [(34, some 7), (36, some 9), (37, some 9)] 8 mixed (by kernel_rfl) (by kernel_rfl) ?_; intro K hK)
    | with_reducible refine w_move (by simp; exact .r) ?_
    | with_reducible refine w_assign (by simp; exact .r) ?_
    | with_reducible refine w_load (by simp; exact .r) (by simp; exact .r) (by simp; exact .r) ?_
    | with_reducible refine w_fieldAddr (by simp; exact .r) (by simp; exact .r) (by simp; exact .r) ?_
    | with_reducible refine w_bin (by simp; exact .r) (by simp; exact .r) (by simp; first | (rw [if_pos (by omega)]; exact .r) | (rw [wrap_i64 (by omega) (by omega)]; exact .r) | (rw [wrap_u8 (by omega) (by omega)]; exact .r) | (rw [wrap_u64 (by omega) (by omega)]; exact .r) | (rw [wrap_i32 (by omega) (by omega)]; exact .r) | exact .r) ?_
    | with_reducible refine w_store (by simp; exact .r) (by simp; exact .r) (by simp; exact .r) (by simp; exact .r) (by simp; exact .r) (by simp; first | exact .r | (rw [if_pos (by omega)]; (try simp); exact .r)) ?_
    | with_reducible refine w_box (by simp; exact .r) (by simp; exact .r) (by simp; exact .r) ?_
    | with_reducible refine w_alloc (by simp; exact .r) (by simp; exact .r) (by simp) ?_
    | with_reducible refine w_eqB (by simp; exact .r) (by simp; exact .r) (by simp; exact .r) (by (try simp); exact .r) ?_
    | with_reducible refine w_eqS (by simp; exact .r) (by simp; exact .r) (by simp; exact .r) (by simp; exact .r) (by (try simp); exact .r) ?_
    | with_reducible refine w_build (by simp; exact .r) (by simp) (by simp) (by simp; exact .r) ?_)
  all_goals (try (refine hQ _ _ _ _ (by first | exact .inr rfl | exact .inl rfl) (by simp; exact .r) (by simp; exact .r) ?_))
  all_goals (first | exact Fin.drop (by simp; exact .r) (by simp) | (simp only [idx, *, if_true, if_false]; exact Fin.drop (by simp; exact .r) (by simp)))
theorem c_refIndex (i : ByteArray) (t o k : Int) (n y : ByteArray) (d : Int) : CallD Try.prog 13 [.raw (.string i), .raw (.int .u64 t), .raw (.int .u64 o), armAV k n y d] noHeap (idx i t o k n y d).av noHeap := by
  refine calls_go (nt := 39) (rs := [.cell 8 27]) Try.func13 rfl rfl rfl (by simp) (by intro id h; simp at h <;> omega) ?_; intro Q hQ hW
  repeat' (first
    | (with_reducible refine run_n ?_; first | with_reducible refine hK _ _ (by simp) ?_ | with_reducible refine hK _ _ ?_; clear hK K)
    | with_reducible refine awp_seq ?_
    | (with_reducible refine awp_regL 8 mixed (by kernel_rfl) ?_; intro K hK)
    | with_reducible refine then_n ?_
    | with_reducible refine then_r ?_
    | with_reducible refine then_e ?_
    | (with_reducible refine w_cond (by simp; exact .r) ?_ ?_ <;> intro hb <;> (try simp at hb) <;> (try subst hb) <;> (try omega))
    | with_reducible refine awp_skip ?_
    | with_reducible refine awp_ret ?_
    | with_reducible refine awp_exit ?_
    | with_reducible refine awp_block ?_
    | with_reducible refine awp_scope ?_
    | with_reducible refine in_n ?_
    | with_reducible refine in_r ?_
    | with_reducible refine in_e ?_
    | with_reducible refine in_ne (by decide) ?_
    | with_reducible refine ng_n ?_
    | with_reducible refine ng_r ?_
    | with_reducible refine ng_e ?_
    | (with_reducible refine awp_regAL (id := 5) [(19, some 7), (21, some 9), (22, some 9)] 8 mixed (by kernel_rfl) (by kernel_rfl) ?_; intro K hK)
    | (with_reducible refine awp_regAL (id := 7) [(25, some 7), (27, some 7), (29, some 9), (30, some 9), (31, some 9)] 8 mixed (by kernel_rfl) (by kernel_rfl) ?_; intro K hK)
    | (with_reducible refine awp_regAL (id := 9) [(34, some 7), (36, some 9), (37, some 9)] 8 mixed (by kernel_rfl) (by kernel_rfl) ?_; intro K hK)
    | with_reducible refine w_move (by simp; exact .r) ?_
    | with_reducible refine w_assign (by simp; exact .r) ?_
    | with_reducible refine w_load (by simp; exact .r) (by simp; exact .r) (by simp; exact .r) ?_
    | with_reducible refine w_fieldAddr (by simp; exact .r) (by simp; exact .r) (by simp; exact .r) ?_
    | with_reducible refine w_bin (by simp; exact .r) (by simp; exact .r) (by simp; first | (rw [if_pos (by omega)]; exact .r) | (rw [wrap_i64 (by omega) (by omega)]; exact .r) | (rw [wrap_u8 (by omega) (by omega)]; exact .r) | (rw [wrap_u64 (by omega) (by omega)]; exact .r) | (rw [wrap_i32 (by omega) (by omega)]; exact .r) | exact .r) ?_
    | with_reducible refine w_store (by simp; exact .r) (by simp; exact .r) (by simp; exact .r) (by simp; exact .r) (by simp; exact .r) (by simp; first | exact .r | (rw [if_pos (by omega)]; (try simp); exact .r)) ?_
    | with_reducible refine w_box (by simp; exact .r) (by simp; exact .r) (by simp; exact .r) ?_
    | with_reducible refine w_alloc (by simp; exact .r) (by simp; exact .r) (by simp) ?_
    | with_reducible refine w_eqB (by simp; exact .r) (by simp; exact .r) (by simp; exact .r) (by (try simp); exact .r) ?_
    | with_reducible refine w_eqS (by simp; exact .r) (by simp; exact .r) (by simp; exact .r) (by simp; exact .r) (by (try simp); exact .r) ?_
    | with_reducible refine w_build (by simp; exact .r) (by simp) (by simp) (by simp; exact .r) ?_)
  all_goals (try (refine hQ _ _ _ _ (by first | exact .inr rfl | exact .inl rfl) (by simp; exact .r) (by simp; exact .r) ?_))
  all_goals (first | exact Fin.drop (by simp; exact .r) (by simp) | (simp only [idx, *, if_true, if_false]; exact Fin.drop (by simp; exact .r) (by simp)))
theorem law_EntityIndexes (i : ByteArray) (t o k : Int) (n y : ByteArray) (d : Int) (hi : i.size ≤ 140737488351232) (hn : n.size ≤ 140737488351232) (hy : y.size ≤ 140737488351232) : CallD Try.prog 3 [.raw (.string i), .raw (.int .u64 t), .raw (.int .u64 o), armAV k n y d] noHeap (.raw (.bool true)) noHeap := by
  refine calls_go (nt := 36) (rs := [.tmp 8]) Try.func3 rfl rfl rfl (by simp) (by intro id h; simp at h <;> omega) ?_; intro Q hQ hW
  repeat' (first
    | (with_reducible refine run_n ?_; first | with_reducible refine hK _ _ (by simp) ?_ | with_reducible refine hK _ _ ?_; clear hK K)
    | with_reducible refine awp_seq ?_
    | (with_reducible refine awp_regL 8 mixed (by kernel_rfl) ?_; intro K hK)
    | with_reducible refine then_n ?_
    | with_reducible refine then_r ?_
    | with_reducible refine then_e ?_
    | (with_reducible refine w_cond (by simp; exact .r) ?_ ?_ <;> intro hb <;> (try simp at hb) <;> (try subst hb) <;> (try omega))
    | with_reducible refine awp_skip ?_
    | with_reducible refine awp_ret ?_
    | with_reducible refine awp_exit ?_
    | with_reducible refine awp_block ?_
    | with_reducible refine awp_scope ?_
    | with_reducible refine in_n ?_
    | with_reducible refine in_r ?_
    | with_reducible refine in_e ?_
    | with_reducible refine in_ne (by decide) ?_
    | with_reducible refine ng_n ?_
    | with_reducible refine ng_r ?_
    | with_reducible refine ng_e ?_
    | (with_reducible refine awp_regAL (id := 3) [(7, some 7)] 8 mixed (by kernel_rfl) (by kernel_rfl) ?_; intro K hK)
    | with_reducible refine w_move (by simp; exact .r) ?_
    | with_reducible refine w_assign (by simp; exact .r) ?_
    | with_reducible refine w_load (by simp; exact .r) (by simp; exact .r) (by simp; exact .r) ?_
    | with_reducible refine w_fieldAddr (by simp; exact .r) (by simp; exact .r) (by simp; exact .r) ?_
    | with_reducible refine w_bin (by simp; exact .r) (by simp; exact .r) (by simp; first | (rw [if_pos (by omega)]; exact .r) | (rw [wrap_i64 (by omega) (by omega)]; exact .r) | (rw [wrap_u8 (by omega) (by omega)]; exact .r) | (rw [wrap_u64 (by omega) (by omega)]; exact .r) | (rw [wrap_i32 (by omega) (by omega)]; exact .r) | exact .r) ?_
    | with_reducible refine w_lenS (by simp; exact .r) (by simp; exact .r) ?_
    | with_reducible refine w_lenR (by simp; exact .r) (by simp; exact .r) (by simp; exact .r) (by simp [*]; exact .r) (by (try simp); exact .r) ?_
    | with_reducible refine w_pick (by simp; exact .r) (by simp [*]; exact .r) ?_
    | with_reducible refine w_un (by simp; exact .r) (by (try simp); exact .r) ?_
    | with_reducible refine w_box (by simp; exact .r) (by simp; exact .r) (by simp; exact .r) ?_
    | with_reducible refine w_eqB (by simp; exact .r) (by simp; exact .r) (by simp; exact .r) (by (try simp); exact .r) ?_
    | with_reducible refine w_eqS (by simp; exact .r) (by simp; exact .r) (by simp; exact .r) (by simp; exact .r) (by (try simp); exact .r) ?_
    | with_reducible refine w_call0 (by simp; exact .r) (by simp; exact .r) (by simp; exact .r) (by simp; exact .r) (by (try simp); exact .r) (c_live) ?_
    | with_reducible refine w_call0 (by simp; exact .r) (by simp; exact .r) (by simp; exact .r) (by simp; exact .r) (by (try simp); exact .r) (c_Index _ _ _ _ _ _ _) ?_
    | with_reducible refine w_call0 (by simp; exact .r) (by simp; exact .r) (by simp; exact .r) (by simp; exact .r) (by (try simp); exact .r) (c_refIndex _ _ _ _ _ _ _) ?_
    | with_reducible refine w_gT (by with_unfolding_all exact rfl) (by simp; exact .r) ?_
    | with_reducible refine w_gF (by with_unfolding_all exact rfl) (by simp; exact .r) ?_
    | (with_reducible refine w_gB (by with_unfolding_all exact rfl) (by simp; exact .r) ?_ ?_ <;> intro hb <;> (try simp at hb) <;> (try subst hb) <;> (try omega)))
  all_goals (try (refine hQ _ _ _ _ (by first | exact .inr rfl | exact .inl rfl) (by simp; exact .r) (by simp; exact .r) ?_))
  all_goals (first | exact Fin.drop (by simp; exact .r) (by simp))
end Go.Proofs.Ytdbdajmgfajcpaa.Asl
