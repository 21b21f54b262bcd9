/- Part 19 of what the row leans on: abstract values and states, their rules, and the contracts of the functions. -/
import Derived.Test.YtjbbnollidcagaaDoorZgc18
namespace Go.Proofs.YtjbbnollidcagaaDoor.Asl
open Go Go.RowKit
set_option linter.unusedVariables false
set_option linter.unusedSimpArgs false
set_option maxRecDepth 100000
set_option maxHeartbeats 4000000
section
variable {P : Program} {nt : Nat} {σ : St} {Q : Exit → St → Prop} {e : Nat → AV} {h h' : Hp} {K : (Nat → AV) → Hp → Prop} {ops : Array Oper} {l : List Oper} {ty' : TypeId} {pos : String} {af : Array Edge} {dd : Option Tmp}
theorem a_remZ {t ty : TypeId} {x y : Operand} {k : IntKind} {X Y : Int} (hx : Is (evE e x) (.raw (.int k X)) := by (simp; exact .r)) (hy : Is (evE e y) (.raw (.int k Y)) := by (simp; exact .r)) (h0 : Y ≠ 0 := by omega) (hr : RunK P ops l (putE e dd (.raw (.int k (X.tmod Y)))) h K) : RunK P ops (⟨dd, .binOp .rem t x y ty, ty', pos, af, none⟩ :: l) e h K :=
  w_bin hx hy (by
    show binV .rem (.int k X) (.int k Y) = some (.int k (X.tmod Y))
    simp [binV, h0]) hr
theorem a_quoZ {t ty : TypeId} {x y : Operand} {k : IntKind} {X Y : Int} (hx : Is (evE e x) (.raw (.int k X)) := by (simp; exact .r)) (hy : Is (evE e y) (.raw (.int k Y)) := by (simp; exact .r)) (h0 : Y ≠ 0 := by omega) (hr : RunK P ops l (putE e dd (.raw (.int k (k.wrap (X.tdiv Y))))) h K) : RunK P ops (⟨dd, .binOp .quo t x y ty, ty', pos, af, none⟩ :: l) e h K :=
  w_bin hx hy (by
    show binV .quo (.int k X) (.int k Y) = some (.int k (k.wrap (X.tdiv Y)))
    simp [binV, h0]) hr
end
def outI (r : Int) : Val × Int := if inR r then ((1, r, ⟨#[]⟩), 0) else (zV, 9)
def numE (op m n : Int) : Val × Int :=
  if op = 6 then outI (m * n) else if op = 9 then outI (m + n) else if op = 10 then outI (m - n)
  else if n = 0 then (zV, 62) else if op = 8 then ((1, m.tmod n, ⟨#[]⟩), 0) else outI (m.tdiv n)
theorem tdiv_in {m n : Int} (hm : inR m) (hn : n ≠ 0) (h : ¬ (m = -9223372036854775808 ∧ n = -1)) : inR (m.tdiv n) := by
  have h1 : (m.tdiv n).natAbs = m.natAbs / n.natAbs := Int.natAbs_tdiv m n
  have h2 : m.natAbs / n.natAbs ≤ m.natAbs := Nat.div_le_self _ _
  unfold inR at *
  by_cases hn1 : n.natAbs = 1
  · rcases (show n = 1 ∨ n = -1 by omega) with rfl | rfl
    · rw [Int.tdiv_one]; omega
    · rw [Int.tdiv_neg, Int.tdiv_one]; omega
  · have h3 : m.natAbs / n.natAbs ≤ m.natAbs / 2 := Nat.div_le_div_left (by omega) (by decide)
    omega
theorem c_reckon (op m n : Int) (hop : 6 ≤ op ∧ op ≤ 10) (hm : inR m) (hn : inR n) : CallD Tryd.prog 40 [.raw (.int .i64 op), .raw (.int .i64 m), .raw (.int .i64 n)] noHeap (.tup [Val.av (numE op m n).1, .raw (.int .i64 (numE op m n).2)]) noHeap := by
  unfold numE
  have hm' := hm
  have hn' := hn
  unfold inR at hm' hn'
  rcases (show op = 6 ∨ op = 9 ∨ op = 10 ∨ op = 7 ∨ op = 8 by omega) with rfl | rfl | rfl | rfl | rfl
  · rw [if_pos rfl]
    obtain ⟨r, q, hr⟩ := c_times m n hm hn
    unfold outI
    by_cases hf : inR (m * n)
    · rw [if_pos hf]
      rw [decide_eq_true hf, hr hf] at q
      have q2 := c_VInt (m * n)
      generalize m * n = p at q q2 ⊢
      refine zzg (nt := 72) (rs := [.cell 6 23, .tmp 7]) Tryd.func40 ?_; intro Q hQ hW
      repeat' (first
 | (with_reducible refine run_n ?_; with_reducible first | refine hK _ _ (by simp) ?_ | refine hK _ _ ?_; clear hK K)
 | (refine zzc ?_)
 | (with_reducible refine awp_regT (by kernel_rfl) ?_; intro K hK)
 | (with_reducible refine a_cond (ht := ?_) (hf := ?_) <;> intro hb <;> (try simp at hb) <;> (try contradiction) <;> (try subst hb) <;> (try omega))
 | (with_reducible first | refine a_move (hr:=?_) | refine a_assign (hr:=?_) | refine a_remU (hr:=?_) | refine a_quoU (hr:=?_) | refine a_bin (hr:=?_) | refine a_extract (hr:=?_) | refine a_pick (hr:=?_) | refine a_un (hr:=?_) | refine a_store (hr:=?_) | refine a_alloc (hr:=?_) | refine a_eqB (hr:=?_) | refine a_neB (hr:=?_) | refine a_eqS (hr:=?_) | refine a_neS (hr:=?_) | refine a_build (hr:=?_) | refine a_call0 (hcall := q) (hr:=?_) | refine a_call0 (hcall := q2) (hr:=?_) | refine a_gT (hr:=?_) | refine a_gF (hr:=?_) | refine a_gU (hr:=?_))
 | (with_reducible refine a_gB (hT := ?_) (hF := ?_) <;> intro hb <;> (try simp at hb) <;> (try contradiction) <;> (try subst hb) <;> (try omega))
 | fail)
      all_goals ((refine zzr hQ ?_))
      all_goals (exact zzd)
    · rw [if_neg hf]
      rw [decide_eq_false hf] at q
      unfold zV
      refine zzg (nt := 72) (rs := [.cell 6 23, .tmp 7]) Tryd.func40 ?_; intro Q hQ hW
      repeat' (first
 | (with_reducible refine run_n ?_; with_reducible first | refine hK _ _ (by simp) ?_ | refine hK _ _ ?_; clear hK K)
 | (refine zzc ?_)
 | (with_reducible refine awp_regT (by kernel_rfl) ?_; intro K hK)
 | (with_reducible refine a_cond (ht := ?_) (hf := ?_) <;> intro hb <;> (try simp at hb) <;> (try contradiction) <;> (try subst hb) <;> (try omega))
 | (with_reducible first | refine a_move (hr:=?_) | refine a_assign (hr:=?_) | refine a_remU (hr:=?_) | refine a_quoU (hr:=?_) | refine a_bin (hr:=?_) | refine a_extract (hr:=?_) | refine a_pick (hr:=?_) | refine a_un (hr:=?_) | refine a_store (hr:=?_) | refine a_alloc (hr:=?_) | refine a_eqB (hr:=?_) | refine a_neB (hr:=?_) | refine a_eqS (hr:=?_) | refine a_neS (hr:=?_) | refine a_build (hr:=?_) | refine a_call0 (hcall := q) (hr:=?_) | refine a_gT (hr:=?_) | refine a_gF (hr:=?_) | refine a_gU (hr:=?_))
 | (with_reducible refine a_gB (hT := ?_) (hF := ?_) <;> intro hb <;> (try simp at hb) <;> (try contradiction) <;> (try subst hb) <;> (try omega))
 | fail)
      all_goals ((refine zzr hQ ?_))
      all_goals (exact zzd)
  · rw [if_neg (by decide), if_pos rfl]
    unfold outI
    by_cases hf : inR (m + n)
    · rw [if_pos hf]
      unfold inR at hf
      have q2 := c_VInt (m + n)
      refine zzg (nt := 72) (rs := [.cell 6 23, .tmp 7]) Tryd.func40 ?_; intro Q hQ hW
      repeat' (first
 | (with_reducible refine run_n ?_; with_reducible first | refine hK _ _ (by simp) ?_ | refine hK _ _ ?_; clear hK K)
 | (refine zzc ?_)
 | (with_reducible refine awp_regT (by kernel_rfl) ?_; intro K hK)
 | (with_reducible refine a_cond (ht := ?_) (hf := ?_) <;> intro hb <;> (try simp at hb) <;> (try contradiction) <;> (try subst hb) <;> (try omega))
 | (with_reducible first | refine a_move (hr:=?_) | refine a_assign (hr:=?_) | refine a_remU (hr:=?_) | refine a_quoU (hr:=?_) | refine a_bin (hr:=?_) | refine a_extract (hr:=?_) | refine a_pick (hr:=?_) | refine a_un (hr:=?_) | refine a_store (hr:=?_) | refine a_alloc (hr:=?_) | refine a_eqB (hr:=?_) | refine a_neB (hr:=?_) | refine a_eqS (hr:=?_) | refine a_neS (hr:=?_) | refine a_build (hr:=?_) | refine a_call0 (hcall := q2) (hr:=?_) | refine a_gT (hr:=?_) | refine a_gF (hr:=?_) | refine a_gU (hr:=?_))
 | (with_reducible refine a_gB (hT := ?_) (hF := ?_) <;> intro hb <;> (try simp at hb) <;> (try contradiction) <;> (try subst hb) <;> (try omega))
 | fail)
      all_goals first
        | (exfalso; omega)
        | ((refine zzr hQ ?_); exact zzd)
    · rw [if_neg hf]
      unfold inR at hf
      unfold zV
      obtain ⟨w, hw⟩ : ∃ w, IntKind.wrap .i64 (m + n) = w := ⟨_, rfl⟩
      have hss := hw
      rw [wrap_i64'] at hw
      have hd : decide (w > m) = decide (n ≤ 0) := by
        apply decide_eq_decide.2; split at hw <;> omega
      refine zzg (nt := 72) (rs := [.cell 6 23, .tmp 7]) Tryd.func40 ?_; intro Q hQ hW
      repeat' (first
 | (with_reducible refine run_n ?_; with_reducible first | refine hK _ _ (by simp) ?_ | refine hK _ _ ?_; clear hK K)
 | (refine zzc ?_)
 | (with_reducible refine awp_regT (by kernel_rfl) ?_; intro K hK)
 | (with_reducible refine a_cond (ht := ?_) (hf := ?_) <;> intro hb <;> (try simp at hb) <;> (try contradiction) <;> (try subst hb) <;> (try omega))
 | (with_reducible first | refine a_move (hr:=?_) | refine a_assign (hr:=?_) | refine a_remU (hr:=?_) | refine a_quoU (hr:=?_) | refine a_bin (hr:=?_) | refine a_extract (hr:=?_) | refine a_pick (hr:=?_) | refine a_un (hr:=?_) | refine a_store (hr:=?_) | refine a_alloc (hr:=?_) | refine a_eqB (hr:=?_) | refine a_neB (hr:=?_) | refine a_eqS (hr:=?_) | refine a_neS (hr:=?_) | refine a_build (hr:=?_) | refine a_gT (hr:=?_) | refine a_gF (hr:=?_) | refine a_gU (hr:=?_))
 | (with_reducible refine a_gB (hT := ?_) (hF := ?_) <;> intro hb <;> (try simp at hb) <;> (try contradiction) <;> (try subst hb) <;> (try omega))
 | fail)
      all_goals first
        | (exfalso; split at hw <;> omega)
        | ((refine zzr hQ ?_); exact zzd)
  · rw [if_neg (by decide), if_neg (by decide), if_pos rfl]
    unfold outI
    by_cases hf : inR (m - n)
    · rw [if_pos hf]
      unfold inR at hf
      have q2 := c_VInt (m - n)
      refine zzg (nt := 72) (rs := [.cell 6 23, .tmp 7]) Tryd.func40 ?_; intro Q hQ hW
      repeat' (first
 | (with_reducible refine run_n ?_; with_reducible first | refine hK _ _ (by simp) ?_ | refine hK _ _ ?_; clear hK K)
 | (refine zzc ?_)
 | (with_reducible refine awp_regT (by kernel_rfl) ?_; intro K hK)
 | (with_reducible refine a_cond (ht := ?_) (hf := ?_) <;> intro hb <;> (try simp at hb) <;> (try contradiction) <;> (try subst hb) <;> (try omega))
 | (with_reducible first | refine a_move (hr:=?_) | refine a_assign (hr:=?_) | refine a_remU (hr:=?_) | refine a_quoU (hr:=?_) | refine a_bin (hr:=?_) | refine a_extract (hr:=?_) | refine a_pick (hr:=?_) | refine a_un (hr:=?_) | refine a_store (hr:=?_) | refine a_alloc (hr:=?_) | refine a_eqB (hr:=?_) | refine a_neB (hr:=?_) | refine a_eqS (hr:=?_) | refine a_neS (hr:=?_) | refine a_build (hr:=?_) | refine a_call0 (hcall := q2) (hr:=?_) | refine a_gT (hr:=?_) | refine a_gF (hr:=?_) | refine a_gU (hr:=?_))
 | (with_reducible refine a_gB (hT := ?_) (hF := ?_) <;> intro hb <;> (try simp at hb) <;> (try contradiction) <;> (try subst hb) <;> (try omega))
 | fail)
      all_goals first
        | (exfalso; omega)
        | ((refine zzr hQ ?_); exact zzd)
    · rw [if_neg hf]
      unfold inR at hf
      unfold zV
      obtain ⟨w, hw⟩ : ∃ w, IntKind.wrap .i64 (m - n) = w := ⟨_, rfl⟩
      have hss := hw
      rw [wrap_i64'] at hw
      refine zzg (nt := 72) (rs := [.cell 6 23, .tmp 7]) Tryd.func40 ?_; intro Q hQ hW
      repeat' (first
 | (with_reducible refine run_n ?_; with_reducible first | refine hK _ _ (by simp) ?_ | refine hK _ _ ?_; clear hK K)
 | (refine zzc ?_)
 | (with_reducible refine awp_regT (by kernel_rfl) ?_; intro K hK)
 | (with_reducible refine a_cond (ht := ?_) (hf := ?_) <;> intro hb <;> (try simp at hb) <;> (try contradiction) <;> (try subst hb) <;> (try omega))
 | (with_reducible first | refine a_move (hr:=?_) | refine a_assign (hr:=?_) | refine a_remU (hr:=?_) | refine a_quoU (hr:=?_) | refine a_bin (hr:=?_) | refine a_extract (hr:=?_) | refine a_pick (hr:=?_) | refine a_un (hr:=?_) | refine a_store (hr:=?_) | refine a_alloc (hr:=?_) | refine a_eqB (hr:=?_) | refine a_neB (hr:=?_) | refine a_eqS (hr:=?_) | refine a_neS (hr:=?_) | refine a_build (hr:=?_) | refine a_gT (hr:=?_) | refine a_gF (hr:=?_) | refine a_gU (hr:=?_))
 | (with_reducible refine a_gB (hT := ?_) (hF := ?_) <;> intro hb <;> (try simp at hb) <;> (try contradiction) <;> (try subst hb) <;> (try omega))
 | fail)
      all_goals first
        | (exfalso; split at hw <;> omega)
        | ((refine zzr hQ ?_); exact zzd)
  · rw [if_neg (by decide), if_neg (by decide), if_neg (by decide)]
    by_cases hn0 : n = 0
    · subst hn0
      rw [if_pos rfl]
      unfold zV
      refine zzg (nt := 72) (rs := [.cell 6 23, .tmp 7]) Tryd.func40 ?_; intro Q hQ hW
      repeat' (first
 | (with_reducible refine run_n ?_; with_reducible first | refine hK _ _ (by simp) ?_ | refine hK _ _ ?_; clear hK K)
 | (refine zzc ?_)
 | (with_reducible refine awp_regT (by kernel_rfl) ?_; intro K hK)
 | (with_reducible refine a_cond (ht := ?_) (hf := ?_) <;> intro hb <;> (try simp at hb) <;> (try contradiction) <;> (try subst hb) <;> (try omega))
 | (with_reducible first | refine a_move (hr:=?_) | refine a_assign (hr:=?_) | refine a_remU (hr:=?_) | refine a_quoU (hr:=?_) | refine a_bin (hr:=?_) | refine a_extract (hr:=?_) | refine a_pick (hr:=?_) | refine a_un (hr:=?_) | refine a_store (hr:=?_) | refine a_alloc (hr:=?_) | refine a_eqB (hr:=?_) | refine a_neB (hr:=?_) | refine a_eqS (hr:=?_) | refine a_neS (hr:=?_) | refine a_build (hr:=?_) | refine a_gT (hr:=?_) | refine a_gF (hr:=?_) | refine a_gU (hr:=?_))
 | (with_reducible refine a_gB (hT := ?_) (hF := ?_) <;> intro hb <;> (try simp at hb) <;> (try contradiction) <;> (try subst hb) <;> (try omega))
 | fail)
      all_goals ((refine zzr hQ ?_))
      all_goals (exact zzd)
    rw [if_neg hn0, if_neg (by decide)]
    unfold outI
    by_cases hx : m = -9223372036854775808 ∧ n = -1
    · obtain ⟨rfl, rfl⟩ := hx
      rw [if_neg (by decide)]
      unfold zV
      refine zzg (nt := 72) (rs := [.cell 6 23, .tmp 7]) Tryd.func40 ?_; intro Q hQ hW
      repeat' (first
 | (with_reducible refine run_n ?_; with_reducible first | refine hK _ _ (by simp) ?_ | refine hK _ _ ?_; clear hK K)
 | (refine zzc ?_)
 | (with_reducible refine awp_regT (by kernel_rfl) ?_; intro K hK)
 | (with_reducible refine a_cond (ht := ?_) (hf := ?_) <;> intro hb <;> (try simp at hb) <;> (try contradiction) <;> (try subst hb) <;> (try omega))
 | (with_reducible first | refine a_quoZ (hr:=?_) | refine a_move (hr:=?_) | refine a_assign (hr:=?_) | refine a_remU (hr:=?_) | refine a_quoU (hr:=?_) | refine a_bin (hr:=?_) | refine a_extract (hr:=?_) | refine a_pick (hr:=?_) | refine a_un (hr:=?_) | refine a_store (hr:=?_) | refine a_alloc (hr:=?_) | refine a_eqB (hr:=?_) | refine a_neB (hr:=?_) | refine a_eqS (hr:=?_) | refine a_neS (hr:=?_) | refine a_build (hr:=?_) | refine a_gT (hr:=?_) | refine a_gF (hr:=?_) | refine a_gU (hr:=?_))
 | (with_reducible refine a_gB (hT := ?_) (hF := ?_) <;> intro hb <;> (try simp at hb) <;> (try contradiction) <;> (try subst hb) <;> (try omega))
 | fail)
      all_goals first
        | (exfalso; omega)
        | ((refine zzr hQ ?_); exact zzd)
    · have hf := tdiv_in hm hn0 hx
      rw [if_pos hf]
      unfold inR at hf
      obtain ⟨d, hd⟩ : ∃ d, m.tdiv n = d := ⟨_, rfl⟩
      have hw : IntKind.wrap .i64 (m.tdiv n) = d := by rw [hd, wrap_i64 (by omega) (by omega)]
      rw [hd]
      have q2 := c_VInt (IntKind.wrap .i64 (m.tdiv n))
      rw [← hw]
      by_cases hn1 : n = -1
      · subst hn1
        have hm1 : ¬ m = -9223372036854775808 := fun h => hx ⟨h, rfl⟩
        have e : m.tdiv (-1) = -m := by rw [Int.tdiv_neg, Int.tdiv_one]
        rw [e] at hd hw q2 hf ⊢
        refine zzg (nt := 72) (rs := [.cell 6 23, .tmp 7]) Tryd.func40 ?_; intro Q hQ hW
        repeat' (first
 | (with_reducible refine run_n ?_; with_reducible first | refine hK _ _ (by simp) ?_ | refine hK _ _ ?_; clear hK K)
 | (refine zzc ?_)
 | (with_reducible refine awp_regT (by kernel_rfl) ?_; intro K hK)
 | (with_reducible refine a_cond (ht := ?_) (hf := ?_) <;> intro hb <;> (try simp at hb) <;> (try contradiction) <;> (try subst hb) <;> (try omega))
 | (with_reducible first | refine a_quoZ (hr:=?_) | refine a_move (hr:=?_) | refine a_assign (hr:=?_) | refine a_remU (hr:=?_) | refine a_quoU (hr:=?_) | refine a_bin (hr:=?_) | refine a_extract (hr:=?_) | refine a_pick (hr:=?_) | refine a_un (hr:=?_) | refine a_store (hr:=?_) | refine a_alloc (hr:=?_) | refine a_eqB (hr:=?_) | refine a_neB (hr:=?_) | refine a_eqS (hr:=?_) | refine a_neS (hr:=?_) | refine a_build (hr:=?_) | refine a_call0 (hcall := q2) (hr:=?_) | refine a_gT (hr:=?_) | refine a_gF (hr:=?_) | refine a_gU (hr:=?_))
 | (with_reducible refine a_gB (hT := ?_) (hF := ?_) <;> intro hb <;> (try simp at hb) <;> (try contradiction) <;> (try subst hb) <;> (try omega))
 | fail)
        all_goals first
          | (exfalso; omega)
          | ((refine zzr hQ ?_); exact zzd)
      · refine zzg (nt := 72) (rs := [.cell 6 23, .tmp 7]) Tryd.func40 ?_; intro Q hQ hW
        repeat' (first
 | (with_reducible refine run_n ?_; with_reducible first | refine hK _ _ (by simp) ?_ | refine hK _ _ ?_; clear hK K)
 | (refine zzc ?_)
 | (with_reducible refine awp_regT (by kernel_rfl) ?_; intro K hK)
 | (with_reducible refine a_cond (ht := ?_) (hf := ?_) <;> intro hb <;> (try simp at hb) <;> (try contradiction) <;> (try subst hb) <;> (try omega))
 | (with_reducible first | refine a_quoZ (hr:=?_) | refine a_move (hr:=?_) | refine a_assign (hr:=?_) | refine a_remU (hr:=?_) | refine a_quoU (hr:=?_) | refine a_bin (hr:=?_) | refine a_extract (hr:=?_) | refine a_pick (hr:=?_) | refine a_un (hr:=?_) | refine a_store (hr:=?_) | refine a_alloc (hr:=?_) | refine a_eqB (hr:=?_) | refine a_neB (hr:=?_) | refine a_eqS (hr:=?_) | refine a_neS (hr:=?_) | refine a_build (hr:=?_) | refine a_call0 (hcall := q2) (hr:=?_) | refine a_gT (hr:=?_) | refine a_gF (hr:=?_) | refine a_gU (hr:=?_))
 | (with_reducible refine a_gB (hT := ?_) (hF := ?_) <;> intro hb <;> (try simp at hb) <;> (try contradiction) <;> (try subst hb) <;> (try omega))
 | fail)
        all_goals first
          | (exfalso; omega)
          | ((refine zzr hQ ?_); exact zzd)
  · rw [if_neg (by decide), if_neg (by decide), if_neg (by decide)]
    by_cases hn0 : n = 0
    · subst hn0
      rw [if_pos rfl]
      unfold zV
      refine zzg (nt := 72) (rs := [.cell 6 23, .tmp 7]) Tryd.func40 ?_; intro Q hQ hW
      repeat' (first
 | (with_reducible refine run_n ?_; with_reducible first | refine hK _ _ (by simp) ?_ | refine hK _ _ ?_; clear hK K)
 | (refine zzc ?_)
 | (with_reducible refine awp_regT (by kernel_rfl) ?_; intro K hK)
 | (with_reducible refine a_cond (ht := ?_) (hf := ?_) <;> intro hb <;> (try simp at hb) <;> (try contradiction) <;> (try subst hb) <;> (try omega))
 | (with_reducible first | refine a_move (hr:=?_) | refine a_assign (hr:=?_) | refine a_remU (hr:=?_) | refine a_quoU (hr:=?_) | refine a_bin (hr:=?_) | refine a_extract (hr:=?_) | refine a_pick (hr:=?_) | refine a_un (hr:=?_) | refine a_store (hr:=?_) | refine a_alloc (hr:=?_) | refine a_eqB (hr:=?_) | refine a_neB (hr:=?_) | refine a_eqS (hr:=?_) | refine a_neS (hr:=?_) | refine a_build (hr:=?_) | refine a_gT (hr:=?_) | refine a_gF (hr:=?_) | refine a_gU (hr:=?_))
 | (with_reducible refine a_gB (hT := ?_) (hF := ?_) <;> intro hb <;> (try simp at hb) <;> (try contradiction) <;> (try subst hb) <;> (try omega))
 | fail)
      all_goals ((refine zzr hQ ?_))
      all_goals (exact zzd)
    rw [if_neg hn0, if_pos rfl]
    have q2 := c_VInt (m.tmod n)
    refine zzg (nt := 72) (rs := [.cell 6 23, .tmp 7]) Tryd.func40 ?_; intro Q hQ hW
    repeat' (first
 | (with_reducible refine run_n ?_; with_reducible first | refine hK _ _ (by simp) ?_ | refine hK _ _ ?_; clear hK K)
 | (refine zzc ?_)
 | (with_reducible refine awp_regT (by kernel_rfl) ?_; intro K hK)
 | (with_reducible refine a_cond (ht := ?_) (hf := ?_) <;> intro hb <;> (try simp at hb) <;> (try contradiction) <;> (try subst hb) <;> (try omega))
 | (with_reducible first | refine a_remZ (hr:=?_) | refine a_move (hr:=?_) | refine a_assign (hr:=?_) | refine a_remU (hr:=?_) | refine a_quoU (hr:=?_) | refine a_bin (hr:=?_) | refine a_extract (hr:=?_) | refine a_pick (hr:=?_) | refine a_un (hr:=?_) | refine a_store (hr:=?_) | refine a_alloc (hr:=?_) | refine a_eqB (hr:=?_) | refine a_neB (hr:=?_) | refine a_eqS (hr:=?_) | refine a_neS (hr:=?_) | refine a_build (hr:=?_) | refine a_call0 (hcall := q2) (hr:=?_) | refine a_gT (hr:=?_) | refine a_gF (hr:=?_) | refine a_gU (hr:=?_))
 | (with_reducible refine a_gB (hT := ?_) (hF := ?_) <;> intro hb <;> (try simp at hb) <;> (try contradiction) <;> (try subst hb) <;> (try omega))
 | fail)
    all_goals first
      | (exfalso; omega)
      | ((refine zzr hQ ?_); exact zzd)
/-- What one value comes to. -/
def oneE (op : Int) (a : Val) : Val × Int :=
  if op = 3 then (if a.1 ≠ 1 then (zV, 40) else if a.2.1 = -9223372036854775808 then (zV, 9) else ((1, -a.2.1, ⟨#[]⟩), 0))
  else if op = 4 then (if a.1 ≠ 2 then (zV, 40) else ((2, if a.2.1 = 0 then 1 else 0, ⟨#[]⟩), 0))
  else if op = 5 then (if a.1 ≠ 3 then (zV, 40) else ((1, a.2.2.size, ⟨#[]⟩), 0))
  else (zV, 1)
theorem c_VBool (b : Bool) : CallD Tryd.prog 34 [.raw (.bool b)] noHeap (valAV 2 (if b = true then 1 else 0) ⟨#[]⟩) noHeap := by
  cases b with
  | true =>
    rw [if_pos rfl]
    refine zzg (nt := 8) (rs := [.cell 2 23]) Tryd.func34 ?_; intro Q hQ hW
    repeat' (first
 | (with_reducible refine run_n ?_; with_reducible first | refine hK _ _ (by simp) ?_ | refine hK _ _ ?_; clear hK K)
 | (refine zzc ?_)
 | (with_reducible refine awp_regT (by kernel_rfl) ?_; intro K hK)
 | (with_reducible refine a_cond (ht := ?_) (hf := ?_) <;> intro hb <;> (try simp at hb) <;> (try contradiction) <;> (try subst hb) <;> (try omega))
 | (with_reducible first | refine a_move (hr:=?_) | refine a_load (hr:=?_) | refine a_fieldAddr (hr:=?_) | refine a_store (hr:=?_) | refine a_alloc (hr:=?_) | refine a_build (hr:=?_))
 | fail)
    all_goals ((refine zzr hQ ?_))
    all_goals (exact zzd)
  | false =>
    rw [if_neg (by decide)]
    refine zzg (nt := 8) (rs := [.cell 2 23]) Tryd.func34 ?_; intro Q hQ hW
    repeat' (first
 | (with_reducible refine run_n ?_; with_reducible first | refine hK _ _ (by simp) ?_ | refine hK _ _ ?_; clear hK K)
 | (refine zzc ?_)
 | (with_reducible refine awp_regT (by kernel_rfl) ?_; intro K hK)
 | (with_reducible refine a_cond (ht := ?_) (hf := ?_) <;> intro hb <;> (try simp at hb) <;> (try contradiction) <;> (try subst hb) <;> (try omega))
 | (with_reducible first | refine a_move (hr:=?_) | refine a_load (hr:=?_) | refine a_fieldAddr (hr:=?_) | refine a_store (hr:=?_) | refine a_alloc (hr:=?_) | refine a_build (hr:=?_))
 | fail)
    all_goals ((refine zzr hQ ?_))
    all_goals (exact zzd)
theorem c_One (op : Int) (a : Val) (ha : inR a.2.1) (hs : a.2.2.size ≤ 140737488351232) : CallD Tryd.prog 12 [.raw (.int .i64 op), a.av] noHeap (.tup [Val.av (oneE op a).1, .raw (.int .i64 (oneE op a).2)]) noHeap := by
  obtain ⟨k, n, s⟩ := a
  unfold inR at ha
  simp only at ha hs
  unfold oneE
  by_cases h3 : op = 3
  · subst h3
    rw [if_pos rfl]
    by_cases hk : k = 1
    · subst hk
      rw [if_neg (by simp)]
      simp only
      by_cases hn : n = -9223372036854775808
      · subst hn
        rw [if_pos rfl]
        unfold zV
        refine zzg (nt := 52) (rs := [.cell 4 23, .tmp 5]) Tryd.func12 ?_; intro Q hQ hW
        repeat' (first
 | (with_reducible refine run_n ?_; with_reducible first | refine hK _ _ (by simp) ?_ | refine hK _ _ ?_; clear hK K)
 | (refine zzc ?_)
 | (with_reducible refine awp_regT (by kernel_rfl) ?_; intro K hK)
 | (with_reducible refine a_cond (ht := ?_) (hf := ?_) <;> intro hb <;> (try simp at hb) <;> (try contradiction) <;> (try subst hb) <;> (try omega))
 | (with_reducible first | refine a_move (hr:=?_) | refine a_assign (hr:=?_) | refine a_load (hr:=?_) | refine a_fieldAddr (hr:=?_) | refine a_bin (hr:=?_) | refine a_lenS (hr:=?_) | refine a_lenR (hr:=?_) | refine a_pick (hr:=?_) | refine a_un (hr:=?_) | refine a_store (hr:=?_) | refine a_box (hr:=?_) | refine a_alloc (hr:=?_) | refine a_eqB (hr:=?_) | refine a_neB (hr:=?_) | refine a_eqS (hr:=?_) | refine a_neS (hr:=?_) | refine a_build (hr:=?_) | refine a_gT (hr:=?_) | refine a_gF (hr:=?_) | refine a_gU (hr:=?_))
 | (with_reducible refine a_gB (hT := ?_) (hF := ?_) <;> intro hb <;> (try simp at hb) <;> (try contradiction) <;> (try subst hb) <;> (try omega))
 | fail)
        all_goals first
          | (exfalso; omega)
          | ((refine zzr hQ ?_); exact zzd)
      · rw [if_neg hn]
        have q := c_VInt (-n)
        refine zzg (nt := 52) (rs := [.cell 4 23, .tmp 5]) Tryd.func12 ?_; intro Q hQ hW
        repeat' (first
 | (with_reducible refine run_n ?_; with_reducible first | refine hK _ _ (by simp) ?_ | refine hK _ _ ?_; clear hK K)
 | (refine zzc ?_)
 | (with_reducible refine awp_regT (by kernel_rfl) ?_; intro K hK)
 | (with_reducible refine a_cond (ht := ?_) (hf := ?_) <;> intro hb <;> (try simp at hb) <;> (try contradiction) <;> (try subst hb) <;> (try omega))
 | (with_reducible first | refine a_move (hr:=?_) | refine a_assign (hr:=?_) | refine a_load (hr:=?_) | refine a_fieldAddr (hr:=?_) | refine a_bin (hr:=?_) | refine a_lenS (hr:=?_) | refine a_lenR (hr:=?_) | refine a_pick (hr:=?_) | refine a_un (hr:=?_) | refine a_store (hr:=?_) | refine a_box (hr:=?_) | refine a_alloc (hr:=?_) | refine a_eqB (hr:=?_) | refine a_neB (hr:=?_) | refine a_eqS (hr:=?_) | refine a_neS (hr:=?_) | refine a_build (hr:=?_) | refine a_call0 (hcall := q) (hr:=?_) | refine a_gT (hr:=?_) | refine a_gF (hr:=?_) | refine a_gU (hr:=?_))
 | (with_reducible refine a_gB (hT := ?_) (hF := ?_) <;> intro hb <;> (try simp at hb) <;> (try contradiction) <;> (try subst hb) <;> (try omega))
 | fail)
        all_goals first
          | (exfalso; omega)
          | ((refine zzr hQ ?_); exact zzd)
    · rw [if_pos hk]
      unfold zV
      refine zzg (nt := 52) (rs := [.cell 4 23, .tmp 5]) Tryd.func12 ?_; intro Q hQ hW
      repeat' (first
 | (with_reducible refine run_n ?_; with_reducible first | refine hK _ _ (by simp) ?_ | refine hK _ _ ?_; clear hK K)
 | (refine zzc ?_)
 | (with_reducible refine awp_regT (by kernel_rfl) ?_; intro K hK)
 | (with_reducible refine a_cond (ht := ?_) (hf := ?_) <;> intro hb <;> (try simp at hb) <;> (try contradiction) <;> (try subst hb) <;> (try omega))
 | (with_reducible first | refine a_move (hr:=?_) | refine a_assign (hr:=?_) | refine a_load (hr:=?_) | refine a_fieldAddr (hr:=?_) | refine a_bin (hr:=?_) | refine a_lenS (hr:=?_) | refine a_lenR (hr:=?_) | refine a_pick (hr:=?_) | refine a_un (hr:=?_) | refine a_store (hr:=?_) | refine a_box (hr:=?_) | refine a_alloc (hr:=?_) | refine a_eqB (hr:=?_) | refine a_neB (hr:=?_) | refine a_eqS (hr:=?_) | refine a_neS (hr:=?_) | refine a_build (hr:=?_) | refine a_gT (hr:=?_) | refine a_gF (hr:=?_) | refine a_gU (hr:=?_))
 | (with_reducible refine a_gB (hT := ?_) (hF := ?_) <;> intro hb <;> (try simp at hb) <;> (try contradiction) <;> (try subst hb) <;> (try omega))
 | fail)
      all_goals first
        | (exfalso; omega)
        | ((refine zzr hQ ?_); exact zzd)
  rw [if_neg h3]
  by_cases h4 : op = 4
  · subst h4
    rw [if_pos rfl]
    by_cases hk : k = 2
    · subst hk
      rw [if_neg (by simp)]
      simp only
      have q := c_VBool (decide (n = 0))
      rw [show (if decide (n = 0) = true then (1 : Int) else 0) = if n = 0 then 1 else 0 by simp] at q
      refine zzg (nt := 52) (rs := [.cell 4 23, .tmp 5]) Tryd.func12 ?_; intro Q hQ hW
      repeat' (first
 | (with_reducible refine run_n ?_; with_reducible first | refine hK _ _ (by simp) ?_ | refine hK _ _ ?_; clear hK K)
 | (refine zzc ?_)
 | (with_reducible refine awp_regT (by kernel_rfl) ?_; intro K hK)
 | (with_reducible refine a_cond (ht := ?_) (hf := ?_) <;> intro hb <;> (try simp at hb) <;> (try contradiction) <;> (try subst hb) <;> (try omega))
 | (with_reducible first | refine a_move (hr:=?_) | refine a_assign (hr:=?_) | refine a_load (hr:=?_) | refine a_fieldAddr (hr:=?_) | refine a_bin (hr:=?_) | refine a_lenS (hr:=?_) | refine a_lenR (hr:=?_) | refine a_pick (hr:=?_) | refine a_un (hr:=?_) | refine a_store (hr:=?_) | refine a_box (hr:=?_) | refine a_alloc (hr:=?_) | refine a_eqB (hr:=?_) | refine a_neB (hr:=?_) | refine a_eqS (hr:=?_) | refine a_neS (hr:=?_) | refine a_build (hr:=?_) | refine a_call0 (hcall := q) (hr:=?_) | refine a_gT (hr:=?_) | refine a_gF (hr:=?_) | refine a_gU (hr:=?_))
 | (with_reducible refine a_gB (hT := ?_) (hF := ?_) <;> intro hb <;> (try simp at hb) <;> (try contradiction) <;> (try subst hb) <;> (try omega))
 | fail)
      all_goals first
        | (exfalso; omega)
        | ((refine zzr hQ ?_); exact zzd)
    · rw [if_pos hk]
      unfold zV
      refine zzg (nt := 52) (rs := [.cell 4 23, .tmp 5]) Tryd.func12 ?_; intro Q hQ hW
      repeat' (first
 | (with_reducible refine run_n ?_; with_reducible first | refine hK _ _ (by simp) ?_ | refine hK _ _ ?_; clear hK K)
 | (refine zzc ?_)
 | (with_reducible refine awp_regT (by kernel_rfl) ?_; intro K hK)
 | (with_reducible refine a_cond (ht := ?_) (hf := ?_) <;> intro hb <;> (try simp at hb) <;> (try contradiction) <;> (try subst hb) <;> (try omega))
 | (with_reducible first | refine a_move (hr:=?_) | refine a_assign (hr:=?_) | refine a_load (hr:=?_) | refine a_fieldAddr (hr:=?_) | refine a_bin (hr:=?_) | refine a_lenS (hr:=?_) | refine a_lenR (hr:=?_) | refine a_pick (hr:=?_) | refine a_un (hr:=?_) | refine a_store (hr:=?_) | refine a_box (hr:=?_) | refine a_alloc (hr:=?_) | refine a_eqB (hr:=?_) | refine a_neB (hr:=?_) | refine a_eqS (hr:=?_) | refine a_neS (hr:=?_) | refine a_build (hr:=?_) | refine a_gT (hr:=?_) | refine a_gF (hr:=?_) | refine a_gU (hr:=?_))
 | (with_reducible refine a_gB (hT := ?_) (hF := ?_) <;> intro hb <;> (try simp at hb) <;> (try contradiction) <;> (try subst hb) <;> (try omega))
 | fail)
      all_goals first
        | (exfalso; omega)
        | ((refine zzr hQ ?_); exact zzd)
  rw [if_neg h4]
  by_cases h5 : op = 5
  · subst h5
    rw [if_pos rfl]
    by_cases hk : k = 3
    · subst hk
      rw [if_neg (by simp)]
      simp only
      have q := c_VInt s.size
      refine zzg (nt := 52) (rs := [.cell 4 23, .tmp 5]) Tryd.func12 ?_; intro Q hQ hW
      repeat' (first
 | (with_reducible refine run_n ?_; with_reducible first | refine hK _ _ (by simp) ?_ | refine hK _ _ ?_; clear hK K)
 | (refine zzc ?_)
 | (with_reducible refine awp_regT (by kernel_rfl) ?_; intro K hK)
 | (with_reducible refine a_cond (ht := ?_) (hf := ?_) <;> intro hb <;> (try simp at hb) <;> (try contradiction) <;> (try subst hb) <;> (try omega))
 | (with_reducible first | refine a_move (hr:=?_) | refine a_assign (hr:=?_) | refine a_load (hr:=?_) | refine a_fieldAddr (hr:=?_) | refine a_bin (hr:=?_) | refine a_lenS (hr:=?_) | refine a_lenR (hr:=?_) | refine a_pick (hr:=?_) | refine a_un (hr:=?_) | refine a_store (hr:=?_) | refine a_box (hr:=?_) | refine a_alloc (hr:=?_) | refine a_eqB (hr:=?_) | refine a_neB (hr:=?_) | refine a_eqS (hr:=?_) | refine a_neS (hr:=?_) | refine a_build (hr:=?_) | refine a_call0 (hcall := q) (hr:=?_) | refine a_gT (hr:=?_) | refine a_gF (hr:=?_) | refine a_gU (hr:=?_))
 | (with_reducible refine a_gB (hT := ?_) (hF := ?_) <;> intro hb <;> (try simp at hb) <;> (try contradiction) <;> (try subst hb) <;> (try omega))
 | fail)
      all_goals first
        | (exfalso; omega)
        | ((refine zzr hQ ?_); exact zzd)
    · rw [if_pos hk]
      unfold zV
      refine zzg (nt := 52) (rs := [.cell 4 23, .tmp 5]) Tryd.func12 ?_; intro Q hQ hW
      repeat' (first
 | (with_reducible refine run_n ?_; with_reducible first | refine hK _ _ (by simp) ?_ | refine hK _ _ ?_; clear hK K)
 | (refine zzc ?_)
 | (with_reducible refine awp_regT (by kernel_rfl) ?_; intro K hK)
 | (with_reducible refine a_cond (ht := ?_) (hf := ?_) <;> intro hb <;> (try simp at hb) <;> (try contradiction) <;> (try subst hb) <;> (try omega))
 | (with_reducible first | refine a_move (hr:=?_) | refine a_assign (hr:=?_) | refine a_load (hr:=?_) | refine a_fieldAddr (hr:=?_) | refine a_bin (hr:=?_) | refine a_lenS (hr:=?_) | refine a_lenR (hr:=?_) | refine a_pick (hr:=?_) | refine a_un (hr:=?_) | refine a_store (hr:=?_) | refine a_box (hr:=?_) | refine a_alloc (hr:=?_) | refine a_eqB (hr:=?_) | refine a_neB (hr:=?_) | refine a_eqS (hr:=?_) | refine a_neS (hr:=?_) | refine a_build (hr:=?_) | refine a_gT (hr:=?_) | refine a_gF (hr:=?_) | refine a_gU (hr:=?_))
 | (with_reducible refine a_gB (hT := ?_) (hF := ?_) <;> intro hb <;> (try simp at hb) <;> (try contradiction) <;> (try subst hb) <;> (try omega))
 | fail)
      all_goals first
        | (exfalso; omega)
        | ((refine zzr hQ ?_); exact zzd)
  rw [if_neg h5]
  unfold zV
  refine zzg (nt := 52) (rs := [.cell 4 23, .tmp 5]) Tryd.func12 ?_; intro Q hQ hW
  repeat' (first
 | (with_reducible refine run_n ?_; with_reducible first | refine hK _ _ (by simp) ?_ | refine hK _ _ ?_; clear hK K)
 | (refine zzc ?_)
 | (with_reducible refine awp_regT (by kernel_rfl) ?_; intro K hK)
 | (with_reducible refine a_cond (ht := ?_) (hf := ?_) <;> intro hb <;> (try simp at hb) <;> (try contradiction) <;> (try subst hb) <;> (try omega))
 | (with_reducible first | refine a_move (hr:=?_) | refine a_assign (hr:=?_) | refine a_load (hr:=?_) | refine a_fieldAddr (hr:=?_) | refine a_bin (hr:=?_) | refine a_lenS (hr:=?_) | refine a_lenR (hr:=?_) | refine a_pick (hr:=?_) | refine a_un (hr:=?_) | refine a_store (hr:=?_) | refine a_box (hr:=?_) | refine a_alloc (hr:=?_) | refine a_eqB (hr:=?_) | refine a_neB (hr:=?_) | refine a_eqS (hr:=?_) | refine a_neS (hr:=?_) | refine a_build (hr:=?_) | refine a_gT (hr:=?_) | refine a_gF (hr:=?_) | refine a_gU (hr:=?_))
 | (with_reducible refine a_gB (hT := ?_) (hF := ?_) <;> intro hb <;> (try simp at hb) <;> (try contradiction) <;> (try subst hb) <;> (try omega))
 | fail)
  all_goals first
    | (exfalso; omega)
    | ((refine zzr hQ ?_); exact zzd)
end Go.Proofs.YtjbbnollidcagaaDoor.Asl

