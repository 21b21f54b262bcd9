/- Chapter 2: the examples; FaultNone. -/
import Derived.Test.YtngeckkebejhiaaDoorFD
namespace Go.Proofs.YtngeckkebejhiaaDoor.Asl
open Go Go.RowKit
open Go.Proofs.YtngeckkebejhiaaDoor.Errs (EV)
set_option linter.unusedVariables false
set_option linter.unusedSimpArgs false
set_option maxRecDepth 100000
set_option maxHeartbeats 4000000
def tDeploy : ByteArray := ⟨#[100, 101, 112, 108, 111, 121]⟩
def tNode3 : ByteArray := ⟨#[110, 111, 100, 101, 32, 51]⟩
def evL : EV := .wrap tDeploy (.wrap tNode3 (.code 8))
theorem textL : textE (some evL) = ⟨#[100, 101, 112, 108, 111, 121, 58, 32, 110, 111, 100, 101, 32, 51, 58, 32, 101, 114, 114, 111, 114, 32, 56]⟩ := by decide +kernel
theorem c_Live2 : CallD Tryd.prog 8 [] noHeap (.raw (.bool true)) noHeap := by
  have a1 : CallD Tryd.prog 17 [.raw (.int .i64 8)] noHeap (errAV (.code 8)) noHeap := c_FOf 8
  have a2 : CallD Tryd.prog 17 [.raw (.int .i64 0)] noHeap (.raw .nilIface) noHeap := c_FOf 0
  have a3 : CallD Tryd.prog 11 [.raw (.string tNode3), errAV (.code 8)] noHeap (errAV (.wrap tNode3 (.code 8))) noHeap := c_FWrap tNode3 (some (.code 8))
  have a4 : CallD Tryd.prog 11 [.raw (.string tDeploy), errAV (.wrap tNode3 (.code 8))] noHeap (errAV evL) noHeap := c_FWrap tDeploy (some (.wrap tNode3 (.code 8)))
  have a5 : CallD Tryd.prog 14 [errAV evL] noHeap (.raw (.int .i64 8)) noHeap := c_FCode (some evL)
  have a6 := c_FText (some evL) (by decide +kernel) (by decide +kernel) (by unfold inI; decide +kernel)
  rw [textL] at a6
  simp only [errO_some] at a6
  have a7 : CallD Tryd.prog 13 [errAV evL] noHeap (.sl 1 (strs [tDeploy, tNode3])) noHeap := c_FTrail (some evL) (by decide +kernel)
  generalize evL = e3 at a4 a5 a6 a7
  generalize EV.wrap tNode3 (.code 8) = e2 at a3 a4
  generalize EV.code 8 = e1 at a1 a3
  unfold tDeploy at a4 a7
  unfold tNode3 at a3 a7
  refine calls_go (nt := 39) (rs := [.tmp 0]) Tryd.func8 rfl rfl rfl (by simp) (by intro id h; simp at h <;> omega) ?_; intro Q hQ hW
  repeat' (first
    | (with_reducible refine run_n ?_; with_reducible first | refine hK _ _ (by simp) ?_ | refine hK _ _ ?_; clear hK K)
    | (refine zzc ?_)
    | (with_reducible refine awp_regT (by kernel_rfl) ?_; intro K hK)
    | (with_reducible refine a_cond (ht := ?_) (hf := ?_) <;> intro hb <;> (try simp at hb) <;> (try contradiction) <;> (try subst hb) <;> (try omega))
    | (with_reducible first | refine a_move (hr:=?_) | refine a_assign (hr:=?_) | refine a_load (hr:=?_) | refine a_bin (hr:=?_) | refine a_lenS (hr:=?_) | refine a_lenR (hr:=?_) | refine a_pick (hr:=?_) | refine a_eqI (hr:=?_) | refine a_neI (hr:=?_) | refine a_eqB (hr:=?_) | refine a_neB (hr:=?_) | refine a_idxArr (hr:=?_) | refine a_eqS (hr:=?_) | refine a_neS (hr:=?_) | refine a_indexAddr (hr:=?_) | refine a_call0 (hcall := a1) (hr:=?_) | refine a_call0 (hcall := a2) (hr:=?_) | refine a_callF (hcall := a3) (hr:=?_) | refine a_callF (hcall := a4) (hr:=?_) | refine a_callF (hcall := a5) (hr:=?_) | refine a_callF (hcall := a6) (hr:=?_) | refine a_callF (hcall := a7) (hr:=?_) | refine a_gT (hr:=?_) | refine a_gF (hr:=?_) | refine a_gU (hr:=?_))
    | (with_reducible refine a_gB (hT := ?_) (hF := ?_) <;> intro hb <;> (try simp at hb) <;> (try contradiction) <;> (try subst hb) <;> (try omega))
    | fail)
  all_goals ((refine zzr hQ ?_))
  all_goals (exact Fin.drop (by simp; exact .r) (by simp))
theorem law_FaultNone (l : List ByteArray) (hl : l.length < 9223372036854775808) : CallD Tryd.prog 6 [.sl 1 (strs l)] noHeap (.raw (.bool true)) noHeap := by
  have hlv := c_Live2
  have b1 : ∀ p : ByteArray, CallD Tryd.prog 11 [.raw (.string p), .raw .nilIface] noHeap (.raw .nilIface) noHeap := fun p => c_FWrap p none
  have b2 : CallD Tryd.prog 12 [.raw .nilIface] noHeap (.tup [needAV (⟨#[]⟩, ⟨#[]⟩), .raw (.bool false)]) noHeap := c_FNeeded none
  have b3 : CallD Tryd.prog 14 [.raw .nilIface] noHeap (.raw (.int .i64 0)) noHeap := c_FCode none
  have b4 : CallD Tryd.prog 13 [.raw .nilIface] noHeap (.sl 1 (strs [])) noHeap := c_FTrail none (by simp [trailE])
  have b5 : CallD Tryd.prog 16 [.raw .nilIface] noHeap (.raw (.string ⟨#[]⟩)) noHeap := c_FText none (by simp [trailE, sumP]) (by simp [trailE]) (by unfold inI; decide)
  have b6 : CallD Tryd.prog 23 [.raw .nilIface, .raw (.int .i64 0)] noHeap (.raw (.bool true)) noHeap := c_FIs none 0
  have b7 : CallD Tryd.prog 23 [.raw .nilIface, .raw (.int .i64 1)] noHeap (.raw (.bool false)) noHeap := c_FIs none 1
  by_cases h1 : (l.length : Int) > 1000
  · refine calls_go (nt := 62) (rs := [.tmp 2]) Tryd.func6 rfl rfl rfl (by simp) (by intro id h; simp at h <;> omega) ?_; intro Q hQ hW
    repeat' (first
    | (with_reducible refine run_n ?_; with_reducible first | refine hK _ _ (by simp) ?_ | refine hK _ _ ?_; clear hK K)
    | (refine zzc ?_)
    | (with_reducible refine awp_regT (by kernel_rfl) ?_; intro K hK)
    | (with_reducible refine a_cond (ht := ?_) (hf := ?_) <;> intro hb <;> (try simp at hb) <;> (try contradiction) <;> (try subst hb) <;> (try omega))
    | (with_reducible first | refine a_move (hr:=?_) | refine a_assign (hr:=?_) | refine a_load (hr:=?_) | refine a_bin (hr:=?_) | refine a_lenS (hr:=?_) | refine a_lenR (hr:=?_) | refine a_extract (hr:=?_) | refine a_pick (hr:=?_) | refine a_un (hr:=?_) | refine a_store (hr:=?_) | refine a_alloc (hr:=?_) | refine a_eqI (hr:=?_) | refine a_neI (hr:=?_) | refine a_eqB (hr:=?_) | refine a_idxArr (hr:=?_) | refine a_eqS (hr:=?_) | refine a_indexAddr (hr:=?_) | refine a_call0 (hcall := hlv) (hr:=?_) | refine a_gT (hr:=?_) | refine a_gF (hr:=?_) | refine a_gU (hr:=?_))
    | (with_reducible refine a_gB (hT := ?_) (hF := ?_) <;> intro hb <;> (try simp at hb) <;> (try contradiction) <;> (try subst hb) <;> (try omega))
    | fail)
    all_goals ((refine zzr hQ ?_))
    all_goals (exact Fin.drop (by simp; exact .r) (by simp))
  · refine calls_go (nt := 62) (rs := [.tmp 2]) Tryd.func6 rfl rfl rfl (by simp) (by intro id h; simp at h <;> omega) ?_; intro Q hQ hW
    repeat' (first
    | (with_reducible refine run_n ?_; with_reducible first | refine hK _ _ (by simp) ?_ | refine hK _ _ ?_; clear hK K)
    | (refine zzc ?_)
    | (with_reducible refine awp_regT (by kernel_rfl) ?_; intro K hK)
    | (with_reducible refine a_cond (ht := ?_) (hf := ?_) <;> intro hb <;> (try simp at hb) <;> (try contradiction) <;> (try subst hb) <;> (try omega))
    | (with_reducible first | refine a_move (hr:=?_) | refine a_assign (hr:=?_) | refine a_load (hr:=?_) | refine a_bin (hr:=?_) | refine a_lenS (hr:=?_) | refine a_lenR (hr:=?_) | refine a_extract (hr:=?_) | refine a_pick (hr:=?_) | refine a_un (hr:=?_) | refine a_store (hr:=?_) | refine a_alloc (hr:=?_) | refine a_eqI (hr:=?_) | refine a_neI (hr:=?_) | refine a_eqB (hr:=?_) | refine a_idxArr (hr:=?_) | refine a_eqS (hr:=?_) | refine a_indexAddr (hr:=?_) | refine a_call0 (hcall := hlv) (hr:=?_) | refine a_gT (hr:=?_) | refine a_gF (hr:=?_) | refine a_gU (hr:=?_))
    | (with_reducible refine a_gB (hT := ?_) (hF := ?_) <;> intro hb <;> (try simp at hb) <;> (try contradiction) <;> (try subst hb) <;> (try omega))
    | fail)
    refine awp_inv (α := Nat) (fun i => [(3, .raw .nilIface), (16, .sl 1 (strs l)), (17, .raw (.int .i64 l.length)), (18, .raw (.int .i64 i))]) (fun _ => hpL []) (fun i => i ≤ l.length) (fun i => l.length - i) 0 (by simp) (zzw) ?_
    intro i g1
    rcases Nat.lt_or_ge i l.length with hlt | hge
    · have hx := List.getElem?_eq_getElem hlt
      generalize l[i] = y at hx
      have b1 := b1 y
      repeat' (first
    | (with_reducible refine run_n ?_; with_reducible first | refine hK _ _ (by simp) ?_ | refine hK _ _ ?_; clear hK K)
    | (refine zzc ?_)
    | (with_reducible refine awp_regT (by kernel_rfl) ?_; intro K hK)
    | (with_reducible refine a_cond (ht := ?_) (hf := ?_) <;> intro hb <;> (try simp at hb) <;> (try contradiction) <;> (try subst hb) <;> (try omega))
    | (with_reducible first | refine a_move (hr:=?_) | refine a_assign (hr:=?_) | refine a_load (hr:=?_) | refine a_bin (hr:=?_) | refine a_lenS (hr:=?_) | refine a_lenR (hr:=?_) | refine a_extract (hr:=?_) | refine a_pick (hr:=?_) | refine a_un (hr:=?_) | refine a_store (hr:=?_) | refine a_alloc (hr:=?_) | refine a_eqI (hr:=?_) | refine a_neI (hr:=?_) | refine a_eqB (hr:=?_) | refine a_idxArr (hr:=?_) | refine a_eqS (hr:=?_) | refine a_indexAddr (hr:=?_) | refine a_callF (hcall := b1) (hr:=?_) | refine a_gT (hr:=?_) | refine a_gF (hr:=?_) | refine a_gU (hr:=?_))
    | (with_reducible refine a_gB (hT := ?_) (hF := ?_) <;> intro hb <;> (try simp at hb) <;> (try contradiction) <;> (try subst hb) <;> (try omega))
    | fail)
      exact ⟨i + 1, by omega, by omega, zzw⟩
    · obtain rfl : i = l.length := by omega
      repeat' (first
    | (with_reducible refine run_n ?_; with_reducible first | refine hK _ _ (by simp) ?_ | refine hK _ _ ?_; clear hK K)
    | (refine zzc ?_)
    | (with_reducible refine awp_regT (by kernel_rfl) ?_; intro K hK)
    | (with_reducible refine a_cond (ht := ?_) (hf := ?_) <;> intro hb <;> (try simp at hb) <;> (try contradiction) <;> (try subst hb) <;> (try omega))
    | (with_reducible first | refine a_move (hr:=?_) | refine a_assign (hr:=?_) | refine a_load (hr:=?_) | refine a_bin (hr:=?_) | refine a_lenS (hr:=?_) | refine a_lenR (hr:=?_) | refine a_extract (hr:=?_) | refine a_pick (hr:=?_) | refine a_un (hr:=?_) | refine a_store (hr:=?_) | refine a_alloc (hr:=?_) | refine a_eqI (hr:=?_) | refine a_neI (hr:=?_) | refine a_eqB (hr:=?_) | refine a_idxArr (hr:=?_) | refine a_eqS (hr:=?_) | refine a_indexAddr (hr:=?_) | refine a_callF (hcall := b2) (hr:=?_) | refine a_callF (hcall := b3) (hr:=?_) | refine a_callF (hcall := b4) (hr:=?_) | refine a_callF (hcall := b5) (hr:=?_) | refine a_callF (hcall := b6) (hr:=?_) | refine a_callF (hcall := b7) (hr:=?_) | refine a_gT (hr:=?_) | refine a_gF (hr:=?_) | refine a_gU (hr:=?_))
    | (with_reducible refine a_gB (hT := ?_) (hF := ?_) <;> intro hb <;> (try simp at hb) <;> (try contradiction) <;> (try subst hb) <;> (try omega))
    | fail)
      all_goals ((refine zzr hQ ?_))
      all_goals (exact Fin.drop (by simp; exact .r) (by simp))
end Go.Proofs.YtngeckkebejhiaaDoor.Asl
