/- Part 18 of what the row leans on: abstract values and states, their rules, and the contracts of the functions. -/
import Derived.Test.YtejeemhenoobjaaZW14P17
namespace Go.Proofs.Ytejeemhenoobjaa.Asl
open Go Go.RowKit
open Go.Proofs.Ytejeemhenoobjaa.Errs (EV)
set_option linter.unusedVariables false
set_option linter.unusedSimpArgs false
set_option maxRecDepth 100000
set_option maxHeartbeats 8000000
theorem CallD.nilD {f : FuncId} {s r : AV} {xs : List AV} {g g' : Hp} (hc : CallD Try.prog f (.agg [s, .sl 8 [], .sl 4 []] :: xs) g r g') : CallD Try.prog f (.agg [s, .raw (.slice none 0 0), .raw (.slice none 0 0)] :: xs) g r g' := by
  intro C vs hh hv
  refine hc C vs hh ?_
  cases hv with
  | cons a b =>
    refine .cons ?_ b
    cases a with
    | agg q => cases q with
      | cons a1 q => cases q with
        | cons a2 q => cases q with
          | cons a3 q => cases a2 with
            | one a2 _ => cases a3 with
              | one a3 _ =>
                rw [RV.raw_eq a2, RV.raw_eq a3]
                exact .agg (.cons a1 (.cons (.one .sl0 rfl) (.cons (.one .sl0 rfl) q)))
theorem CallD.nilD2 {f : FuncId} {s r x : AV} {xs : List AV} {g g' : Hp} (hc : CallD Try.prog f (x :: .agg [s, .sl 8 [], .sl 4 []] :: xs) g r g') : CallD Try.prog f (x :: .agg [s, .raw (.slice none 0 0), .raw (.slice none 0 0)] :: xs) g r g' := by
  intro C vs hh hv
  refine hc C vs hh ?_
  cases hv with
  | cons a0 hv => cases hv with
    | cons a b =>
      refine .cons a0 (.cons ?_ b)
      cases a with
      | agg q => cases q with
        | cons a1 q => cases q with
          | cons a2 q => cases q with
            | cons a3 q => cases a2 with
              | one a2 _ => cases a3 with
                | one a3 _ =>
                  rw [RV.raw_eq a2, RV.raw_eq a3]
                  exact .agg (.cons a1 (.cons (.one .sl0 rfl) (.cons (.one .sl0 rfl) q)))
def l14 : List Int := [98, 112, 49, 1, 112, 0, 0]
def pD : DefV := ⟨⟨#[112]⟩, [], []⟩
theorem c_live14 : CallD Try.prog 6 [] noHeap (.raw (.bool true)) noHeap := by
  have k1 := c_WPut pD ⟨by decide, by simp [pD], by simp [pD], by simp [pD], by simp [pD]⟩
  rw [show putD pD = (l14, 0) by decide +kernel] at k1
  have k2 := c_wTakeD l14 (by unfold IsB l14; decide) (by decide)
  rw [show takeD l14 = (pD, .ok) by decide +kernel] at k2
  rw [show bytAV (l14, (0 : Int)).1 = .sl 1 (u8s l14) from rfl] at k1
  simp only [pD, errK, errO_none, List.map_nil] at k1 k2
  replace k1 := CallD.nilD k1
  rw [show u8s l14 = [.raw (.int .u8 98), .raw (.int .u8 112), .raw (.int .u8 49), .raw (.int .u8 1), .raw (.int .u8 112), .raw (.int .u8 0), .raw (.int .u8 0)] from rfl] at k1 k2
  refine zzg (nt := 32) (rs := [.tmp 0]) Try.func6 ?_; intro Q hQ hW
  repeat' (first
 | (with_reducible refine run_n ?_; with_reducible first | refine hK _ _ (by simp) ?_ | refine hK _ _ ?_; clear hK K)
 | (refine zzc ?_)
 | (with_reducible refine awp_regT (by kernel_rfl) ?_; intro K hK)
 | (with_reducible refine a_cond (ht := ?_) (hf := ?_) <;> intro hb <;> (try simp at hb) <;> (try contradiction) <;> (try subst hb) <;> (try omega))
 | (with_reducible first | refine a_move (hr:=?_) | refine a_assign (hr:=?_) | refine a_load (hr:=?_) | refine a_fieldAddr (hr:=?_) | refine a_bin (hr:=?_) | refine a_extract (hr:=?_) | refine a_pick (hr:=?_) | refine a_store (hr:=?_) | refine a_alloc (hr:=?_) | refine a_eqI (hr:=?_) | refine a_neI (hr:=?_) | refine a_eqB (hr:=?_) | refine a_conv (hr:=?_) | refine a_bytesStr (hr:=?_) | refine a_strBytes (hr:=?_) | refine a_sameSl (hr:=?_) | refine a_eqS (hr:=?_) | refine a_build (hr:=?_) | refine a_buildSlice (hr:=?_) | refine a_callF (hcall := k1) (hr:=?_) | refine a_callF (hcall := k2) (hr:=?_) | refine a_gT (hr:=?_) | refine a_gF (hr:=?_) | refine a_gU (hr:=?_))
 | (with_reducible refine a_gB (hT := ?_) (hF := ?_) <;> intro hb <;> (try simp at hb) <;> (try contradiction) <;> (try subst hb) <;> (try omega))
 | fail)
  all_goals ((refine zzr hQ ?_))
  all_goals (exact zzd)
theorem few_sm {d : DefV} (h : fewD d = true) (hk : ∀ n ∈ d.ns, (-9223372036854775808 ≤ n.kd ∧ n.kd < 9223372036854775808) ∧ (-9223372036854775808 ≤ n.up ∧ n.up < 9223372036854775808) ∧ (-9223372036854775808 ≤ n.at_ ∧ n.at_ < 9223372036854775808)) (hf : ∀ f ∈ d.fs, (-9223372036854775808 ≤ f.fr ∧ f.fr < 9223372036854775808) ∧ (-9223372036854775808 ≤ f.to ∧ f.to < 9223372036854775808)) : SmD d ∧ d.ns.length ≤ 60 ∧ d.fs.length ≤ 120 := by
  simp only [fewD, Bool.and_eq_true, List.all_eq_true, decide_eq_true_eq] at h
  obtain ⟨h1, h2, h3⟩ := h
  refine ⟨⟨by omega, fun n hn => ?_, fun f hf' => ?_, by omega, by omega⟩, by omega, by omega⟩
  · have a := h1 n hn
    simp only [fewN, decide_eq_true_eq] at a
    have b := hk n hn
    exact ⟨by omega, by omega, by omega, by omega, b.1, b.2.1, b.2.2⟩
  · have a := h2 f hf'
    simp only [fewF, decide_eq_true_eq] at a
    have b := hf f hf'
    exact ⟨by omega, b.1, b.2⟩
structure InD (d : DefV) : Prop where
  n : ∀ n ∈ d.ns, (-9223372036854775808 ≤ n.kd ∧ n.kd < 9223372036854775808) ∧ (-9223372036854775808 ≤ n.up ∧ n.up < 9223372036854775808) ∧ (-9223372036854775808 ≤ n.at_ ∧ n.at_ < 9223372036854775808)
  f : ∀ f ∈ d.fs, (-9223372036854775808 ≤ f.fr ∧ f.fr < 9223372036854775808) ∧ (-9223372036854775808 ≤ f.to ∧ f.to < 9223372036854775808)
  ln : d.ns.length < 9223372036854775808
  lf : d.fs.length < 9223372036854775808
theorem put_no {d : DefV} (h0 : (putD d).2 ≠ 0) : (putD d).1 = [] := by
  unfold putD at h0 ⊢
  by_cases h1 : (40 < d.ns.length ∨ 80 < d.fs.length) ∨ longD d = true
  · rw [if_pos h1]
  · rw [if_neg h1] at h0 ⊢
    by_cases h2 : argD d = true
    · rw [if_pos h2]
    · rw [if_neg h2] at h0; exact absurd rfl h0
theorem flat_len {α : Type} {f : α → List Int} {k : Nat} : ∀ (l : List α), (∀ n ∈ l, (f n).length ≤ k) → (l.flatMap f).length ≤ k * l.length
  | [], _ => by simp
  | n :: l, hh => by
    have a := hh n List.mem_cons_self
    have b := flat_len l fun x hx => hh x (List.mem_cons_of_mem _ hx)
    rw [List.flatMap_cons, List.length_append, List.length_cons, Nat.mul_succ]; omega
theorem flat_isB {α : Type} {f : α → List Int} : ∀ (l : List α), (∀ n ∈ l, IsB (f n)) → IsB (l.flatMap f)
  | [], _ => isB_nil
  | n :: l, hh => by
    rw [List.flatMap_cons]
    exact isB_app.2 ⟨hh n List.mem_cons_self, flat_isB l fun x hx => hh x (List.mem_cons_of_mem _ hx)⟩
theorem nodeL_isB {n : NodeV} (h : okNd n) : IsB (nodeL n) := by
  rw [nodeL_E h]; exact codN.isB _ ⟨okNd_iff.1 h, bit_dec _⟩
theorem flowL_isB {n : FlowV} (h : okFl n) : IsB (flowL n) := by
  rw [flowL_E]; exact codF.isB _ ⟨okFl_iff.1 h, bit_dec _⟩
theorem defL_isB {d : DefV} (h : OkD d) : IsB (defL d) := by
  have a := h.nm
  have b := h.ln
  have c := h.lf
  refine isB_app.2 ⟨by unfold IsB magicL; decide, isB_app.2 ⟨(codT (most := 128) (by decide) (by decide)).isB _ (show (d.nm.size : Int) ≤ 128 by omega), isB_app.2 ⟨(codU (most := 255) (by decide)).isB _ (show 0 ≤ (d.ns.length : Int) ∧ (d.ns.length : Int) ≤ 255 by omega), isB_app.2 ⟨flat_isB _ fun n hn => nodeL_isB (h.n n hn), isB_app.2 ⟨(codU (most := 255) (by decide)).isB _ (show 0 ≤ (d.fs.length : Int) ∧ (d.fs.length : Int) ≤ 255 by omega), flat_isB _ fun n hn => flowL_isB (h.f n hn)⟩⟩⟩⟩⟩
theorem okD_arg {d : DefV} (h : OkD d) : argD d = false := by
  unfold argD
  simp only [Bool.or_eq_false_iff, List.any_eq_false, Bool.not_eq_true]
  exact ⟨fun n hn => (h.n n hn).1, fun n hn => (h.f n hn).1⟩
theorem defL_len {d : DefV} (h : OkD d) (hs : SmD d) : (defL d).length ≤ 2000000 := by
  have b := h.ln
  have c := h.lf
  rw [← endR_ok (okD_arg h) (by omega) (by omega)]
  unfold endR
  have a1 := txtL_len d.nm
  have a2 := numR_len d.ns.length
  have a3 := numR_len d.fs.length
  have hnm := hs.nm
  have g1 := flat_len (f := nodeR) (k := 5000) d.ns fun n hn => nodeR_len (hs.n n hn)
  have g2 := flat_len (f := flowR) (k := 5000) d.fs fun n hn => flowR_len (hs.f n hn)
  have em : magicL.length = 3 := rfl
  generalize txtL d.nm = x1 at *
  generalize numR d.ns.length = x2 at *
  generalize numR d.fs.length = x3 at *
  generalize d.ns.flatMap nodeR = x4 at *
  generalize d.fs.flatMap flowR = x5 at *
  simp only [List.length_append]
  omega
theorem okD_sm {d : DefV} (h : OkD d) : SmD d := by
  have a := h.nm
  have b := h.ln
  have c := h.lf
  refine ⟨by omega, fun n hn => ?_, fun f hf => ?_, by omega, by omega⟩
  · obtain ⟨h1, h2⟩ := h.n n hn
    unfold argN at h1
    unfold longN at h2
    simp only [Bool.or_eq_false_iff, decide_eq_false_iff_not] at h1 h2
    exact ⟨by omega, by omega, by omega, by omega, by omega, by omega, by omega⟩
  · obtain ⟨h1, h2⟩ := h.f f hf
    unfold argF at h1
    unfold longF at h2
    simp only [Bool.or_eq_false_iff, decide_eq_false_iff_not] at h1 h2
    exact ⟨by omega, by omega, by omega⟩
theorem CallD.nil2 {f : FuncId} {r : AV} {g g' : Hp} {k : Nat} (hc : CallD Try.prog f [.sl k [], .sl k []] g r g') : CallD Try.prog f [.raw (.slice none 0 0), .raw (.slice none 0 0)] g r g' := by
  intro C vs hh hv
  refine hc C vs hh ?_
  cases hv with
  | cons a0 hv => cases hv with
    | cons a1 b => exact .cons a0.nilsl (.cons a1.nilsl b)
theorem law_WirePuts (d : DefV) (hd : InD d) : CallD Try.prog 3 [defAV d] noHeap (.raw (.bool true)) noHeap := by
  have hlv := c_live14
  have f1 := c_Few13 d hd.ln hd.lf
  cases hB : fewD d with
  | false =>
    rw [hB] at f1
    refine zzg (nt := 33) (rs := [.tmp 2]) Try.func3 ?_; intro Q hQ hW
    repeat' (first
 | (with_reducible refine run_n ?_; with_reducible first | refine hK _ _ (by simp) ?_ | refine hK _ _ ?_; clear hK K)
 | (refine zzc ?_)
 | (with_reducible refine awp_regT (by kernel_rfl) ?_; intro K hK)
 | (with_reducible refine a_cond (ht := ?_) (hf := ?_) <;> intro hb <;> (try simp at hb) <;> (try contradiction) <;> (try subst hb) <;> (try omega))
 | (with_reducible first | refine a_move (hr:=?_) | refine a_assign (hr:=?_) | refine a_load (hr:=?_) | refine a_bin (hr:=?_) | refine a_extract (hr:=?_) | refine a_pick (hr:=?_) | refine a_un (hr:=?_) | refine a_box (hr:=?_) | refine a_eqB (hr:=?_) | refine a_eqS (hr:=?_) | refine a_call0 (hcall := hlv) (hr:=?_) | refine a_callF (hcall := f1) (hr:=?_) | refine a_gT (hr:=?_) | refine a_gF (hr:=?_) | refine a_gU (hr:=?_))
 | (with_reducible refine a_gB (hT := ?_) (hF := ?_) <;> intro hb <;> (try simp at hb) <;> (try contradiction) <;> (try subst hb) <;> (try omega))
 | fail)
    all_goals ((refine zzr hQ ?_))
    all_goals (exact zzd)
  | true =>
    rw [hB] at f1
    obtain ⟨h1, h2, h3⟩ := few_sm hB hd.n hd.f
    have k1 := c_WPut d h1
    have k2 := c_r14Put d h1 (by omega) (by omega)
    by_cases h0 : (putD d).2 = 0
    · obtain ⟨ho, he⟩ := put_ok h0
      have hl := defL_len ho h1
      have k3 := c_rEqualT (defL d) (by omega) (defL_isB ho)
      rw [h0, he, bytAV_def] at k1 k2
      refine zzg (nt := 33) (rs := [.tmp 2]) Try.func3 ?_; intro Q hQ hW
      repeat' (first
 | (with_reducible refine run_n ?_; with_reducible first | refine hK _ _ (by simp) ?_ | refine hK _ _ ?_; clear hK K)
 | (refine zzc ?_)
 | (with_reducible refine awp_regT (by kernel_rfl) ?_; intro K hK)
 | (with_reducible refine a_cond (ht := ?_) (hf := ?_) <;> intro hb <;> (try simp at hb) <;> (try contradiction) <;> (try subst hb) <;> (try omega))
 | (with_reducible first | refine a_move (hr:=?_) | refine a_assign (hr:=?_) | refine a_load (hr:=?_) | refine a_bin (hr:=?_) | refine a_extract (hr:=?_) | refine a_pick (hr:=?_) | refine a_un (hr:=?_) | refine a_box (hr:=?_) | refine a_eqB (hr:=?_) | refine a_eqS (hr:=?_) | refine a_call0 (hcall := hlv) (hr:=?_) | refine a_callF (hcall := f1) (hr:=?_) | refine a_callF (hcall := k1) (hr:=?_) | refine a_callF (hcall := k2) (hr:=?_) | refine a_callF (hcall := k3) (hr:=?_) | refine a_gT (hr:=?_) | refine a_gF (hr:=?_) | refine a_gU (hr:=?_))
 | (with_reducible refine a_gB (hT := ?_) (hF := ?_) <;> intro hb <;> (try simp at hb) <;> (try contradiction) <;> (try subst hb) <;> (try omega))
 | fail)
      all_goals ((refine zzr hQ ?_))
      all_goals (exact zzd)
    · have k3 := CallD.nil2 (c_rEqualT [] (by simp) isB_nil)
      rw [put_no h0, bytAV_nil] at k1 k2
      generalize (putD d).2 = e at *
      refine zzg (nt := 33) (rs := [.tmp 2]) Try.func3 ?_; intro Q hQ hW
      repeat' (first
 | (with_reducible refine run_n ?_; with_reducible first | refine hK _ _ (by simp) ?_ | refine hK _ _ ?_; clear hK K)
 | (refine zzc ?_)
 | (with_reducible refine awp_regT (by kernel_rfl) ?_; intro K hK)
 | (with_reducible refine a_cond (ht := ?_) (hf := ?_) <;> intro hb <;> (try simp at hb) <;> (try contradiction) <;> (try subst hb) <;> (try omega))
 | (with_reducible first | refine a_move (hr:=?_) | refine a_assign (hr:=?_) | refine a_load (hr:=?_) | refine a_bin (hr:=?_) | refine a_extract (hr:=?_) | refine a_pick (hr:=?_) | refine a_un (hr:=?_) | refine a_box (hr:=?_) | refine a_eqB (hr:=?_) | refine a_eqS (hr:=?_) | refine a_call0 (hcall := hlv) (hr:=?_) | refine a_callF (hcall := f1) (hr:=?_) | refine a_callF (hcall := k1) (hr:=?_) | refine a_callF (hcall := k2) (hr:=?_) | refine a_callF (hcall := k3) (hr:=?_) | refine a_gT (hr:=?_) | refine a_gF (hr:=?_) | refine a_gU (hr:=?_))
 | (with_reducible refine a_gB (hT := ?_) (hF := ?_) <;> intro hb <;> (try simp at hb) <;> (try contradiction) <;> (try subst hb) <;> (try omega))
 | fail)
      all_goals ((refine zzr hQ ?_))
      all_goals (exact zzd)
theorem law_WireBack (d : DefV) (hd : InD d) : CallD Try.prog 4 [defAV d] noHeap (.raw (.bool true)) noHeap := by
  have hlv := c_live14
  have f1 := c_Few13 d hd.ln hd.lf
  cases hB : fewD d with
  | false =>
    rw [hB] at f1
    refine zzg (nt := 37) (rs := [.tmp 2]) Try.func4 ?_; intro Q hQ hW
    repeat' (first
 | (with_reducible refine run_n ?_; with_reducible first | refine hK _ _ (by simp) ?_ | refine hK _ _ ?_; clear hK K)
 | (refine zzc ?_)
 | (with_reducible refine awp_regT (by kernel_rfl) ?_; intro K hK)
 | (with_reducible refine a_cond (ht := ?_) (hf := ?_) <;> intro hb <;> (try simp at hb) <;> (try contradiction) <;> (try subst hb) <;> (try omega))
 | (with_reducible first | refine a_move (hr:=?_) | refine a_assign (hr:=?_) | refine a_load (hr:=?_) | refine a_bin (hr:=?_) | refine a_lenS (hr:=?_) | refine a_lenR (hr:=?_) | refine a_extract (hr:=?_) | refine a_pick (hr:=?_) | refine a_un (hr:=?_) | refine a_store (hr:=?_) | refine a_box (hr:=?_) | refine a_alloc (hr:=?_) | refine a_eqI (hr:=?_) | refine a_neI (hr:=?_) | refine a_eqB (hr:=?_) | refine a_neB (hr:=?_) | refine a_eqS (hr:=?_) | refine a_neS (hr:=?_) | refine a_call0 (hcall := hlv) (hr:=?_) | refine a_callF (hcall := f1) (hr:=?_) | refine a_gT (hr:=?_) | refine a_gF (hr:=?_) | refine a_gU (hr:=?_))
 | (with_reducible refine a_gB (hT := ?_) (hF := ?_) <;> intro hb <;> (try simp at hb) <;> (try contradiction) <;> (try subst hb) <;> (try omega))
 | fail)
    all_goals ((refine zzr hQ ?_))
    all_goals (exact zzd)
  | true =>
    rw [hB] at f1
    obtain ⟨h1, h2, h3⟩ := few_sm hB hd.n hd.f
    have k1 := c_WPut d h1
    by_cases h0 : (putD d).2 = 0
    · obtain ⟨ho, he⟩ := put_ok h0
      have hl := defL_len ho h1
      rw [h0, he, bytAV_def] at k1
      have k2 := c_wTakeD (defL d) (defL_isB ho) (by omega)
      have ht := take_more ho []
      rw [List.append_nil, if_pos rfl] at ht
      rw [ht] at k2
      simp only [errK, errO_none] at k2
      have k3 := c_r13Same d d hd.ln hd.ln hd.lf hd.lf
      rw [decide_eq_true rfl] at k3
      refine zzg (nt := 37) (rs := [.tmp 2]) Try.func4 ?_; intro Q hQ hW
      repeat' (first
 | (with_reducible refine run_n ?_; with_reducible first | refine hK _ _ (by simp) ?_ | refine hK _ _ ?_; clear hK K)
 | (refine zzc ?_)
 | (with_reducible refine awp_regT (by kernel_rfl) ?_; intro K hK)
 | (with_reducible refine a_cond (ht := ?_) (hf := ?_) <;> intro hb <;> (try simp at hb) <;> (try contradiction) <;> (try subst hb) <;> (try omega))
 | (with_reducible first | refine a_move (hr:=?_) | refine a_assign (hr:=?_) | refine a_load (hr:=?_) | refine a_bin (hr:=?_) | refine a_lenS (hr:=?_) | refine a_lenR (hr:=?_) | refine a_extract (hr:=?_) | refine a_pick (hr:=?_) | refine a_un (hr:=?_) | refine a_store (hr:=?_) | refine a_box (hr:=?_) | refine a_alloc (hr:=?_) | refine a_eqI (hr:=?_) | refine a_neI (hr:=?_) | refine a_eqB (hr:=?_) | refine a_neB (hr:=?_) | refine a_eqS (hr:=?_) | refine a_neS (hr:=?_) | refine a_call0 (hcall := hlv) (hr:=?_) | refine a_callF (hcall := f1) (hr:=?_) | refine a_callF (hcall := k1) (hr:=?_) | refine a_callF (hcall := k2) (hr:=?_) | refine a_callF (hcall := k3) (hr:=?_) | refine a_gT (hr:=?_) | refine a_gF (hr:=?_) | refine a_gU (hr:=?_))
 | (with_reducible refine a_gB (hT := ?_) (hF := ?_) <;> intro hb <;> (try simp at hb) <;> (try contradiction) <;> (try subst hb) <;> (try omega))
 | fail)
      all_goals ((refine zzr hQ ?_))
      all_goals (exact zzd)
    · rw [put_no h0, bytAV_nil] at k1
      generalize (putD d).2 = e at *
      refine zzg (nt := 37) (rs := [.tmp 2]) Try.func4 ?_; intro Q hQ hW
      repeat' (first
 | (with_reducible refine run_n ?_; with_reducible first | refine hK _ _ (by simp) ?_ | refine hK _ _ ?_; clear hK K)
 | (refine zzc ?_)
 | (with_reducible refine awp_regT (by kernel_rfl) ?_; intro K hK)
 | (with_reducible refine a_cond (ht := ?_) (hf := ?_) <;> intro hb <;> (try simp at hb) <;> (try contradiction) <;> (try subst hb) <;> (try omega))
 | (with_reducible first | refine a_move (hr:=?_) | refine a_assign (hr:=?_) | refine a_load (hr:=?_) | refine a_bin (hr:=?_) | refine a_lenS (hr:=?_) | refine a_lenR (hr:=?_) | refine a_extract (hr:=?_) | refine a_pick (hr:=?_) | refine a_un (hr:=?_) | refine a_store (hr:=?_) | refine a_box (hr:=?_) | refine a_alloc (hr:=?_) | refine a_eqI (hr:=?_) | refine a_neI (hr:=?_) | refine a_eqB (hr:=?_) | refine a_neB (hr:=?_) | refine a_eqS (hr:=?_) | refine a_neS (hr:=?_) | refine a_call0 (hcall := hlv) (hr:=?_) | refine a_callF (hcall := f1) (hr:=?_) | refine a_callF (hcall := k1) (hr:=?_) | refine a_gT (hr:=?_) | refine a_gF (hr:=?_) | refine a_gU (hr:=?_))
 | (with_reducible refine a_gB (hT := ?_) (hF := ?_) <;> intro hb <;> (try simp at hb) <;> (try contradiction) <;> (try subst hb) <;> (try omega))
 | fail)
      all_goals ((refine zzr hQ ?_))
      all_goals (exact zzd)
theorem errK_no {k : TkE} (h : k ≠ .ok) : ∃ e, errK k = some e := by
  rcases k with _ | ⟨a, i, c⟩ | _
  · exact absurd rfl h
  · rcases a with _ | _ | _ | _ | a <;> exact ⟨_, rfl⟩
  · exact ⟨_, rfl⟩
theorem takeD_no {l : List Int} {d : DefV} {k : TkE} (h : takeD l = (d, k)) (hk : k ≠ .ok) : d = DefV.z := by
  rw [takeD_tk] at h
  split at h
  · exact (congrArg Prod.fst h).symm
  split at h
  · exact (congrArg Prod.fst h).symm
  split at h
  · exact (congrArg Prod.fst h).symm
  unfold tkNd at h
  split at h
  · exact (congrArg Prod.fst h).symm
  split at h
  · exact (congrArg Prod.fst h).symm
  unfold tkFl at h
  split at h
  · exact (congrArg Prod.fst h).symm
  split at h
  · exact absurd (congrArg Prod.snd h).symm hk
  · exact (congrArg Prod.fst h).symm
theorem law_WireOnce (l : List Int) (hB : IsB l) (hl : l.length < 9223372036854775808) : CallD Try.prog 5 [.sl 1 (u8s l)] noHeap (.raw (.bool true)) noHeap := by
  have hlv := c_live14
  by_cases hb : (l.length : Int) > 65536
  · refine zzg (nt := 37) (rs := [.tmp 2]) Try.func5 ?_; intro Q hQ hW
    repeat' (first
 | (with_reducible refine run_n ?_; with_reducible first | refine hK _ _ (by simp) ?_ | refine hK _ _ ?_; clear hK K)
 | (refine zzc ?_)
 | (with_reducible refine awp_regT (by kernel_rfl) ?_; intro K hK)
 | (with_reducible refine a_cond (ht := ?_) (hf := ?_) <;> intro hb <;> (try simp at hb) <;> (try contradiction) <;> (try subst hb) <;> (try omega))
 | (with_reducible first | refine a_move (hr:=?_) | refine a_assign (hr:=?_) | refine a_load (hr:=?_) | refine a_bin (hr:=?_) | refine a_lenS (hr:=?_) | refine a_lenR (hr:=?_) | refine a_extract (hr:=?_) | refine a_pick (hr:=?_) | refine a_un (hr:=?_) | refine a_store (hr:=?_) | refine a_alloc (hr:=?_) | refine a_eqI (hr:=?_) | refine a_neI (hr:=?_) | refine a_eqB (hr:=?_) | refine a_neB (hr:=?_) | refine a_eqS (hr:=?_) | refine a_neS (hr:=?_) | refine a_build (hr:=?_) | refine a_call0 (hcall := hlv) (hr:=?_) | refine a_gT (hr:=?_) | refine a_gF (hr:=?_) | refine a_gU (hr:=?_))
 | (with_reducible refine a_gB (hT := ?_) (hF := ?_) <;> intro hb <;> (try simp at hb) <;> (try contradiction) <;> (try subst hb) <;> (try omega))
 | fail)
    all_goals ((refine zzr hQ ?_))
    all_goals (exact zzd)
  · have k1 := c_wTakeD l hB (by omega)
    obtain ⟨d, k, hk⟩ : ∃ d k, takeD l = (d, k) := ⟨_, _, rfl⟩
    rw [hk] at k1
    by_cases h0 : k = .ok
    · subst h0
      obtain ⟨ho, he⟩ := take_form hB hk
      simp only [errK, errO_none] at k1
      have k2 := c_WPut d (okD_sm ho)
      rw [ok_put ho, bytAV_def, ← he] at k2
      have k3 := c_rEqualT l (by omega) hB
      clear he ho hk
      refine zzg (nt := 37) (rs := [.tmp 2]) Try.func5 ?_; intro Q hQ hW
      repeat' (first
 | (with_reducible refine run_n ?_; with_reducible first | refine hK _ _ (by simp) ?_ | refine hK _ _ ?_; clear hK K)
 | (refine zzc ?_)
 | (with_reducible refine awp_regT (by kernel_rfl) ?_; intro K hK)
 | (with_reducible refine a_cond (ht := ?_) (hf := ?_) <;> intro hb <;> (try simp at hb) <;> (try contradiction) <;> (try subst hb) <;> (try omega))
 | (with_reducible first | refine a_move (hr:=?_) | refine a_assign (hr:=?_) | refine a_load (hr:=?_) | refine a_bin (hr:=?_) | refine a_lenS (hr:=?_) | refine a_lenR (hr:=?_) | refine a_extract (hr:=?_) | refine a_pick (hr:=?_) | refine a_un (hr:=?_) | refine a_store (hr:=?_) | refine a_alloc (hr:=?_) | refine a_eqI (hr:=?_) | refine a_neI (hr:=?_) | refine a_eqB (hr:=?_) | refine a_neB (hr:=?_) | refine a_eqS (hr:=?_) | refine a_neS (hr:=?_) | refine a_build (hr:=?_) | refine a_call0 (hcall := hlv) (hr:=?_) | refine a_callF (hcall := k1) (hr:=?_) | refine a_callF (hcall := k2) (hr:=?_) | refine a_callF (hcall := k3) (hr:=?_) | refine a_gT (hr:=?_) | refine a_gF (hr:=?_) | refine a_gU (hr:=?_))
 | (with_reducible refine a_gB (hT := ?_) (hF := ?_) <;> intro hb <;> (try simp at hb) <;> (try contradiction) <;> (try subst hb) <;> (try omega))
 | fail)
      all_goals ((refine zzr hQ ?_))
      all_goals (exact zzd)
    · have hz := takeD_no hk h0
      subst hz
      obtain ⟨e, he⟩ := errK_no h0
      rw [he] at k1
      have k3 := c_r13Same DefV.z DefV.z (by simp [DefV.z]) (by simp [DefV.z]) (by simp [DefV.z]) (by simp [DefV.z])
      rw [decide_eq_true rfl] at k3
      simp only [errO_some] at k1
      simp only [DefV.z, List.map_nil] at k1 k3
      replace k3 : CallD Try.prog 12 [.agg [.raw (.string ⟨#[]⟩), .sl 8 [], .sl 4 []], .agg [.raw (.string ⟨#[]⟩), .raw (.slice none 0 0), .raw (.slice none 0 0)]] noHeap (.raw (.bool true)) noHeap := CallD.nilD2 k3
      clear hk he h0
      refine zzg (nt := 37) (rs := [.tmp 2]) Try.func5 ?_; intro Q hQ hW
      repeat' (first
 | (with_reducible refine run_n ?_; with_reducible first | refine hK _ _ (by simp) ?_ | refine hK _ _ ?_; clear hK K)
 | (refine zzc ?_)
 | (with_reducible refine awp_regT (by kernel_rfl) ?_; intro K hK)
 | (with_reducible refine a_cond (ht := ?_) (hf := ?_) <;> intro hb <;> (try simp at hb) <;> (try contradiction) <;> (try subst hb) <;> (try omega))
 | (with_reducible first | refine a_move (hr:=?_) | refine a_assign (hr:=?_) | refine a_load (hr:=?_) | refine a_bin (hr:=?_) | refine a_lenS (hr:=?_) | refine a_lenR (hr:=?_) | refine a_extract (hr:=?_) | refine a_pick (hr:=?_) | refine a_un (hr:=?_) | refine a_store (hr:=?_) | refine a_alloc (hr:=?_) | refine a_eqI (hr:=?_) | refine a_neI (hr:=?_) | refine a_eqB (hr:=?_) | refine a_neB (hr:=?_) | refine a_eqS (hr:=?_) | refine a_neS (hr:=?_) | refine a_build (hr:=?_) | refine a_call0 (hcall := hlv) (hr:=?_) | refine a_callF (hcall := k1) (hr:=?_) | refine a_callF (hcall := k3) (hr:=?_) | refine a_gT (hr:=?_) | refine a_gF (hr:=?_) | refine a_gU (hr:=?_))
 | (with_reducible refine a_gB (hT := ?_) (hF := ?_) <;> intro hb <;> (try simp at hb) <;> (try contradiction) <;> (try subst hb) <;> (try omega))
 | fail)
      all_goals ((refine zzr hQ ?_))
      all_goals (exact zzd)
/-! rows -/
abbrev NTp := Int × ByteArray × Int × ByteArray × ByteArray × ByteArray × Int × Bool
abbrev FTp := Int × Int × ByteArray × Bool
def nof (x : NTp) : NodeV := ⟨x.1, x.2.1, x.2.2.1, x.2.2.2.1, x.2.2.2.2.1, x.2.2.2.2.2.1, x.2.2.2.2.2.2.1, x.2.2.2.2.2.2.2⟩
def fof (x : FTp) : FlowV := ⟨x.1, x.2.1, x.2.2.1, x.2.2.2⟩
def dof (x : ByteArray × List NTp × List FTp) : DefV := ⟨x.1, x.2.1.map nof, x.2.2.map fof⟩
def inRg (n : Int) : Prop := -9223372036854775808 ≤ n ∧ n < 9223372036854775808
theorem dof_av (x : ByteArray × List NTp × List FTp) : defAV (dof x) = .agg [.raw (.string x.1), .sl 8 (x.2.1.map fun y => nodeAV (nof y)), .sl 4 (x.2.2.map fun y => flowAV (fof y))] := by
  simp only [defAV, dof, List.map_map]; rfl
theorem dof_in {x : ByteArray × List NTp × List FTp} (hln : x.2.1.length < 9223372036854775808) (hlf : x.2.2.length < 9223372036854775808) (hn : ∀ y ∈ x.2.1, inRg y.1 ∧ inRg y.2.2.1 ∧ inRg y.2.2.2.2.2.2.1) (hf : ∀ y ∈ x.2.2, inRg y.1 ∧ inRg y.2.1) : InD (dof x) := by
  refine ⟨fun n h => ?_, fun f h => ?_, by simpa [dof] using hln, by simpa [dof] using hlf⟩
  · obtain ⟨y, hy, rfl⟩ := List.mem_map.1 h
    exact hn y hy
  · obtain ⟨y, hy, rfl⟩ := List.mem_map.1 h
    exact hf y hy
theorem row_WirePuts (x : ByteArray × List NTp × List FTp) (hln : x.2.1.length < 9223372036854775808) (hlf : x.2.2.length < 9223372036854775808) (hn : ∀ y ∈ x.2.1, inRg y.1 ∧ inRg y.2.2.1 ∧ inRg y.2.2.2.2.2.2.1) (hf : ∀ y ∈ x.2.2, inRg y.1 ∧ inRg y.2.1) : CallD Try.prog 3 [.agg [.raw (.string x.1), .sl 8 (x.2.1.map fun y => nodeAV (nof y)), .sl 4 (x.2.2.map fun y => flowAV (fof y))]] noHeap (.raw (.bool true)) noHeap := by
  have := law_WirePuts (dof x) (dof_in hln hlf hn hf)
  rwa [dof_av] at this
theorem row_WireBack (x : ByteArray × List NTp × List FTp) (hln : x.2.1.length < 9223372036854775808) (hlf : x.2.2.length < 9223372036854775808) (hn : ∀ y ∈ x.2.1, inRg y.1 ∧ inRg y.2.2.1 ∧ inRg y.2.2.2.2.2.2.1) (hf : ∀ y ∈ x.2.2, inRg y.1 ∧ inRg y.2.1) : CallD Try.prog 4 [.agg [.raw (.string x.1), .sl 8 (x.2.1.map fun y => nodeAV (nof y)), .sl 4 (x.2.2.map fun y => flowAV (fof y))]] noHeap (.raw (.bool true)) noHeap := by
  have := law_WireBack (dof x) (dof_in hln hlf hn hf)
  rwa [dof_av] at this
end Go.Proofs.Ytejeemhenoobjaa.Asl

