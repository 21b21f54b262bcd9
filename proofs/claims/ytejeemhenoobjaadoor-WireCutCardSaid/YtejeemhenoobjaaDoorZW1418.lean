/- Part 18 of what the row leans on: abstract values and states, their rules, and the contracts of the functions. -/
import Derived.Test.YtejeemhenoobjaaDoorZW1417
namespace Go.Proofs.YtejeemhenoobjaaDoor.Asl
open Go Go.RowKit
open Go.Proofs.YtejeemhenoobjaaDoor.Errs (EV)
set_option linter.unusedVariables false
set_option linter.unusedSimpArgs false
set_option maxRecDepth 100000
set_option maxHeartbeats 8000000
theorem CallD.nilD {f : FuncId} {s r : AV} {xs : List AV} {g g' : Hp} (hc : CallD Tryd.prog f (.agg [s, .sl 8 [], .sl 4 []] :: xs) g r g') : CallD Tryd.prog f (.agg [s, .raw (.slice none 0 0), .raw (.slice none 0 0)] :: xs) g r g' := by
  intro C vs hh hv
  refine hc C vs hh ?_
  cases hv with
  | cons a b =>
    refine .cons ?_ b
    cases a with
    | agg q => cases q with
      | cons a1 q => cases q with
        | cons a2 q => cases q with
          | cons a3 q => cases a2 with
            | one a2 _ => cases a3 with
              | one a3 _ =>
                rw [RV.raw_eq a2, RV.raw_eq a3]
                exact .agg (.cons a1 (.cons (.one .sl0 rfl) (.cons (.one .sl0 rfl) q)))
def l14 : List Int := [98, 112, 49, 1, 112, 0, 0]
def pD : DefV := ⟨⟨#[112]⟩, [], []⟩
theorem c_live14 : CallD Tryd.prog 5 [] noHeap (.raw (.bool true)) noHeap := by
  have k1 := c_WPut pD ⟨by decide, by simp [pD], by simp [pD], by simp [pD], by simp [pD]⟩
  rw [show putD pD = (l14, 0) by decide +kernel] at k1
  have k2 := c_wTakeD l14 (by unfold IsB l14; decide) (by decide)
  rw [show takeD l14 = (pD, .ok) by decide +kernel] at k2
  rw [show bytAV (l14, (0 : Int)).1 = .sl 1 (u8s l14) from rfl] at k1
  simp only [pD, errK, errO_none, List.map_nil] at k1 k2
  replace k1 := CallD.nilD k1
  rw [show u8s l14 = [.raw (.int .u8 98), .raw (.int .u8 112), .raw (.int .u8 49), .raw (.int .u8 1), .raw (.int .u8 112), .raw (.int .u8 0), .raw (.int .u8 0)] from rfl] at k1 k2
  refine zzg (nt := 32) (rs := [.tmp 0]) Tryd.func5 ?_; intro Q hQ hW
  repeat' (first
 | (with_reducible refine run_n ?_; with_reducible first | refine hK _ _ (by simp) ?_ | refine hK _ _ ?_; clear hK K)
 | (refine zzc ?_)
 | (with_reducible refine awp_regT (by kernel_rfl) ?_; intro K hK)
 | (with_reducible refine a_cond (ht := ?_) (hf := ?_) <;> intro hb <;> (try simp at hb) <;> (try contradiction) <;> (try subst hb) <;> (try omega))
 | (with_reducible first | refine a_move (hr:=?_) | refine a_assign (hr:=?_) | refine a_load (hr:=?_) | refine a_fieldAddr (hr:=?_) | refine a_bin (hr:=?_) | refine a_extract (hr:=?_) | refine a_pick (hr:=?_) | refine a_store (hr:=?_) | refine a_alloc (hr:=?_) | refine a_eqI (hr:=?_) | refine a_neI (hr:=?_) | refine a_eqB (hr:=?_) | refine a_conv (hr:=?_) | refine a_bytesStr (hr:=?_) | refine a_strBytes (hr:=?_) | refine a_sameSl (hr:=?_) | refine a_eqS (hr:=?_) | refine a_build (hr:=?_) | refine a_buildSlice (hr:=?_) | refine a_callF (hcall := k1) (hr:=?_) | refine a_callF (hcall := k2) (hr:=?_) | refine a_gT (hr:=?_) | refine a_gF (hr:=?_) | refine a_gU (hr:=?_))
 | (with_reducible refine a_gB (hT := ?_) (hF := ?_) <;> intro hb <;> (try simp at hb) <;> (try contradiction) <;> (try subst hb) <;> (try omega))
 | fail)
  all_goals ((refine zzr hQ ?_))
  all_goals (exact zzd)
theorem few_sm {d : DefV} (h : fewD d = true) (hk : ∀ n ∈ d.ns, (-9223372036854775808 ≤ n.kd ∧ n.kd < 9223372036854775808) ∧ (-9223372036854775808 ≤ n.up ∧ n.up < 9223372036854775808) ∧ (-9223372036854775808 ≤ n.at_ ∧ n.at_ < 9223372036854775808)) (hf : ∀ f ∈ d.fs, (-9223372036854775808 ≤ f.fr ∧ f.fr < 9223372036854775808) ∧ (-9223372036854775808 ≤ f.to ∧ f.to < 9223372036854775808)) : SmD d ∧ d.ns.length ≤ 60 ∧ d.fs.length ≤ 120 := by
  simp only [fewD, Bool.and_eq_true, List.all_eq_true, decide_eq_true_eq] at h
  obtain ⟨h1, h2, h3⟩ := h
  refine ⟨⟨by omega, fun n hn => ?_, fun f hf' => ?_, by omega, by omega⟩, by omega, by omega⟩
  · have a := h1 n hn
    simp only [fewN, decide_eq_true_eq] at a
    have b := hk n hn
    exact ⟨by omega, by omega, by omega, by omega, b.1, b.2.1, b.2.2⟩
  · have a := h2 f hf'
    simp only [fewF, decide_eq_true_eq] at a
    have b := hf f hf'
    exact ⟨by omega, b.1, b.2⟩
structure InD (d : DefV) : Prop where
  n : ∀ n ∈ d.ns, (-9223372036854775808 ≤ n.kd ∧ n.kd < 9223372036854775808) ∧ (-9223372036854775808 ≤ n.up ∧ n.up < 9223372036854775808) ∧ (-9223372036854775808 ≤ n.at_ ∧ n.at_ < 9223372036854775808)
  f : ∀ f ∈ d.fs, (-9223372036854775808 ≤ f.fr ∧ f.fr < 9223372036854775808) ∧ (-9223372036854775808 ≤ f.to ∧ f.to < 9223372036854775808)
  ln : d.ns.length < 9223372036854775808
  lf : d.fs.length < 9223372036854775808
theorem put_no {d : DefV} (h0 : (putD d).2 ≠ 0) : (putD d).1 = [] := by
  unfold putD at h0 ⊢
  by_cases h1 : (40 < d.ns.length ∨ 80 < d.fs.length) ∨ longD d = true
  · rw [if_pos h1]
  · rw [if_neg h1] at h0 ⊢
    by_cases h2 : argD d = true
    · rw [if_pos h2]
    · rw [if_neg h2] at h0; exact absurd rfl h0
theorem flat_len {α : Type} {f : α → List Int} {k : Nat} : ∀ (l : List α), (∀ n ∈ l, (f n).length ≤ k) → (l.flatMap f).length ≤ k * l.length
  | [], _ => by simp
  | n :: l, hh => by
    have a := hh n List.mem_cons_self
    have b := flat_len l fun x hx => hh x (List.mem_cons_of_mem _ hx)
    rw [List.flatMap_cons, List.length_append, List.length_cons, Nat.mul_succ]; omega
theorem flat_isB {α : Type} {f : α → List Int} : ∀ (l : List α), (∀ n ∈ l, IsB (f n)) → IsB (l.flatMap f)
  | [], _ => isB_nil
  | n :: l, hh => by
    rw [List.flatMap_cons]
    exact isB_app.2 ⟨hh n List.mem_cons_self, flat_isB l fun x hx => hh x (List.mem_cons_of_mem _ hx)⟩
theorem nodeL_isB {n : NodeV} (h : okNd n) : IsB (nodeL n) := by
  rw [nodeL_E h]; exact codN.isB _ ⟨okNd_iff.1 h, bit_dec _⟩
theorem flowL_isB {n : FlowV} (h : okFl n) : IsB (flowL n) := by
  rw [flowL_E]; exact codF.isB _ ⟨okFl_iff.1 h, bit_dec _⟩
theorem defL_isB {d : DefV} (h : OkD d) : IsB (defL d) := by
  have a := h.nm
  have b := h.ln
  have c := h.lf
  refine isB_app.2 ⟨by unfold IsB magicL; decide, isB_app.2 ⟨(codT (most := 128) (by decide) (by decide)).isB _ (show (d.nm.size : Int) ≤ 128 by omega), isB_app.2 ⟨(codU (most := 255) (by decide)).isB _ (show 0 ≤ (d.ns.length : Int) ∧ (d.ns.length : Int) ≤ 255 by omega), isB_app.2 ⟨flat_isB _ fun n hn => nodeL_isB (h.n n hn), isB_app.2 ⟨(codU (most := 255) (by decide)).isB _ (show 0 ≤ (d.fs.length : Int) ∧ (d.fs.length : Int) ≤ 255 by omega), flat_isB _ fun n hn => flowL_isB (h.f n hn)⟩⟩⟩⟩⟩
theorem okD_arg {d : DefV} (h : OkD d) : argD d = false := by
  unfold argD
  simp only [Bool.or_eq_false_iff, List.any_eq_false, Bool.not_eq_true]
  exact ⟨fun n hn => (h.n n hn).1, fun n hn => (h.f n hn).1⟩
theorem defL_len {d : DefV} (h : OkD d) (hs : SmD d) : (defL d).length ≤ 2000000 := by
  have b := h.ln
  have c := h.lf
  rw [← endR_ok (okD_arg h) (by omega) (by omega)]
  unfold endR
  have a1 := txtL_len d.nm
  have a2 := numR_len d.ns.length
  have a3 := numR_len d.fs.length
  have hnm := hs.nm
  have g1 := flat_len (f := nodeR) (k := 5000) d.ns fun n hn => nodeR_len (hs.n n hn)
  have g2 := flat_len (f := flowR) (k := 5000) d.fs fun n hn => flowR_len (hs.f n hn)
  have em : magicL.length = 3 := rfl
  generalize txtL d.nm = x1 at *
  generalize numR d.ns.length = x2 at *
  generalize numR d.fs.length = x3 at *
  generalize d.ns.flatMap nodeR = x4 at *
  generalize d.fs.flatMap flowR = x5 at *
  simp only [List.length_append]
  omega
theorem takeD_no {l : List Int} {d : DefV} {k : TkE} (h : takeD l = (d, k)) (hk : k ≠ .ok) : d = DefV.z := by
  rw [takeD_tk] at h
  split at h
  · exact (congrArg Prod.fst h).symm
  split at h
  · exact (congrArg Prod.fst h).symm
  split at h
  · exact (congrArg Prod.fst h).symm
  unfold tkNd at h
  split at h
  · exact (congrArg Prod.fst h).symm
  split at h
  · exact (congrArg Prod.fst h).symm
  unfold tkFl at h
  split at h
  · exact (congrArg Prod.fst h).symm
  split at h
  · exact absurd (congrArg Prod.snd h).symm hk
  · exact (congrArg Prod.fst h).symm
theorem CallD.nil1b {f : FuncId} {r x : AV} {g g' : Hp} {k : Nat} (hc : CallD Tryd.prog f [x, .sl k []] g r g') : CallD Tryd.prog f [x, .raw (.slice none 0 0)] g r g' := by
  intro C vs hh hv
  refine hc C vs hh ?_
  cases hv with
  | cons a0 hv => cases hv with
    | cons a1 b => exact .cons a0 (.cons a1.nilsl b)
/-- What is told in the end: nothing, a number at a place, a number. -/
theorem tk_told (k : TkE) : (errK k = none ∧ reK k = ⟨false, [], 0, false, ⟨#[]⟩, ⟨#[]⟩⟩) ∨ (∃ p c, errK k = some (.wrap p (.code c)) ∧ reK k = rePl p c) ∨ (errK k = some (.code 10) ∧ reK k = ⟨true, [], 10, false, ⟨#[]⟩, ⟨#[]⟩⟩) := by
  rcases k with _ | ⟨a, i, c⟩ | _
  · exact .inl ⟨rfl, rfl⟩
  · rcases a with _ | _ | _ | _ | a <;> exact .inr (.inl ⟨_, _, rfl, rfl⟩)
  · exact .inr (.inr ⟨rfl, rfl⟩)
theorem law_WireTakes (l : List Int) (hB : IsB l) (hl : l.length < 9223372036854775808) : CallD Tryd.prog 4 [.sl 1 (u8s l)] noHeap (.raw (.bool true)) noHeap := by
  have hlv := c_live14
  by_cases hb : (l.length : Int) > 65536
  · refine zzg (nt := 49) (rs := [.tmp 2]) Tryd.func4 ?_; intro Q hQ hW
    repeat' (first
 | (with_reducible refine run_n ?_; with_reducible first | refine hK _ _ (by simp) ?_ | refine hK _ _ ?_; clear hK K)
 | (refine zzc ?_)
 | (with_reducible refine awp_regT (by kernel_rfl) ?_; intro K hK)
 | (with_reducible refine awp_regAM (id := 5) [(3, some 3), (5, some 5), (31, some 6), (38, some 6), (45, some 6)] mixed (by kernel_rfl) (by kernel_rfl) ?_; intro K hK)
 | (with_reducible refine a_cond (ht := ?_) (hf := ?_) <;> intro hb <;> (try simp at hb) <;> (try contradiction) <;> (try subst hb) <;> (try omega))
 | (with_reducible first | refine a_move (hr:=?_) | refine a_assign (hr:=?_) | refine a_load (hr:=?_) | refine a_fieldAddr (hr:=?_) | refine a_bin (hr:=?_) | refine a_lenS (hr:=?_) | refine a_lenR (hr:=?_) | refine a_extract (hr:=?_) | refine a_pick (hr:=?_) | refine a_un (hr:=?_) | refine a_store (hr:=?_) | refine a_alloc (hr:=?_) | refine a_eqI (hr:=?_) | refine a_neI (hr:=?_) | refine a_eqB (hr:=?_) | refine a_neB (hr:=?_) | refine a_eqS (hr:=?_) | refine a_neS (hr:=?_) | refine a_call0 (hcall := hlv) (hr:=?_) | refine a_gT (hr:=?_) | refine a_gF (hr:=?_) | refine a_gU (hr:=?_))
 | (with_reducible refine a_gB (hT := ?_) (hF := ?_) <;> intro hb <;> (try simp at hb) <;> (try contradiction) <;> (try subst hb) <;> (try omega))
 | fail)
    all_goals ((refine zzr hQ ?_))
    all_goals (exact zzd)
  · have k1 := c_wTakeD l hB (by omega)
    have k2 := c_r14Take l hB (by omega)
    have hn : (takeD l).1.ns.length < 9223372036854775808 ∧ (takeD l).1.fs.length < 9223372036854775808 := by
      by_cases h0 : (takeD l).2 = .ok
      · have := (take_form hB (d := (takeD l).1) (Prod.ext rfl h0)).1
        have a := this.ln
        have b := this.lf
        omega
      · have hz := takeD_no (l := l) (d := (takeD l).1) (k := (takeD l).2) rfl h0
        rw [hz]; simp [DefV.z]
    have k3 := c_r13Same (takeD l).1 (takeD l).1 hn.1 hn.1 hn.2 hn.2
    rw [decide_eq_true rfl] at k3
    generalize takeD l = t at k1 k2 k3
    obtain ⟨d, k⟩ := t
    simp only at k1 k2 k3
    rcases tk_told k with ⟨h1, h2⟩ | ⟨p, c, h1, h2⟩ | ⟨h1, h2⟩
    · rw [h1] at k1
      rw [h2] at k2
      simp only [errO_none, RE.av, plAV_nil] at k1 k2
      have k4 : CallD Tryd.prog 13 [.raw .nilIface] noHeap (.raw (.int .i64 0)) noHeap := c_FCode none
      have k5 : CallD Tryd.prog 15 [.raw .nilIface] noHeap (.sl 1 (strs [])) noHeap := c_FTrail none (by simp [trailE])
      have k6 := CallD.nil1b (c_RSame [] [] (by simp) (by simp))
      clear h1 h2 hB
      refine zzg (nt := 49) (rs := [.tmp 2]) Tryd.func4 ?_; intro Q hQ hW
      repeat' (first
 | (with_reducible refine run_n ?_; with_reducible first | refine hK _ _ (by simp) ?_ | refine hK _ _ ?_; clear hK K)
 | (refine zzc ?_)
 | (with_reducible refine awp_regT (by kernel_rfl) ?_; intro K hK)
 | (with_reducible refine awp_regCM (id := 5) [(3, some 3), (5, some 5), (31, some 6), (38, some 6), (45, some 6)] [(3, some 3), (5, some 5), (25, none), (26, none), (31, some 6), (36, none), (38, some 6), (43, none), (44, none), (45, some 6), (46, none)] mixed (by kernel_rfl) (by kernel_rfl) (by kernel_rfl) ?_; intro K hK)
 | (with_reducible refine a_cond (ht := ?_) (hf := ?_) <;> intro hb <;> (try simp at hb) <;> (try contradiction) <;> (try subst hb) <;> (try omega))
 | (with_reducible first | refine a_move (hr:=?_) | refine a_assign (hr:=?_) | refine a_load (hr:=?_) | refine a_fieldAddr (hr:=?_) | refine a_bin (hr:=?_) | refine a_lenS (hr:=?_) | refine a_lenR (hr:=?_) | refine a_extract (hr:=?_) | refine a_pick (hr:=?_) | refine a_un (hr:=?_) | refine a_store (hr:=?_) | refine a_alloc (hr:=?_) | refine a_eqI (hr:=?_) | refine a_neI (hr:=?_) | refine a_eqB (hr:=?_) | refine a_neB (hr:=?_) | refine a_eqS (hr:=?_) | refine a_neS (hr:=?_) | refine a_call0 (hcall := hlv) (hr:=?_) | refine a_callF (hcall := k1) (hr:=?_) | refine a_callF (hcall := k2) (hr:=?_) | refine a_callF (hcall := k3) (hr:=?_) | refine a_callF (hcall := k4) (hr:=?_) | refine a_callF (hcall := k5) (hr:=?_) | refine a_callF (hcall := k6) (hr:=?_) | refine a_gT (hr:=?_) | refine a_gF (hr:=?_) | refine a_gU (hr:=?_))
 | (with_reducible refine a_gB (hT := ?_) (hF := ?_) <;> intro hb <;> (try simp at hb) <;> (try contradiction) <;> (try subst hb) <;> (try omega))
 | fail)
      all_goals ((refine zzr hQ ?_))
      all_goals (exact zzd)
    · rw [h1] at k1
      rw [h2] at k2
      have k4 := c_FCode (some (.wrap p (.code c)))
      have k5 := c_FTrail (some (.wrap p (.code c))) (by simp [trailE, placesE])
      have k6 := c_RSame [p] [p] (by simp) (by simp)
      rw [decide_eq_true rfl] at k6
      rw [show codeE (some (.wrap p (.code c))) = c from rfl] at k4
      rw [show trailE (some (.wrap p (.code c))) = [p] from rfl] at k5
      simp only [errO_some, rePl, RE.av, plAV_cons] at k1 k2 k4 k5
      generalize EV.wrap p (.code c) = e at k1 k4 k5
      clear h1 h2 hB
      refine zzg (nt := 49) (rs := [.tmp 2]) Tryd.func4 ?_; intro Q hQ hW
      repeat' (first
 | (with_reducible refine run_n ?_; with_reducible first | refine hK _ _ (by simp) ?_ | refine hK _ _ ?_; clear hK K)
 | (refine zzc ?_)
 | (with_reducible refine awp_regT (by kernel_rfl) ?_; intro K hK)
 | (with_reducible refine awp_regCM (id := 5) [(3, some 3), (5, some 5), (31, some 6), (38, some 6), (45, some 6)] [(3, some 3), (5, some 5), (25, none), (26, none), (31, some 6), (36, none), (38, some 6), (43, none), (44, none), (45, some 6), (46, none)] mixed (by kernel_rfl) (by kernel_rfl) (by kernel_rfl) ?_; intro K hK)
 | (with_reducible refine a_cond (ht := ?_) (hf := ?_) <;> intro hb <;> (try simp at hb) <;> (try contradiction) <;> (try subst hb) <;> (try omega))
 | (with_reducible first | refine a_move (hr:=?_) | refine a_assign (hr:=?_) | refine a_load (hr:=?_) | refine a_fieldAddr (hr:=?_) | refine a_bin (hr:=?_) | refine a_lenS (hr:=?_) | refine a_lenR (hr:=?_) | refine a_extract (hr:=?_) | refine a_pick (hr:=?_) | refine a_un (hr:=?_) | refine a_store (hr:=?_) | refine a_alloc (hr:=?_) | refine a_eqI (hr:=?_) | refine a_neI (hr:=?_) | refine a_eqB (hr:=?_) | refine a_neB (hr:=?_) | refine a_eqS (hr:=?_) | refine a_neS (hr:=?_) | refine a_call0 (hcall := hlv) (hr:=?_) | refine a_callF (hcall := k1) (hr:=?_) | refine a_callF (hcall := k2) (hr:=?_) | refine a_callF (hcall := k3) (hr:=?_) | refine a_callF (hcall := k4) (hr:=?_) | refine a_callF (hcall := k5) (hr:=?_) | refine a_callF (hcall := k6) (hr:=?_) | refine a_gT (hr:=?_) | refine a_gF (hr:=?_) | refine a_gU (hr:=?_))
 | (with_reducible refine a_gB (hT := ?_) (hF := ?_) <;> intro hb <;> (try simp at hb) <;> (try contradiction) <;> (try subst hb) <;> (try omega))
 | fail)
      all_goals ((refine zzr hQ ?_))
      all_goals (exact zzd)
    · rw [h1] at k1
      rw [h2] at k2
      have k4 := c_FCode (some (.code 10))
      have k5 := c_FTrail (some (.code 10)) (by simp [trailE, placesE])
      have k6 := CallD.nil1b (c_RSame [] [] (by simp) (by simp))
      rw [show codeE (some (.code 10)) = 10 from rfl] at k4
      rw [show trailE (some (.code 10)) = [] from rfl] at k5
      simp only [errO_some, RE.av, plAV_nil] at k1 k2 k4 k5
      generalize EV.code 10 = e at k1 k4 k5
      clear h1 h2 hB
      refine zzg (nt := 49) (rs := [.tmp 2]) Tryd.func4 ?_; intro Q hQ hW
      repeat' (first
 | (with_reducible refine run_n ?_; with_reducible first | refine hK _ _ (by simp) ?_ | refine hK _ _ ?_; clear hK K)
 | (refine zzc ?_)
 | (with_reducible refine awp_regT (by kernel_rfl) ?_; intro K hK)
 | (with_reducible refine awp_regCM (id := 5) [(3, some 3), (5, some 5), (31, some 6), (38, some 6), (45, some 6)] [(3, some 3), (5, some 5), (25, none), (26, none), (31, some 6), (36, none), (38, some 6), (43, none), (44, none), (45, some 6), (46, none)] mixed (by kernel_rfl) (by kernel_rfl) (by kernel_rfl) ?_; intro K hK)
 | (with_reducible refine a_cond (ht := ?_) (hf := ?_) <;> intro hb <;> (try simp at hb) <;> (try contradiction) <;> (try subst hb) <;> (try omega))
 | (with_reducible first | refine a_move (hr:=?_) | refine a_assign (hr:=?_) | refine a_load (hr:=?_) | refine a_fieldAddr (hr:=?_) | refine a_bin (hr:=?_) | refine a_lenS (hr:=?_) | refine a_lenR (hr:=?_) | refine a_extract (hr:=?_) | refine a_pick (hr:=?_) | refine a_un (hr:=?_) | refine a_store (hr:=?_) | refine a_alloc (hr:=?_) | refine a_eqI (hr:=?_) | refine a_neI (hr:=?_) | refine a_eqB (hr:=?_) | refine a_neB (hr:=?_) | refine a_eqS (hr:=?_) | refine a_neS (hr:=?_) | refine a_call0 (hcall := hlv) (hr:=?_) | refine a_callF (hcall := k1) (hr:=?_) | refine a_callF (hcall := k2) (hr:=?_) | refine a_callF (hcall := k3) (hr:=?_) | refine a_callF (hcall := k4) (hr:=?_) | refine a_callF (hcall := k5) (hr:=?_) | refine a_callF (hcall := k6) (hr:=?_) | refine a_gT (hr:=?_) | refine a_gF (hr:=?_) | refine a_gU (hr:=?_))
 | (with_reducible refine a_gB (hT := ?_) (hF := ?_) <;> intro hb <;> (try simp at hb) <;> (try contradiction) <;> (try subst hb) <;> (try omega))
 | fail)
      all_goals ((refine zzr hQ ?_))
      all_goals (exact zzd)
theorem errK_6 (k i : Nat) : ∃ e, errK (.at_ k i 6) = some e ∧ codeE (some e) = 6 := by
  rcases k with _ | _ | _ | _ | a <;> exact ⟨_, rfl, rfl⟩
theorem law_WireCut (d : DefV) (hd : InD d) (at_ : Int) (l : List Int) (ha : -9223372036854775808 ≤ at_ ∧ at_ < 9223372036854775808) (hB : IsB l) (hl : l.length < 9223372036854775808) : CallD Tryd.prog 3 [defAV d, .raw (.int .i64 at_), .sl 1 (u8s l)] noHeap (.raw (.bool true)) noHeap := by
  have hlv := c_live14
  have f1 := c_Few13 d hd.ln hd.lf
  cases hF : fewD d with
  | false =>
    rw [hF] at f1
    refine zzg (nt := 68) (rs := [.tmp 6]) Tryd.func3 ?_; intro Q hQ hW
    repeat' (first
 | (with_reducible refine run_n ?_; with_reducible first | refine hK _ _ (by simp) ?_ | refine hK _ _ ?_; clear hK K)
 | (refine zzc ?_)
 | (with_reducible refine awp_regT (by kernel_rfl) ?_; intro K hK)
 | (with_reducible refine a_cond (ht := ?_) (hf := ?_) <;> intro hb <;> (try simp at hb) <;> (try contradiction) <;> (try subst hb) <;> (try omega))
 | (with_reducible first | refine a_move (hr:=?_) | refine a_assign (hr:=?_) | refine a_load (hr:=?_) | refine a_bin (hr:=?_) | refine a_lenS (hr:=?_) | refine a_lenR (hr:=?_) | refine a_extract (hr:=?_) | refine a_pick (hr:=?_) | refine a_un (hr:=?_) | refine a_store (hr:=?_) | refine a_box (hr:=?_) | refine a_alloc (hr:=?_) | refine a_eqB (hr:=?_) | refine a_neB (hr:=?_) | refine a_sliceArr (hr:=?_) | refine a_eqS (hr:=?_) | refine a_neS (hr:=?_) | refine a_sliceS (hr:=?_) | refine a_sliceR (hr:=?_) | refine a_buildSlice (hr:=?_) | refine a_call0 (hcall := hlv) (hr:=?_) | refine a_callF (hcall := f1) (hr:=?_) | refine a_gT (hr:=?_) | refine a_gF (hr:=?_) | refine a_gU (hr:=?_))
 | (with_reducible refine a_gB (hT := ?_) (hF := ?_) <;> intro hb <;> (try simp at hb) <;> (try contradiction) <;> (try subst hb) <;> (try omega))
 | fail)
    all_goals ((refine zzr hQ ?_))
    all_goals (exact zzd)
  | true =>
    rw [hF] at f1
    by_cases h100 : (l.length : Int) > 100
    · refine zzg (nt := 68) (rs := [.tmp 6]) Tryd.func3 ?_; intro Q hQ hW
      repeat' (first
 | (with_reducible refine run_n ?_; with_reducible first | refine hK _ _ (by simp) ?_ | refine hK _ _ ?_; clear hK K)
 | (refine zzc ?_)
 | (with_reducible refine awp_regT (by kernel_rfl) ?_; intro K hK)
 | (with_reducible refine a_cond (ht := ?_) (hf := ?_) <;> intro hb <;> (try simp at hb) <;> (try contradiction) <;> (try subst hb) <;> (try omega))
 | (with_reducible first | refine a_move (hr:=?_) | refine a_assign (hr:=?_) | refine a_load (hr:=?_) | refine a_bin (hr:=?_) | refine a_lenS (hr:=?_) | refine a_lenR (hr:=?_) | refine a_extract (hr:=?_) | refine a_pick (hr:=?_) | refine a_un (hr:=?_) | refine a_store (hr:=?_) | refine a_box (hr:=?_) | refine a_alloc (hr:=?_) | refine a_eqB (hr:=?_) | refine a_neB (hr:=?_) | refine a_sliceArr (hr:=?_) | refine a_eqS (hr:=?_) | refine a_neS (hr:=?_) | refine a_sliceS (hr:=?_) | refine a_sliceR (hr:=?_) | refine a_buildSlice (hr:=?_) | refine a_call0 (hcall := hlv) (hr:=?_) | refine a_callF (hcall := f1) (hr:=?_) | refine a_gT (hr:=?_) | refine a_gF (hr:=?_) | refine a_gU (hr:=?_))
 | (with_reducible refine a_gB (hT := ?_) (hF := ?_) <;> intro hb <;> (try simp at hb) <;> (try contradiction) <;> (try subst hb) <;> (try omega))
 | fail)
      all_goals ((refine zzr hQ ?_))
      all_goals (exact zzd)
    obtain ⟨h1, h2, h3⟩ := few_sm hF hd.n hd.f
    have k1 := c_WPut d h1
    by_cases h0 : (putD d).2 = 0
    · obtain ⟨ho, he⟩ := put_ok h0
      have hlen := defL_len ho h1
      have hBd := defL_isB ho
      rw [h0, he, bytAV_def] at k1
      by_cases hat : at_ < 0 ∨ ((defL d).length : Int) ≤ at_
      · clear hBd ho he h1
        generalize defL d = b at *
        rcases Int.lt_or_le at_ 0 with g | g
        · refine zzg (nt := 68) (rs := [.tmp 6]) Tryd.func3 ?_; intro Q hQ hW
          repeat' (first
 | (with_reducible refine run_n ?_; with_reducible first | refine hK _ _ (by simp) ?_ | refine hK _ _ ?_; clear hK K)
 | (refine zzc ?_)
 | (with_reducible refine awp_regT (by kernel_rfl) ?_; intro K hK)
 | (with_reducible refine a_cond (ht := ?_) (hf := ?_) <;> intro hb <;> (try simp at hb) <;> (try contradiction) <;> (try subst hb) <;> (try omega))
 | (with_reducible first | refine a_move (hr:=?_) | refine a_assign (hr:=?_) | refine a_load (hr:=?_) | refine a_bin (hr:=?_) | refine a_lenS (hr:=?_) | refine a_lenR (hr:=?_) | refine a_extract (hr:=?_) | refine a_pick (hr:=?_) | refine a_un (hr:=?_) | refine a_store (hr:=?_) | refine a_box (hr:=?_) | refine a_alloc (hr:=?_) | refine a_eqB (hr:=?_) | refine a_neB (hr:=?_) | refine a_sliceArr (hr:=?_) | refine a_eqS (hr:=?_) | refine a_neS (hr:=?_) | refine a_sliceS (hr:=?_) | refine a_sliceR (hr:=?_) | refine a_buildSlice (hr:=?_) | refine a_call0 (hcall := hlv) (hr:=?_) | refine a_callF (hcall := f1) (hr:=?_) | refine a_callF (hcall := k1) (hr:=?_) | refine a_gT (hr:=?_) | refine a_gF (hr:=?_) | refine a_gU (hr:=?_))
 | (with_reducible refine a_gB (hT := ?_) (hF := ?_) <;> intro hb <;> (try simp at hb) <;> (try contradiction) <;> (try subst hb) <;> (try omega))
 | fail)
          all_goals ((refine zzr hQ ?_))
          all_goals (exact zzd)
        · have g2 : (b.length : Int) ≤ at_ := by omega
          clear hat
          refine zzg (nt := 68) (rs := [.tmp 6]) Tryd.func3 ?_; intro Q hQ hW
          repeat' (first
 | (with_reducible refine run_n ?_; with_reducible first | refine hK _ _ (by simp) ?_ | refine hK _ _ ?_; clear hK K)
 | (refine zzc ?_)
 | (with_reducible refine awp_regT (by kernel_rfl) ?_; intro K hK)
 | (with_reducible refine a_cond (ht := ?_) (hf := ?_) <;> intro hb <;> (try simp at hb) <;> (try contradiction) <;> (try subst hb) <;> (try omega))
 | (with_reducible first | refine a_move (hr:=?_) | refine a_assign (hr:=?_) | refine a_load (hr:=?_) | refine a_bin (hr:=?_) | refine a_lenS (hr:=?_) | refine a_lenR (hr:=?_) | refine a_extract (hr:=?_) | refine a_pick (hr:=?_) | refine a_un (hr:=?_) | refine a_store (hr:=?_) | refine a_box (hr:=?_) | refine a_alloc (hr:=?_) | refine a_eqB (hr:=?_) | refine a_neB (hr:=?_) | refine a_sliceArr (hr:=?_) | refine a_eqS (hr:=?_) | refine a_neS (hr:=?_) | refine a_sliceS (hr:=?_) | refine a_sliceR (hr:=?_) | refine a_buildSlice (hr:=?_) | refine a_call0 (hcall := hlv) (hr:=?_) | refine a_callF (hcall := f1) (hr:=?_) | refine a_callF (hcall := k1) (hr:=?_) | refine a_gT (hr:=?_) | refine a_gF (hr:=?_) | refine a_gU (hr:=?_))
 | (with_reducible refine a_gB (hT := ?_) (hF := ?_) <;> intro hb <;> (try simp at hb) <;> (try contradiction) <;> (try subst hb) <;> (try omega))
 | fail)
          all_goals ((refine zzr hQ ?_))
          all_goals (exact zzd)
      obtain ⟨m, rfl⟩ : ∃ m : Nat, at_ = m := ⟨at_.toNat, by omega⟩
      have hm : m < (defL d).length := by omega
      obtain ⟨kk, ii, hc⟩ := take_cut ho hm
      have k2 := c_wTakeD ((defL d).take m) (fun x hx => hBd x (List.mem_of_mem_take hx)) (by rw [List.length_take]; omega)
      obtain ⟨e1, he1, hc1⟩ := errK_6 kk ii
      rw [hc] at k2
      simp only [he1, errO_some] at k2
      have k5 := c_FIs (some e1) 6
      rw [hc1, decide_eq_true rfl] at k5
      simp only [errO_some] at k5
      have k3 := c_rJoinT [defL d, l] (by simp; omega) (by simp)
      simp only [rws_cons, rws_nil, List.flatten_cons, List.flatten_nil, List.append_nil] at k3
      have k4 := c_wTakeD (defL d ++ l) (isB_app.2 ⟨hBd, hB⟩) (by rw [List.length_append]; omega)
      rw [take_more ho] at k4
      by_cases hln : l = []
      · subst hln
        rw [if_pos rfl] at k4
        simp only [errK, errO_none] at k4
        have k6 : CallD Tryd.prog 10 [.raw .nilIface, .raw (.int .i64 10)] noHeap (.raw (.bool false)) noHeap := c_FIs none 10
        clear hBd ho he h1 hc hat hB
        rw [List.append_nil] at k3 k4
        generalize defL d = b at *
        refine zzg (nt := 68) (rs := [.tmp 6]) Tryd.func3 ?_; intro Q hQ hW
        repeat' (first
 | (with_reducible refine run_n ?_; with_reducible first | refine hK _ _ (by simp) ?_ | refine hK _ _ ?_; clear hK K)
 | (refine zzc ?_)
 | (with_reducible refine awp_regT (by kernel_rfl) ?_; intro K hK)
 | (with_reducible refine a_cond (ht := ?_) (hf := ?_) <;> intro hb <;> (try simp at hb) <;> (try contradiction) <;> (try subst hb) <;> (try omega))
 | (with_reducible first | refine a_move (hr:=?_) | refine a_assign (hr:=?_) | refine a_load (hr:=?_) | refine a_bin (hr:=?_) | refine a_lenS (hr:=?_) | refine a_lenR (hr:=?_) | refine a_extract (hr:=?_) | refine a_pick (hr:=?_) | refine a_un (hr:=?_) | refine a_store (hr:=?_) | refine a_box (hr:=?_) | refine a_alloc (hr:=?_) | refine a_eqB (hr:=?_) | refine a_neB (hr:=?_) | refine a_sliceArr (hr:=?_) | refine a_eqS (hr:=?_) | refine a_neS (hr:=?_) | refine a_sliceS (hr:=?_) | refine a_sliceR (hr:=?_) | refine a_buildSlice (hr:=?_) | refine a_call0 (hcall := hlv) (hr:=?_) | refine a_callF (hcall := f1) (hr:=?_) | refine a_callF (hcall := k1) (hr:=?_) | refine a_callF (hcall := k2) (hr:=?_) | refine a_callF (hcall := k3) (hr:=?_) | refine a_callF (hcall := k4) (hr:=?_) | refine a_callF (hcall := k5) (hr:=?_) | refine a_callF (hcall := k6) (hr:=?_) | refine a_gT (hr:=?_) | refine a_gF (hr:=?_) | refine a_gU (hr:=?_))
 | (with_reducible refine a_gB (hT := ?_) (hF := ?_) <;> intro hb <;> (try simp at hb) <;> (try contradiction) <;> (try subst hb) <;> (try omega))
 | fail)
        all_goals ((refine zzr hQ ?_))
        all_goals (exact zzd)
      · rw [if_neg hln] at k4
        simp only [errK, errO_some] at k4
        have k6 := c_FIs (some (.code 10)) 10
        rw [show codeE (some (.code 10)) = 10 from rfl, decide_eq_true rfl] at k6
        simp only [errO_some] at k6
        have hp := List.length_pos_iff.2 hln
        clear hBd ho he h1 hc hat hB hln
        generalize EV.code 10 = e2 at *
        generalize defL d = b at *
        refine zzg (nt := 68) (rs := [.tmp 6]) Tryd.func3 ?_; intro Q hQ hW
        repeat' (first
 | (with_reducible refine run_n ?_; with_reducible first | refine hK _ _ (by simp) ?_ | refine hK _ _ ?_; clear hK K)
 | (refine zzc ?_)
 | (with_reducible refine awp_regT (by kernel_rfl) ?_; intro K hK)
 | (with_reducible refine a_cond (ht := ?_) (hf := ?_) <;> intro hb <;> (try simp at hb) <;> (try contradiction) <;> (try subst hb) <;> (try omega))
 | (with_reducible first | refine a_move (hr:=?_) | refine a_assign (hr:=?_) | refine a_load (hr:=?_) | refine a_bin (hr:=?_) | refine a_lenS (hr:=?_) | refine a_lenR (hr:=?_) | refine a_extract (hr:=?_) | refine a_pick (hr:=?_) | refine a_un (hr:=?_) | refine a_store (hr:=?_) | refine a_box (hr:=?_) | refine a_alloc (hr:=?_) | refine a_eqB (hr:=?_) | refine a_neB (hr:=?_) | refine a_sliceArr (hr:=?_) | refine a_eqS (hr:=?_) | refine a_neS (hr:=?_) | refine a_sliceS (hr:=?_) | refine a_sliceR (hr:=?_) | refine a_buildSlice (hr:=?_) | refine a_call0 (hcall := hlv) (hr:=?_) | refine a_callF (hcall := f1) (hr:=?_) | refine a_callF (hcall := k1) (hr:=?_) | refine a_callF (hcall := k2) (hr:=?_) | refine a_callF (hcall := k3) (hr:=?_) | refine a_callF (hcall := k4) (hr:=?_) | refine a_callF (hcall := k5) (hr:=?_) | refine a_callF (hcall := k6) (hr:=?_) | refine a_gT (hr:=?_) | refine a_gF (hr:=?_) | refine a_gU (hr:=?_))
 | (with_reducible refine a_gB (hT := ?_) (hF := ?_) <;> intro hb <;> (try simp at hb) <;> (try contradiction) <;> (try subst hb) <;> (try omega))
 | fail)
        all_goals ((refine zzr hQ ?_))
        all_goals (rw [show decide (0 < l.length) = true from decide_eq_true hp]; exact zzd)
    · rw [put_no h0, bytAV_nil] at k1
      generalize (putD d).2 = e at *
      refine zzg (nt := 68) (rs := [.tmp 6]) Tryd.func3 ?_; intro Q hQ hW
      repeat' (first
 | (with_reducible refine run_n ?_; with_reducible first | refine hK _ _ (by simp) ?_ | refine hK _ _ ?_; clear hK K)
 | (refine zzc ?_)
 | (with_reducible refine awp_regT (by kernel_rfl) ?_; intro K hK)
 | (with_reducible refine a_cond (ht := ?_) (hf := ?_) <;> intro hb <;> (try simp at hb) <;> (try contradiction) <;> (try subst hb) <;> (try omega))
 | (with_reducible first | refine a_move (hr:=?_) | refine a_assign (hr:=?_) | refine a_load (hr:=?_) | refine a_bin (hr:=?_) | refine a_lenS (hr:=?_) | refine a_lenR (hr:=?_) | refine a_extract (hr:=?_) | refine a_pick (hr:=?_) | refine a_un (hr:=?_) | refine a_store (hr:=?_) | refine a_box (hr:=?_) | refine a_alloc (hr:=?_) | refine a_eqB (hr:=?_) | refine a_neB (hr:=?_) | refine a_sliceArr (hr:=?_) | refine a_eqS (hr:=?_) | refine a_neS (hr:=?_) | refine a_sliceS (hr:=?_) | refine a_sliceR (hr:=?_) | refine a_buildSlice (hr:=?_) | refine a_call0 (hcall := hlv) (hr:=?_) | refine a_callF (hcall := f1) (hr:=?_) | refine a_callF (hcall := k1) (hr:=?_) | refine a_gT (hr:=?_) | refine a_gF (hr:=?_) | refine a_gU (hr:=?_))
 | (with_reducible refine a_gB (hT := ?_) (hF := ?_) <;> intro hb <;> (try simp at hb) <;> (try contradiction) <;> (try subst hb) <;> (try omega))
 | fail)
      all_goals ((refine zzr hQ ?_))
      all_goals (exact zzd)
/-! rows -/
abbrev NTp := Int × ByteArray × Int × ByteArray × ByteArray × ByteArray × Int × Bool
abbrev FTp := Int × Int × ByteArray × Bool
def nof (x : NTp) : NodeV := ⟨x.1, x.2.1, x.2.2.1, x.2.2.2.1, x.2.2.2.2.1, x.2.2.2.2.2.1, x.2.2.2.2.2.2.1, x.2.2.2.2.2.2.2⟩
def fof (x : FTp) : FlowV := ⟨x.1, x.2.1, x.2.2.1, x.2.2.2⟩
def dof (x : ByteArray × List NTp × List FTp) : DefV := ⟨x.1, x.2.1.map nof, x.2.2.map fof⟩
def inRg (n : Int) : Prop := -9223372036854775808 ≤ n ∧ n < 9223372036854775808
theorem dof_av (x : ByteArray × List NTp × List FTp) : defAV (dof x) = .agg [.raw (.string x.1), .sl 8 (x.2.1.map fun y => nodeAV (nof y)), .sl 4 (x.2.2.map fun y => flowAV (fof y))] := by
  simp only [defAV, dof, List.map_map]; rfl
theorem dof_in {x : ByteArray × List NTp × List FTp} (hln : x.2.1.length < 9223372036854775808) (hlf : x.2.2.length < 9223372036854775808) (hn : ∀ y ∈ x.2.1, inRg y.1 ∧ inRg y.2.2.1 ∧ inRg y.2.2.2.2.2.2.1) (hf : ∀ y ∈ x.2.2, inRg y.1 ∧ inRg y.2.1) : InD (dof x) := by
  refine ⟨fun n h => ?_, fun f h => ?_, by simpa [dof] using hln, by simpa [dof] using hlf⟩
  · obtain ⟨y, hy, rfl⟩ := List.mem_map.1 h
    exact hn y hy
  · obtain ⟨y, hy, rfl⟩ := List.mem_map.1 h
    exact hf y hy
theorem row_WireCut (x : ByteArray × List NTp × List FTp) (a : Int) (l : List Int) (hln : x.2.1.length < 9223372036854775808) (hlf : x.2.2.length < 9223372036854775808) (hn : ∀ y ∈ x.2.1, inRg y.1 ∧ inRg y.2.2.1 ∧ inRg y.2.2.2.2.2.2.1) (hf : ∀ y ∈ x.2.2, inRg y.1 ∧ inRg y.2.1) (ha : inRg a) (hB : IsB l) (hl : l.length < 9223372036854775808) : CallD Tryd.prog 3 [.agg [.raw (.string x.1), .sl 8 (x.2.1.map fun y => nodeAV (nof y)), .sl 4 (x.2.2.map fun y => flowAV (fof y))], .raw (.int .i64 a), .sl 1 (u8s l)] noHeap (.raw (.bool true)) noHeap := by
  have := law_WireCut (dof x) (dof_in hln hlf hn hf) a l ha hB hl
  rwa [dof_av] at this
end Go.Proofs.YtejeemhenoobjaaDoor.Asl

